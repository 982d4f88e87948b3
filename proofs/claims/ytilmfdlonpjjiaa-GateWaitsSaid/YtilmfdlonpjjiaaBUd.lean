/- picked: a number below another one. -/
import Derived.Test.YtilmfdlonpjjiaaVLaw
import Derived.WalkArith
import Derived.IntWalk
import Derived.Test.YtilmfdlonpjjiaaBUa
import Derived.Test.YtilmfdlonpjjiaaBUb
import Derived.Test.YtilmfdlonpjjiaaBUc
namespace Go.Proofs.Ytilmfdlonpjjiaa
set_option linter.unusedVariables false
set_option linter.unusedSimpArgs false
set_option linter.unusedSectionVars false
open Go.ChangeShapes Go.WideShapes Go.ChangeAt Go.RowKit Go.Joins
set_option maxRecDepth 10000
theorem picked_fn (n m : Int) (hm : 0 < m) (hm2 : m ≤ 9223372036854775807) : FnV Try.prog G0 14 [nI .i64 n, nI .i64 m] (nI .i64 (n % m)) := by
  refine fn_of_vwp Γok Try.func14 (by kernel_rfl) rfl (by simp [Try.ntmps14]) (wpv_ok Γok (by kernel_rfl) _ _ _ ?_); conv => whnf
  refine bindP_intro (if_neg (by omega)) ?_
  conv => whnf
  refine bool_cases (fun h => ?_) (fun h => ?_)
  · conv => whnf
    refine ⟨_, rfl, congrArg (fun x => some (nI .i64 x)) ?_⟩
    have h := of_decide_eq_true h
    have h1 := Int.emod_nonneg n (show m ≠ 0 by omega)
    have h2 := Int.emod_lt_of_pos n hm
    have : n.tmod m + m = n % m := by
      rw [Int.tmod_eq_emod] at *
      split at h <;> rename_i hc
      · omega
      · rw [if_neg hc]; omega
    rw [this, ws_i64 (by omega) (by omega)]
  · conv => whnf
    refine ⟨_, rfl, congrArg (fun x => some (nI .i64 x)) ?_⟩
    have h := of_decide_eq_false h
    have h1 := Int.emod_nonneg n (show m ≠ 0 by omega)
    rw [Int.tmod_eq_emod] at *
    split at h <;> rename_i hc
    · rw [if_pos hc]; omega
    · have := Int.emod_lt_of_pos n hm
      rw [if_neg hc]; omega
end Go.Proofs.Ytilmfdlonpjjiaa
namespace Go.Proofs.Ytilmfdlonpjjiaa
set_option linter.unusedVariables false
set_option linter.unusedSimpArgs false
set_option linter.unusedSectionVars false
open Go.ChangeShapes Go.WideShapes Go.ChangeAt Go.RowKit Go.Joins
set_option maxRecDepth 10000
theorem u64_ex (x : Int) : ∃ a : Nat, wS .u64 x = (a : Int) ∧ a < B64 := by
  rw [ws_u64]
  refine ⟨(x % 18446744073709551616).toNat, ?_, ?_⟩
  · omega
  · unfold B64; omega
theorem xor_ex {a b : Nat} (ha : a < B64) (hb : b < B64) : ∃ c : Nat, bitS .xor .u64 a b = (c : Int) ∧ c < B64 := by
  refine ⟨a ^^^ b, u64_xor (by rw [← B64_eq]; exact ha) (by rw [← B64_eq]; exact hb), ?_⟩
  rw [B64_eq] at *
  exact Nat.xor_lt_two_pow ha hb
theorem number_ex (k a b : Int) (s : ByteArray) : ∃ n, n < T256 ∧ FnV Try.prog G0 34 [.agg [nI .i64 k, nI .i64 a, nI .i64 b, .v (.string s)]] (uV n) := by
  obtain ⟨x, hx, hx2⟩ := u64_ex a
  obtain ⟨y, hy, hy2⟩ := u64_ex b
  obtain ⟨z, hz, hz2⟩ := u64_ex (a % 1000)
  obtain ⟨u, hu, hu2⟩ := u64_ex ((x : Int) * 11400714819323198485)
  obtain ⟨v, hv, hv2⟩ := u64_ex ((y : Int) * 14029467366897019727)
  obtain ⟨w, hw, hw2⟩ := xor_ex hx2 hy2
  obtain ⟨p, hp, hp2⟩ := xor_ex (a := 18446744073709551615) (by decide) hx2
  obtain ⟨q, hq, hq2⟩ := xor_ex (a := 18446744073709551615) (by decide) hy2
  have hk : k % 5 = 0 ∨ k % 5 = 1 ∨ k % 5 = 2 ∨ k % 5 = 3 ∨ k % 5 = 4 := by omega
  rcases hk with h | h | h | h | h
  · refine ⟨val4 z 0 0 0, val4_lt hz2 (by decide) (by decide) (by decide), ?_⟩
    rw [uV_val4 hz2 (by decide) (by decide) (by decide)]
    refine fn_of_vwp Γok Try.func34 (by kernel_rfl) rfl (by simp [Try.ntmps34]) (wpv_ok Γok (by kernel_rfl) _ _ _ ?_); conv => whnf
    rw [hx, hy]
    refine ⟨by kernel_rfl, ?_⟩
    conv => whnf
    refine ⟨_, ret_of_fn G0ok (picked_fn k 5 (by omega) (by omega)) (by rfl) rfl, ?_⟩; conv => whnf
    rw [h]
    conv => whnf
    refine ⟨_, ret_of_fn G0ok (picked_fn a 1000 (by omega) (by omega)) (by rfl) rfl, ?_⟩; conv => whnf
    rw [hz]
    exact ⟨_, rfl, rfl⟩
  · refine ⟨val4 x 0 0 0, val4_lt hx2 (by decide) (by decide) (by decide), ?_⟩
    rw [uV_val4 hx2 (by decide) (by decide) (by decide)]
    refine fn_of_vwp Γok Try.func34 (by kernel_rfl) rfl (by simp [Try.ntmps34]) (wpv_ok Γok (by kernel_rfl) _ _ _ ?_); conv => whnf
    rw [hx, hy]
    refine ⟨by kernel_rfl, ?_⟩
    conv => whnf
    refine ⟨_, ret_of_fn G0ok (picked_fn k 5 (by omega) (by omega)) (by rfl) rfl, ?_⟩; conv => whnf
    rw [h]
    conv => whnf
    exact ⟨_, rfl, rfl⟩
  · refine ⟨val4 x y 0 0, val4_lt hx2 hy2 (by decide) (by decide), ?_⟩
    rw [uV_val4 hx2 hy2 (by decide) (by decide)]
    refine fn_of_vwp Γok Try.func34 (by kernel_rfl) rfl (by simp [Try.ntmps34]) (wpv_ok Γok (by kernel_rfl) _ _ _ ?_); conv => whnf
    rw [hx, hy]
    refine ⟨by kernel_rfl, ?_⟩
    conv => whnf
    refine ⟨_, ret_of_fn G0ok (picked_fn k 5 (by omega) (by omega)) (by rfl) rfl, ?_⟩; conv => whnf
    rw [h]
    conv => whnf
    exact ⟨_, rfl, rfl⟩
  · refine ⟨val4 u y w v, val4_lt hu2 hy2 hw2 hv2, ?_⟩
    rw [uV_val4 hu2 hy2 hw2 hv2]
    refine fn_of_vwp Γok Try.func34 (by kernel_rfl) rfl (by simp [Try.ntmps34]) (wpv_ok Γok (by kernel_rfl) _ _ _ ?_); conv => whnf
    rw [hx, hy]
    refine ⟨by kernel_rfl, ?_⟩
    conv => whnf
    refine ⟨_, ret_of_fn G0ok (picked_fn k 5 (by omega) (by omega)) (by rfl) rfl, ?_⟩; conv => whnf
    rw [h]
    conv => whnf
    rw [hu, hv, hw]
    exact ⟨_, rfl, rfl⟩
  · refine ⟨val4 p q 18446744073709551615 18446744073709551615, val4_lt hp2 hq2 (by decide) (by decide), ?_⟩
    rw [uV_val4 hp2 hq2 (by decide) (by decide)]
    refine fn_of_vwp Γok Try.func34 (by kernel_rfl) rfl (by simp [Try.ntmps34]) (wpv_ok Γok (by kernel_rfl) _ _ _ ?_); conv => whnf
    rw [hx, hy]
    refine ⟨by kernel_rfl, ?_⟩
    conv => whnf
    refine ⟨_, ret_of_fn G0ok (picked_fn k 5 (by omega) (by omega)) (by rfl) rfl, ?_⟩; conv => whnf
    rw [h]
    conv => whnf
    rw [show (if IntKind.u64.signed = true then (-1 : Int) else IntKind.u64.max) = ((18446744073709551615 : Nat) : Int) from rfl, hp, hq]
    exact ⟨_, rfl, rfl⟩
/-- The number of a raw thing. -/
noncomputable def rawN (q : RawD) : Nat := Classical.choose (number_ex q.k q.a q.b q.s)
theorem rawN_lt (q : RawD) : rawN q < T256 := (Classical.choose_spec (number_ex q.k q.a q.b q.s)).1
theorem number_fn (q : RawD) : FnV Try.prog G0 34 [q.v] (uV (rawN q)) := (Classical.choose_spec (number_ex q.k q.a q.b q.s)).2
end Go.Proofs.Ytilmfdlonpjjiaa
namespace Go.Proofs.Ytilmfdlonpjjiaa
set_option linter.unusedVariables false
set_option linter.unusedSimpArgs false
set_option linter.unusedSectionVars false
open Go.ChangeShapes Go.WideShapes Go.ChangeAt Go.RowKit Go.Joins
set_option maxRecDepth 10000
theorem copy_cells {cs : List VV} {off m : Nat} {l : List UInt8} {z L : List Nat} (h1 : cs = bts z) (h2 : off = 0) (h3 : L = (l.map UInt8.toNat).take m ++ z.drop ((l.map UInt8.toNat).take m).length) :
    splice cs off (List.take m (List.map byV l)) = bts L := by
  subst h1 h2 h3
  have e : List.map byV l = bts (l.map UInt8.toNat) := by simp [bts, byV, nI, Function.comp_def]
  rw [e]
  unfold splice bts
  simp [List.map_take, List.map_drop]
theorem u8_ex (x : Int) : ∃ a : Nat, wS .u8 x = (a : Int) ∧ a < 256 := by
  rw [ws_u8]
  exact ⟨(x % 256).toNat, by omega, by omega⟩
theorem word_ex (k a b : Int) (s : ByteArray) : ∃ c : List Nat, c.length = 32 ∧ (∀ x ∈ c, x < 256) ∧ FnV Try.prog G0 32 [.agg [nI .i64 k, nI .i64 a, nI .i64 b, .v (.string s)]] (.agg (bts c)) := by
  obtain ⟨x, hx, hx2⟩ := u8_ex a
  obtain ⟨y, hy, hy2⟩ := u8_ex b
  obtain ⟨L, hL⟩ : ∃ L, L = (s.data.toList.map UInt8.toNat).take (s.size.min 32) ++ (List.replicate 32 0).drop ((s.data.toList.map UInt8.toNat).take (s.size.min 32)).length := ⟨_, rfl⟩
  have hlen : ((s.data.toList.map UInt8.toNat).take (s.size.min 32)).length ≤ 32 := by
    rw [List.length_take]
    exact Nat.le_trans (Nat.min_le_left _ _) (Nat.min_le_right _ _)
  have hL1 : L.length = 32 := by
    rw [hL, List.length_append, List.length_drop, List.length_replicate]
    omega
  have hL2 : ∀ x ∈ L, x < 256 := by
    intro x hx
    rw [hL] at hx
    rcases List.mem_append.1 hx with h | h
    · obtain ⟨b, _, rfl⟩ := List.mem_map.1 (List.mem_of_mem_take h)
      exact b.toNat_lt
    · have := List.eq_of_mem_replicate (List.mem_of_mem_drop h)
      omega
  refine ⟨(L.set 30 x).set 31 y, by simp [hL1], ?_, ?_⟩
  · intro z hz
    rcases List.mem_or_eq_of_mem_set hz with h | h
    · rcases List.mem_or_eq_of_mem_set h with h | h
      · exact hL2 z h
      · omega
    · omega
  refine fn_of_vwp Γok Try.func32 (by kernel_rfl) rfl (by simp [Try.ntmps32]) (wpv_ok Γok (by kernel_rfl) _ _ _ ?_); conv => whnf
  refine ⟨by kernel_rfl, ?_⟩
  rw [copy_cells (z := List.replicate 32 0) (L := L) (by rfl) (by rfl) (by exact hL)]
  conv => whnf
  rw [hx, hy]
  refine onlyIf_intro (by simp [bts_length, hL1]) ?_
  conv => whnf
  rw [splice_bts (i := 30) (by rfl) (by omega)]
  conv => whnf
  refine onlyIf_intro (by simp [bts_length, hL1]) ?_
  conv => whnf
  rw [splice_bts (i := 31) (by rfl) (by simp [hL1])]
  conv => whnf
  refine ⟨by kernel_rfl, ?_⟩
  conv => whnf
  refine bindP_intro (load_agg rfl rfl (by simp [bts_length, hL1])) ?_
  conv => whnf
  refine onlyIf_intro (by simp [bts_length, hL1]) ?_
  conv => whnf
  refine ⟨_, vres_one rfl (vres_cell rfl rfl (load_agg rfl rfl (by simp [bts_length, hL1]))), ?_⟩
  exact deepV_noH _ _ (by simp [noH, bts_noHs])
noncomputable def wordN (q : RawD) : List Nat := Classical.choose (word_ex q.k q.a q.b q.s)
theorem wordN_length (q : RawD) : (wordN q).length = 32 := (Classical.choose_spec (word_ex q.k q.a q.b q.s)).1
theorem wordN_lt (q : RawD) : ∀ x ∈ wordN q, x < 256 := (Classical.choose_spec (word_ex q.k q.a q.b q.s)).2.1
theorem word_fn (q : RawD) : FnV Try.prog G0 32 [q.v] (.agg (bts (wordN q))) := (Classical.choose_spec (word_ex q.k q.a q.b q.s)).2.2
end Go.Proofs.Ytilmfdlonpjjiaa
namespace Go.Proofs.Ytilmfdlonpjjiaa
set_option linter.unusedVariables false
set_option linter.unusedSimpArgs false
set_option linter.unusedSectionVars false
open Go.ChangeShapes Go.WideShapes Go.ChangeAt Go.RowKit Go.Joins
set_option maxRecDepth 10000
theorem some_fn (f : Bool) (l : List RawD) (m : Nat) (hl : l.length ≤ maxLen) (hm : m ≤ 1000) : ∃ f', FnV Try.prog G0 25 [.ds f l.length (rawsC l), nI .i64 m] (.ds f' (l.take m).length (rawsC (l.take m))) := by
  refine ⟨f && decide (min l.length m = l.length), ?_⟩
  have e : l.take m = (l.drop 0).take (min l.length m - 0) := by
    rw [List.drop_zero, Nat.sub_zero]
    rcases Nat.le_total l.length m with h | h
    · rw [Nat.min_eq_left h, List.take_of_length_le h, List.take_length]
    · rw [Nat.min_eq_right h]
  rw [e]
  refine fn_of_vwp Γok Try.func25 (by kernel_rfl) rfl (by simp [Try.ntmps25]) (wpv_ok Γok (by kernel_rfl) _ _ _ ?_); conv => whnf
  rw [min_int]
  refine bindP_intro (vpure_slice (vslice_raws rfl rfl (by rfl) (by rfl) vb_nat (Nat.zero_le _) (by omega))) ?_
  conv => whnf
  exact ends_at rfl (rawsC_noHs _)
end Go.Proofs.Ytilmfdlonpjjiaa
namespace Go.Proofs.Ytilmfdlonpjjiaa
set_option linter.unusedVariables false
set_option linter.unusedSimpArgs false
set_option linter.unusedSectionVars false
open Go.ChangeShapes Go.WideShapes Go.ChangeAt Go.RowKit Go.Joins
set_option maxRecDepth 10000
theorem splice_32 {cs new : List VV} {off : Nat} (h : new.length = 32) : splice cs off (new.take 32) = cs.take off ++ (new ++ cs.drop (off + 32)) := by
  rw [List.take_of_length_le (by omega)]
  unfold splice
  rw [h]
theorem splice_32' {cs new : List VV} {off : Nat} (h : new.length = 32) : splice cs off new = cs.take off ++ (new ++ cs.drop (off + 32)) := by
  unfold splice
  rw [h]
/-- A message. -/
structure BoD where
  time : Nat
  nonce : Nat
  chain : Nat
  em : List Nat
  num : Nat
  level : Nat
  f : Bool
  load : List Nat
def BoD.cells (b : BoD) : List VV := nI .i64 b.time :: nI .i64 b.nonce :: nI .i64 b.chain :: (bts b.em ++ [nI .i64 b.num, nI .i64 b.level, .ds b.f b.load.length (bts b.load)])
def BoD.v (b : BoD) : VV := .agg b.cells
theorem boD_noHs (b : BoD) : noHs b.cells = true := by
  unfold BoD.cells
  simp only [noHs, noH, nI, noHs_append, bts_noHs, Bool.and_self]
theorem boD_ix {b : BoD} (he : b.em.length = 32) : b.cells[35]? = some (nI .i64 b.num) ∧ b.cells[36]? = some (nI .i64 b.level) ∧ b.cells[37]? = some (.ds b.f b.load.length (bts b.load)) := by
  unfold BoD.cells
  have h := fun i => List.getElem?_append_right (l₁ := bts b.em) (l₂ := [nI .i64 b.num, nI .i64 b.level, .ds b.f b.load.length (bts b.load)]) (i := 32 + i) (by rw [bts_length, he]; omega)
  rw [bts_length, he] at h
  exact ⟨h 0, h 1, h 2⟩
theorem boD_len {b : BoD} (he : b.em.length = 32) : b.cells.length = 38 := by unfold BoD.cells; simp only [List.length_cons, List.length_append, bts_length, he]; rfl
theorem boD_em {b : BoD} (he : b.em.length = 32) : (b.cells.drop 3).take 32 = bts b.em := by
  unfold BoD.cells
  rw [show (nI .i64 b.time :: nI .i64 b.nonce :: nI .i64 b.chain :: (bts b.em ++ [nI .i64 b.num, nI .i64 b.level, .ds b.f b.load.length (bts b.load)])).drop 3 = bts b.em ++ [nI .i64 b.num, nI .i64 b.level, .ds b.f b.load.length (bts b.load)] from rfl, List.take_left' (by rw [bts_length, he])]
/-- What is written of it. -/
def bodyB (b : BoD) : List Nat := be b.time 8 ++ be b.nonce 4 ++ be b.chain 2 ++ b.em ++ be b.num 8 ++ be b.level 1 ++ b.load
theorem body_fnH {l : List Nat} {b : BoD} (he : b.em.length = 32) (hb : b.load.length ≤ 20000) (hl : l.length ≤ 20000) : FnH Try.prog G0 78 [.ptr 0 0, b.v] [(0, some [.sl 1 0 l.length 1]), (1, some (bts l))] 2 (.tup []) [(0, some [.sl 2 0 (l ++ bodyB b).length 1]), (2, some (bts (l ++ bodyB b)))] 1 := by
  have eB : l ++ bodyB b = l ++ be b.time 8 ++ be b.nonce 4 ++ be b.chain 2 ++ b.em ++ be b.num 8 ++ be b.level 1 ++ b.load := by unfold bodyB; simp only [List.append_assoc]
  rw [eB]
  have k1 := number_fnH (l := l) (n := b.time) (s := 7) (by decide) (by omega)
  have k2 := number_fnH (l := l ++ be b.time 8) (n := b.nonce) (s := 3) (by decide) (by simp only [List.length_append, be_len]; omega)
  have k3 := number_fnH (l := l ++ be b.time 8 ++ be b.nonce 4) (n := b.chain) (s := 1) (by decide) (by simp only [List.length_append, be_len]; omega)
  have nc := boD_noHs b
  obtain ⟨i35, i36, i37⟩ := boD_ix he
  have cl : b.cells.length = 38 := by unfold BoD.cells; simp only [List.length_cons, List.length_append, bts_length, he]; rfl
  have ev : (b.cells.drop 3).take (b.em.length * 1) = bts b.em := by
    unfold BoD.cells
    rw [show (nI .i64 b.time :: nI .i64 b.nonce :: nI .i64 b.chain :: (bts b.em ++ [nI .i64 b.num, nI .i64 b.level, .ds b.f b.load.length (bts b.load)])).drop 3 = bts b.em ++ [nI .i64 b.num, nI .i64 b.level, .ds b.f b.load.length (bts b.load)] from rfl, Nat.mul_one, List.take_left' (bts_length _)]
  have k4 := bytes_own (l := l ++ be b.time 8 ++ be b.nonce 4 ++ be b.chain 2) (r := b.em) (cs := b.cells) (off := 3) ev (by rw [cl, he]; decide) nc (by simp only [List.length_append, be_len]; omega) (by omega)
  have k5 := number_fnH (l := l ++ be b.time 8 ++ be b.nonce 4 ++ be b.chain 2 ++ b.em) (n := b.num) (s := 7) (by decide) (by simp only [List.length_append, be_len]; omega)
  have k6 := number_fnH (l := l ++ be b.time 8 ++ be b.nonce 4 ++ be b.chain 2 ++ b.em ++ be b.num 8) (n := b.level) (s := 0) (by decide) (by simp only [List.length_append, be_len]; omega)
  have k7 := bytes_ds (l := l ++ be b.time 8 ++ be b.nonce 4 ++ be b.chain 2 ++ b.em ++ be b.num 8 ++ be b.level 1) (r := b.load) b.f (by simp only [List.length_append, be_len]; omega) (by omega)
  obtain ⟨L1, e1⟩ : ∃ L, L = l ++ be b.time 8 := ⟨_, rfl⟩
  rw [← e1] at k1 k2 k3 k4 k5 k6 k7 ⊢
  obtain ⟨L2, e2⟩ : ∃ L, L = L1 ++ be b.nonce 4 := ⟨_, rfl⟩
  rw [← e2] at k2 k3 k4 k5 k6 k7 ⊢
  obtain ⟨L3, e3⟩ : ∃ L, L = L2 ++ be b.chain 2 := ⟨_, rfl⟩
  rw [← e3] at k3 k4 k5 k6 k7 ⊢
  obtain ⟨L4, e4⟩ : ∃ L, L = L3 ++ b.em := ⟨_, rfl⟩
  rw [← e4] at k4 k5 k6 k7 ⊢
  obtain ⟨L5, e5⟩ : ∃ L, L = L4 ++ be b.num 8 := ⟨_, rfl⟩
  rw [← e5] at k5 k6 k7 ⊢
  obtain ⟨L6, e6⟩ : ∃ L, L = L5 ++ be b.level 1 := ⟨_, rfl⟩
  rw [← e6] at k6 k7 ⊢
  obtain ⟨L7, e7⟩ : ∃ L, L = L6 ++ b.load := ⟨_, rfl⟩
  rw [← e7] at k7 ⊢
  clear eB
  unfold BoD.v
  refine fnH_of_vwp Γok G0ok Try.func78 (by kernel_rfl) rfl (by simp [Try.ntmps78]) (wpv_ok Γok (by kernel_rfl) _ _ _ ?_); conv => whnf
  refine ⟨_, ret_pen2 k1 rfl rfl (bts_noHs _) (bts_noHs _) rfl rfl, ?_⟩
  conv => whnf
  try (refine ⟨by kernel_rfl, ?_⟩; conv => whnf)
  refine ⟨_, ret_pen2 k2 rfl rfl (bts_noHs _) (bts_noHs _) rfl rfl, ?_⟩
  conv => whnf
  try (refine ⟨by kernel_rfl, ?_⟩; conv => whnf)
  refine ⟨_, ret_pen2 k3 rfl rfl (bts_noHs _) (bts_noHs _) rfl rfl, ?_⟩
  conv => whnf
  try (refine ⟨by kernel_rfl, ?_⟩; conv => whnf)
  refine onlyIf_intro (by simp [cl, maxLen]) ?_
  conv => whnf
  try (refine ⟨by kernel_rfl, ?_⟩; conv => whnf)
  rw [he] at k4
  refine ⟨_, ret_pen3 k4 rfl (bts_noHs _) nc (bts_noHs _) rfl rfl rfl, ?_⟩
  conv => whnf
  try (refine ⟨by kernel_rfl, ?_⟩; conv => whnf)
  refine bindP_intro i35 ?_
  conv => whnf
  try (refine ⟨by kernel_rfl, ?_⟩; conv => whnf)
  refine ⟨_, ret_pen2 k5 rfl rfl (bts_noHs _) (bts_noHs _) rfl rfl, ?_⟩
  conv => whnf
  try (refine ⟨by kernel_rfl, ?_⟩; conv => whnf)
  refine bindP_intro i36 ?_
  conv => whnf
  try (refine ⟨by kernel_rfl, ?_⟩; conv => whnf)
  refine ⟨_, ret_pen2 k6 rfl rfl (bts_noHs _) (bts_noHs _) rfl rfl, ?_⟩
  conv => whnf
  try (refine ⟨by kernel_rfl, ?_⟩; conv => whnf)
  refine bindP_intro i37 ?_
  conv => whnf
  try (refine ⟨by kernel_rfl, ?_⟩; conv => whnf)
  refine ⟨_, ret_pen2 k7 rfl (show noHs [VV.ds b.f b.load.length (bts b.load)] = true from by simp only [noHs, noH, bts_noHs, Bool.and_self]) (bts_noHs _) (bts_noHs _) rfl rfl, ?_⟩
  conv => whnf
  try (refine ⟨by kernel_rfl, ?_⟩; conv => whnf)
  exact ⟨_, rfl, [(0, some 0), (1, some 1), (2, some 9)], rfl, rfl, .same rfl, ⟨.inr ⟨_, _, rfl, rfl, .cons (.sl rfl) .nil⟩, .inr ⟨_, _, rfl, rfl, .same (bts_noHs _)⟩, trivial⟩⟩
theorem body_nil {b : BoD} (he : b.em.length = 32) (hb : b.load.length ≤ 20000) : FnH Try.prog G0 78 [.ptr 0 0, b.v] [(0, some [.ds true 0 []])] 1 (.tup []) [(0, some [.sl 1 0 (bodyB b).length 1]), (1, some (bts (bodyB b)))] 1 := by
  have eB : bodyB b = be b.time 8 ++ be b.nonce 4 ++ be b.chain 2 ++ b.em ++ be b.num 8 ++ be b.level 1 ++ b.load := by unfold bodyB; simp only [List.append_assoc]
  rw [eB]
  have k1 := number_nil (n := b.time) (s := 7) (by decide)
  have k2 := number_fnH (l := be b.time 8) (n := b.nonce) (s := 3) (by decide) (by simp only [List.length_append, be_len]; omega)
  have k3 := number_fnH (l := be b.time 8 ++ be b.nonce 4) (n := b.chain) (s := 1) (by decide) (by simp only [List.length_append, be_len]; omega)
  have nc := boD_noHs b
  obtain ⟨i35, i36, i37⟩ := boD_ix he
  have cl : b.cells.length = 38 := by unfold BoD.cells; simp only [List.length_cons, List.length_append, bts_length, he]; rfl
  have ev : (b.cells.drop 3).take (b.em.length * 1) = bts b.em := by
    unfold BoD.cells
    rw [show (nI .i64 b.time :: nI .i64 b.nonce :: nI .i64 b.chain :: (bts b.em ++ [nI .i64 b.num, nI .i64 b.level, .ds b.f b.load.length (bts b.load)])).drop 3 = bts b.em ++ [nI .i64 b.num, nI .i64 b.level, .ds b.f b.load.length (bts b.load)] from rfl, Nat.mul_one, List.take_left' (bts_length _)]
  have k4 := bytes_own (l := be b.time 8 ++ be b.nonce 4 ++ be b.chain 2) (r := b.em) (cs := b.cells) (off := 3) ev (by rw [cl, he]; decide) nc (by simp only [List.length_append, be_len]; omega) (by omega)
  have k5 := number_fnH (l := be b.time 8 ++ be b.nonce 4 ++ be b.chain 2 ++ b.em) (n := b.num) (s := 7) (by decide) (by simp only [List.length_append, be_len]; omega)
  have k6 := number_fnH (l := be b.time 8 ++ be b.nonce 4 ++ be b.chain 2 ++ b.em ++ be b.num 8) (n := b.level) (s := 0) (by decide) (by simp only [List.length_append, be_len]; omega)
  have k7 := bytes_ds (l := be b.time 8 ++ be b.nonce 4 ++ be b.chain 2 ++ b.em ++ be b.num 8 ++ be b.level 1) (r := b.load) b.f (by simp only [List.length_append, be_len]; omega) (by omega)
  obtain ⟨L1, e1⟩ : ∃ L, L = be b.time 8 := ⟨_, rfl⟩
  rw [← e1] at k1 k2 k3 k4 k5 k6 k7 ⊢
  obtain ⟨L2, e2⟩ : ∃ L, L = L1 ++ be b.nonce 4 := ⟨_, rfl⟩
  rw [← e2] at k2 k3 k4 k5 k6 k7 ⊢
  obtain ⟨L3, e3⟩ : ∃ L, L = L2 ++ be b.chain 2 := ⟨_, rfl⟩
  rw [← e3] at k3 k4 k5 k6 k7 ⊢
  obtain ⟨L4, e4⟩ : ∃ L, L = L3 ++ b.em := ⟨_, rfl⟩
  rw [← e4] at k4 k5 k6 k7 ⊢
  obtain ⟨L5, e5⟩ : ∃ L, L = L4 ++ be b.num 8 := ⟨_, rfl⟩
  rw [← e5] at k5 k6 k7 ⊢
  obtain ⟨L6, e6⟩ : ∃ L, L = L5 ++ be b.level 1 := ⟨_, rfl⟩
  rw [← e6] at k6 k7 ⊢
  obtain ⟨L7, e7⟩ : ∃ L, L = L6 ++ b.load := ⟨_, rfl⟩
  rw [← e7] at k7 ⊢
  clear eB
  unfold BoD.v
  refine fnH_of_vwp Γok G0ok Try.func78 (by kernel_rfl) rfl (by simp [Try.ntmps78]) (wpv_ok Γok (by kernel_rfl) _ _ _ ?_); conv => whnf
  refine ⟨_, ret_pen1 k1 rfl (bts_noHs _) rfl, ?_⟩
  conv => whnf
  try (refine ⟨by kernel_rfl, ?_⟩; conv => whnf)
  refine ⟨_, ret_pen2 k2 rfl rfl (bts_noHs _) (bts_noHs _) rfl rfl, ?_⟩
  conv => whnf
  try (refine ⟨by kernel_rfl, ?_⟩; conv => whnf)
  refine ⟨_, ret_pen2 k3 rfl rfl (bts_noHs _) (bts_noHs _) rfl rfl, ?_⟩
  conv => whnf
  try (refine ⟨by kernel_rfl, ?_⟩; conv => whnf)
  refine onlyIf_intro (by simp [cl, maxLen]) ?_
  conv => whnf
  try (refine ⟨by kernel_rfl, ?_⟩; conv => whnf)
  rw [he] at k4
  refine ⟨_, ret_pen3 k4 rfl (bts_noHs _) nc (bts_noHs _) rfl rfl rfl, ?_⟩
  conv => whnf
  try (refine ⟨by kernel_rfl, ?_⟩; conv => whnf)
  refine bindP_intro i35 ?_
  conv => whnf
  try (refine ⟨by kernel_rfl, ?_⟩; conv => whnf)
  refine ⟨_, ret_pen2 k5 rfl rfl (bts_noHs _) (bts_noHs _) rfl rfl, ?_⟩
  conv => whnf
  try (refine ⟨by kernel_rfl, ?_⟩; conv => whnf)
  refine bindP_intro i36 ?_
  conv => whnf
  try (refine ⟨by kernel_rfl, ?_⟩; conv => whnf)
  refine ⟨_, ret_pen2 k6 rfl rfl (bts_noHs _) (bts_noHs _) rfl rfl, ?_⟩
  conv => whnf
  try (refine ⟨by kernel_rfl, ?_⟩; conv => whnf)
  refine bindP_intro i37 ?_
  conv => whnf
  try (refine ⟨by kernel_rfl, ?_⟩; conv => whnf)
  refine ⟨_, ret_pen2 k7 rfl (show noHs [VV.ds b.f b.load.length (bts b.load)] = true from by simp only [noHs, noH, bts_noHs, Bool.and_self]) (bts_noHs _) (bts_noHs _) rfl rfl, ?_⟩
  conv => whnf
  try (refine ⟨by kernel_rfl, ?_⟩; conv => whnf)
  exact ⟨_, rfl, [(0, some 0), (1, some 8)], rfl, rfl, .same rfl, ⟨.inr ⟨_, _, rfl, rfl, .cons (.sl rfl) .nil⟩, .inr ⟨_, _, rfl, rfl, .same (bts_noHs _)⟩, trivial⟩⟩
theorem in_fn (n m : Nat) : FnV Try.prog G0 79 [nI .i64 n, nI .i64 m] (bI (decide (n ≤ m))) := by
  refine fn_of_vwp Γok Try.func79 (by kernel_rfl) rfl (by simp [Try.ntmps79]) (wpv_ok Γok (by kernel_rfl) _ _ _ ?_); conv => whnf
  rw [decide_eq_true (show (n : Int) ≥ 0 by omega)]
  conv => whnf
  try (refine ⟨by kernel_rfl, ?_⟩; conv => whnf)
  rw [show decide ((n : Int) ≤ (m : Int)) = decide (n ≤ m) from decide_eq_decide.2 (by omega)]
  exact ⟨_, rfl, rfl⟩
/-- A message that may be. -/
structure BoD.ok (b : BoD) : Prop where
  time : b.time ≤ 1099511627776
  nonce : b.nonce ≤ 4294967295
  chain : b.chain ≤ 65535
  em : b.em.length = 32
  num : b.num ≤ 1099511627776
  level : b.level ≤ 255
  load : b.load.length ≤ 300
theorem pcheck_ok {b : BoD} (h : b.ok) : FnV Try.prog G0 77 [b.v] (nI .i64 0) := by
  have c1 := in_fn b.time 1099511627776
  have c2 := in_fn b.nonce 4294967295
  have c3 := in_fn b.chain 65535
  have c4 := in_fn b.num 1099511627776
  have c5 := in_fn b.level 255
  rw [decide_eq_true h.time] at c1
  rw [decide_eq_true h.nonce] at c2
  rw [decide_eq_true h.chain] at c3
  rw [decide_eq_true h.num] at c4
  rw [decide_eq_true h.level] at c5
  obtain ⟨i35, i36, i37⟩ := boD_ix h.em
  unfold BoD.v
  refine fn_of_vwp Γok Try.func77 (by kernel_rfl) rfl (by simp [Try.ntmps77]) (wpv_ok Γok (by kernel_rfl) _ _ _ ?_); conv => whnf
  refine ⟨_, ret_of_fn G0ok (c1) (by first | rfl | simp only [noHs, noH, nI, bI, Bool.and_self, Bool.and_true, Bool.true_and, ]) (by first | rfl | simp only [noHs, noH, nI, bI, Bool.and_self, Bool.and_true, Bool.true_and, ]), ?_⟩; (conv => whnf); (try (refine ⟨by kernel_rfl, ?_⟩; conv => whnf))
  refine ⟨_, ret_of_fn G0ok (c2) (by first | rfl | simp only [noHs, noH, nI, bI, Bool.and_self, Bool.and_true, Bool.true_and, ]) (by first | rfl | simp only [noHs, noH, nI, bI, Bool.and_self, Bool.and_true, Bool.true_and, ]), ?_⟩; (conv => whnf); (try (refine ⟨by kernel_rfl, ?_⟩; conv => whnf))
  refine ⟨_, ret_of_fn G0ok (c3) (by first | rfl | simp only [noHs, noH, nI, bI, Bool.and_self, Bool.and_true, Bool.true_and, ]) (by first | rfl | simp only [noHs, noH, nI, bI, Bool.and_self, Bool.and_true, Bool.true_and, ]), ?_⟩; (conv => whnf); (try (refine ⟨by kernel_rfl, ?_⟩; conv => whnf))
  refine bindP_intro i35 ?_
  conv => whnf
  try (refine ⟨by kernel_rfl, ?_⟩; conv => whnf)
  refine ⟨_, ret_of_fn G0ok (c4) (by first | rfl | simp only [noHs, noH, nI, bI, Bool.and_self, Bool.and_true, Bool.true_and, ]) (by first | rfl | simp only [noHs, noH, nI, bI, Bool.and_self, Bool.and_true, Bool.true_and, ]), ?_⟩; (conv => whnf); (try (refine ⟨by kernel_rfl, ?_⟩; conv => whnf))
  refine bindP_intro i36 ?_
  conv => whnf
  try (refine ⟨by kernel_rfl, ?_⟩; conv => whnf)
  refine ⟨_, ret_of_fn G0ok (c5) (by first | rfl | simp only [noHs, noH, nI, bI, Bool.and_self, Bool.and_true, Bool.true_and, ]) (by first | rfl | simp only [noHs, noH, nI, bI, Bool.and_self, Bool.and_true, Bool.true_and, ]), ?_⟩; (conv => whnf); (try (refine ⟨by kernel_rfl, ?_⟩; conv => whnf))
  refine bindP_intro i37 ?_
  conv => whnf
  try (refine ⟨by kernel_rfl, ?_⟩; conv => whnf)
  rw [decide_eq_false (show ¬ ((b.load.length : Nat) : Int) > 300 by have := h.load; omega)]
  conv => whnf
  try (refine ⟨by kernel_rfl, ?_⟩; conv => whnf)
  exact ⟨_, rfl, rfl⟩
theorem pbytes_fn {b : BoD} (h : b.ok) : FnV Try.prog G0 75 [b.v] (.tup [.ds false (bodyB b).length (bts (bodyB b)), nI .i64 0]) := by
  have c := pcheck_ok h
  have nc := boD_noHs b
  have bn := body_nil h.em (b := b) (by have := h.load; omega)
  have cl : b.cells.length = 38 := by unfold BoD.cells; simp only [List.length_cons, List.length_append, bts_length, h.em]; rfl
  refine gen_ex (bodyB b) fun L eL => ?_
  rw [← eL] at bn ⊢
  clear eL
  unfold BoD.v at *
  refine fn_of_vwp Γok Try.func75 (by kernel_rfl) rfl (by simp [Try.ntmps75]) (wpv_ok Γok (by kernel_rfl) _ _ _ ?_); conv => whnf
  refine bindP_intro (load_agg rfl rfl cl) ?_
  conv => whnf
  try (refine ⟨by kernel_rfl, ?_⟩; conv => whnf)
  refine ⟨_, ret_of_fn G0ok (c) (by first | rfl | simp only [noHs, noH, nI, bI, Bool.and_self, Bool.and_true, Bool.true_and, nc]) (by first | rfl | simp only [noHs, noH, nI, bI, Bool.and_self, Bool.and_true, Bool.true_and, nc]), ?_⟩; (conv => whnf); (try (refine ⟨by kernel_rfl, ?_⟩; conv => whnf))
  refine bindP_intro (load_agg rfl rfl cl) ?_
  conv => whnf
  try (refine ⟨by kernel_rfl, ?_⟩; conv => whnf)
  refine ⟨_, ret_pen1 bn (show noHs [VV.agg b.cells] = true from by simp only [noHs, noH, nc, Bool.and_self]) (bts_noHs _) rfl, ?_⟩
  conv => whnf
  try (refine ⟨by kernel_rfl, ?_⟩; conv => whnf)
  exact ⟨_, rfl, deep_tup (mapO_cons (deep_row rfl (by rw [bts_length]; exact (Nat.mul_one _).symm) (bts_noHs _)) (mapO_cons (deepV_noH _ _ rfl) mapO_nil))⟩
end Go.Proofs.Ytilmfdlonpjjiaa
namespace Go.Proofs.Ytilmfdlonpjjiaa
set_option linter.unusedVariables false
set_option linter.unusedSimpArgs false
set_option linter.unusedSectionVars false
open Go.ChangeShapes Go.WideShapes Go.ChangeAt Go.RowKit Go.Joins
set_option maxRecDepth 10000
theorem cut_fn (s : ByteArray) (m : Nat) (hs : s.size ≤ maxLen) (hm : m ≤ 1000) : FnV Try.prog G0 36 [.v (.string s), nI .i64 m] (.v (.string (s.extract 0 (min s.size m)))) := by
  refine fn_of_vwp Γok Try.func36 (by kernel_rfl) rfl (by simp [Try.ntmps36]) (wpv_ok Γok (by kernel_rfl) _ _ _ ?_); conv => whnf
  rw [min_int]
  refine bindP_intro (vpure_slice (vslice_str rfl (by rfl) vb_nat (by omega) (by omega))) ?_
  conv => whnf
  exact ends_at rfl rfl
end Go.Proofs.Ytilmfdlonpjjiaa
namespace Go.Proofs.Ytilmfdlonpjjiaa
set_option linter.unusedVariables false
set_option linter.unusedSimpArgs false
set_option linter.unusedSectionVars false
open Go.ChangeShapes Go.WideShapes Go.ChangeAt Go.RowKit Go.Joins
set_option maxRecDepth 10000
noncomputable def cutN (q : RawD) (m : Nat) : List Nat := hid ((q.s.data.toList.take m).map UInt8.toNat)
theorem cutN_len (q : RawD) (m : Nat) : (cutN q m).length ≤ m := by
  unfold cutN
  rw [hid_eq, List.length_map, List.length_take]
  omega
theorem cutN_lt (q : RawD) (m : Nat) : ∀ x ∈ cutN q m, x < 256 := by
  unfold cutN
  rw [hid_eq]
  intro x hx
  obtain ⟨b, _, rfl⟩ := List.mem_map.1 hx
  exact b.toNat_lt
theorem cut_list (q : RawD) (m : Nat) : (q.s.extract 0 (min q.s.size m)).data.toList = q.s.data.toList.take m := by
  rw [ByteArray.data_extract, Array.toList_extract]
  simp only [List.extract, List.drop_zero, Nat.sub_zero]
  have : q.s.data.toList.length = q.s.size := rfl
  rcases Nat.le_total q.s.size m with h | h
  · rw [Nat.min_eq_left h, List.take_of_length_le (by omega), List.take_of_length_le (by omega)]
  · rw [Nat.min_eq_right h]
theorem cut_cells (q : RawD) (m : Nat) : List.map byV (q.s.extract 0 (min q.s.size m)).data.toList = bts (cutN q m) ∧ (q.s.extract 0 (min q.s.size m)).size = (cutN q m).length := by
  have e := cut_list q m
  unfold cutN
  rw [hid_eq, e]
  refine ⟨by unfold bts; rw [List.map_map]; rfl, ?_⟩
  rw [List.length_map, ← e]
  rfl
/-- The message of a raw thing. -/
noncomputable def bodyR (q : RawD) : BoD := ⟨(q.a % 1000).toNat, (q.b % 4294967296).toNat, (q.k % 65536).toNat, wordN q, (wS .i64 (q.a * q.b) % 1099511627776).toNat, (q.k % 256).toNat, false, cutN q 60⟩
theorem bodyR_ok (q : RawD) : (bodyR q).ok := by
  unfold bodyR
  refine ⟨?_, ?_, ?_, wordN_length q, ?_, ?_, ?_⟩ <;> dsimp only
  · omega
  · omega
  · omega
  · omega
  · omega
  · have := cutN_len q 60
    omega
/-- Are two messages the same? -/
noncomputable def sameB (a b : BoD) : Bool := decide (a.time = b.time) && (decide (a.nonce = b.nonce) && (decide (a.chain = b.chain) && (decide (a.em = b.em) && (decide (a.num = b.num) && (decide (a.level = b.level) && decide (a.load = b.load))))))
theorem byV_of {l : List Nat} (h : ∀ x ∈ l, x < 256) : (l.map UInt8.ofNat).map byV = bts l := by
  unfold bts
  rw [List.map_map]
  refine List.map_congr_left fun x hx => ?_
  show VV.v (.int .u8 (((UInt8.ofNat x).toNat : Nat) : Int)) = _
  rw [show (UInt8.ofNat x).toNat = x from by rw [UInt8.toNat_ofNat', Nat.mod_eq_of_lt (h x hx)]]
  rfl
theorem u8_inj {l m : List Nat} (hl : ∀ x ∈ l, x < 256) (hm : ∀ x ∈ m, x < 256) : (l.map UInt8.ofNat = m.map UInt8.ofNat) ↔ l = m := by
  refine ⟨fun h => ?_, fun h => by rw [h]⟩
  have h2 := congrArg (List.map UInt8.toNat) h
  rw [List.map_map, List.map_map] at h2
  have g : ∀ k : List Nat, (∀ x ∈ k, x < 256) → k.map (UInt8.toNat ∘ UInt8.ofNat) = k := fun k hk => by
    refine (List.map_congr_left fun x hx => ?_).trans (List.map_id k)
    exact (by rw [Function.comp_apply, UInt8.toNat_ofNat', Nat.mod_eq_of_lt (hk x hx)]; rfl)
  rwa [g l hl, g m hm] at h2
theorem dec_cases (P : Prop) {Q : Prop} (h2 : ¬ P → Q) (h1 : P → Q) : Q := (Classical.em P).elim h1 h2
theorem same_fn {a b : BoD} (ha : a.ok) (hb : b.ok) (la : ∀ x ∈ a.load, x < 256) (lb : ∀ x ∈ b.load, x < 256) : FnV Try.prog G0 74 [a.v, b.v] (bI (sameB a b)) := by
  have e32 := eq_b32 ha.em hb.em
  obtain ⟨a35, a36, a37⟩ := boD_ix ha.em
  obtain ⟨b35, b36, b37⟩ := boD_ix hb.em
  have bl : ∀ (x y : Nat), ((x : Int) == (y : Int)) = decide (x = y) := fun x y => beq_lit x y
  unfold BoD.v sameB
  refine fn_of_vwp Γok Try.func74 (by kernel_rfl) rfl (by simp [Try.ntmps74]) (wpv_ok Γok (by kernel_rfl) _ _ _ ?_); conv => whnf
  rw [bl a.time b.time]
  refine dec_cases (a.time = b.time) (fun h0 => ?_) (fun h0 => ?_)
  · rw [decide_eq_false h0]
    conv => whnf
    try (refine ⟨by kernel_rfl, ?_⟩; conv => whnf)
    exact ⟨_, rfl, rfl⟩
  rw [decide_eq_true h0]
  conv => whnf
  try (refine ⟨by kernel_rfl, ?_⟩; conv => whnf)
  rw [bl a.nonce b.nonce]
  refine dec_cases (a.nonce = b.nonce) (fun h1 => ?_) (fun h1 => ?_)
  · rw [decide_eq_false h1]
    conv => whnf
    try (refine ⟨by kernel_rfl, ?_⟩; conv => whnf)
    exact ⟨_, rfl, rfl⟩
  rw [decide_eq_true h1]
  conv => whnf
  try (refine ⟨by kernel_rfl, ?_⟩; conv => whnf)
  rw [bl a.chain b.chain]
  refine dec_cases (a.chain = b.chain) (fun h2 => ?_) (fun h2 => ?_)
  · rw [decide_eq_false h2]
    conv => whnf
    try (refine ⟨by kernel_rfl, ?_⟩; conv => whnf)
    exact ⟨_, rfl, rfl⟩
  rw [decide_eq_true h2]
  conv => whnf
  try (refine ⟨by kernel_rfl, ?_⟩; conv => whnf)
  refine bindP_intro (load_sub rfl rfl (by rw [boD_len ha.em]; decide) (boD_em ha.em)) ?_
  conv => whnf
  try (refine ⟨by kernel_rfl, ?_⟩; conv => whnf)
  refine bindP_intro (load_sub rfl rfl (by rw [boD_len hb.em]; decide) (boD_em hb.em)) ?_
  conv => whnf
  try (refine ⟨by kernel_rfl, ?_⟩; conv => whnf)
  refine ⟨_, e32, ?_⟩
  refine dec_cases (a.em = b.em) (fun h3 => ?_) (fun h3 => ?_)
  · rw [decide_eq_false h3]
    conv => whnf
    try (refine ⟨by kernel_rfl, ?_⟩; conv => whnf)
    exact ⟨_, rfl, rfl⟩
  rw [decide_eq_true h3]
  conv => whnf
  try (refine ⟨by kernel_rfl, ?_⟩; conv => whnf)
  refine bindP_intro a35 ?_
  conv => whnf
  try (refine ⟨by kernel_rfl, ?_⟩; conv => whnf)
  refine bindP_intro b35 ?_
  conv => whnf
  try (refine ⟨by kernel_rfl, ?_⟩; conv => whnf)
  rw [bl a.num b.num]
  refine dec_cases (a.num = b.num) (fun h4 => ?_) (fun h4 => ?_)
  · rw [decide_eq_false h4]
    conv => whnf
    try (refine ⟨by kernel_rfl, ?_⟩; conv => whnf)
    exact ⟨_, rfl, rfl⟩
  rw [decide_eq_true h4]
  conv => whnf
  try (refine ⟨by kernel_rfl, ?_⟩; conv => whnf)
  refine bindP_intro a36 ?_
  conv => whnf
  try (refine ⟨by kernel_rfl, ?_⟩; conv => whnf)
  refine bindP_intro b36 ?_
  conv => whnf
  try (refine ⟨by kernel_rfl, ?_⟩; conv => whnf)
  rw [bl a.level b.level]
  refine dec_cases (a.level = b.level) (fun h5 => ?_) (fun h5 => ?_)
  · rw [decide_eq_false h5]
    conv => whnf
    try (refine ⟨by kernel_rfl, ?_⟩; conv => whnf)
    exact ⟨_, rfl, rfl⟩
  rw [decide_eq_true h5]
  conv => whnf
  try (refine ⟨by kernel_rfl, ?_⟩; conv => whnf)
  refine bindP_intro a37 ?_
  conv => whnf
  try (refine ⟨by kernel_rfl, ?_⟩; conv => whnf)
  refine ⟨a.load.map UInt8.ofNat, (byV_of la).symm, by simp, ?_⟩
  conv => whnf
  try (refine ⟨by kernel_rfl, ?_⟩; conv => whnf)
  refine bindP_intro b37 ?_
  conv => whnf
  try (refine ⟨by kernel_rfl, ?_⟩; conv => whnf)
  refine ⟨b.load.map UInt8.ofNat, (byV_of lb).symm, by simp, ?_⟩
  conv => whnf
  try (refine ⟨by kernel_rfl, ?_⟩; conv => whnf)
  refine ⟨_, rfl, ?_⟩
  refine congrArg some (congrArg VV.v (congrArg Value.bool ?_))
  exact (str_eq (a.load.map UInt8.ofNat) (b.load.map UInt8.ofNat)).trans (decide_eq_decide.2 (u8_inj la lb))
end Go.Proofs.Ytilmfdlonpjjiaa
namespace Go.Proofs.Ytilmfdlonpjjiaa
set_option linter.unusedVariables false
set_option linter.unusedSimpArgs false
set_option linter.unusedSectionVars false
open Go.ChangeShapes Go.WideShapes Go.ChangeAt Go.RowKit Go.Joins
set_option maxRecDepth 10000
/-- The key of a raw thing. -/
def keyR (i : Nat) (r : RawD) : List Nat := [i % 256, (r.a % 256).toNat, (r.b % 256).toNat] ++ List.replicate 17 0
def rawZ : RawD := ⟨0, 0, 0, ByteArray.empty⟩
def keysUp (l : List RawD) (n : Nat) : List (List Nat) := (List.range n).map fun i => keyR i (l.getD i rawZ)
def keysR (l : List RawD) : List (List Nat) := keysUp (l.take 19) (l.take 19).length
theorem keyR_len (i : Nat) (r : RawD) : (keyR i r).length = 20 := rfl
theorem keyR_lt (i : Nat) (r : RawD) : ∀ x ∈ keyR i r, x < 256 := by
  intro x hx
  unfold keyR at hx
  simp only [List.mem_append, List.mem_cons, List.not_mem_nil, or_false] at hx
  rcases hx with h | h
  · omega
  · have := List.eq_of_mem_replicate h; omega
theorem keysUp_mem {l : List RawD} {n : Nat} {k : List Nat} (h : k ∈ keysUp l n) : k.length = 20 ∧ ∀ x ∈ k, x < 256 := by
  obtain ⟨i, _, rfl⟩ := List.mem_map.1 h
  exact ⟨keyR_len _ _, keyR_lt _ _⟩
theorem keysUp_len (l : List RawD) (n : Nat) : (keysUp l n).length = n := by unfold keysUp; rw [List.length_map, List.length_range]
theorem keysUp_succ (l : List RawD) (n : Nat) : keysUp l (n + 1) = keysUp l n ++ [keyR n (l.getD n rawZ)] := by unfold keysUp; rw [List.range_succ, List.map_append]; rfl
theorem keysOf_fn {f : Bool} {l : List RawD} (hl : l.length ≤ maxLen) : FnV Try.prog G0 33 [.ds f l.length (rawsC l)] (.ds false (keysR l).length (rows bts (keysR l))) := by
  obtain ⟨f', so⟩ := some_fn f l 19 hl (by decide)
  have hM : (l.take 19).length ≤ 19 := by rw [List.length_take]; omega
  have eM : keysR l = keysUp (l.take 19) (l.take 19).length := rfl
  rw [eM, keysUp_len]
  refine gen_ex (l.take 19) fun M hMe => ?_
  rw [← hMe] at hM so ⊢
  clear hMe eM
  refine fn_of_vwp Γok Try.func33 (by kernel_rfl) rfl (by simp [Try.ntmps33]) (wpv_ok Γok (by kernel_rfl) _ _ _ ?_); conv => whnf
  refine ⟨_, ret_of_fn G0ok (so) (by first | rfl | simp only [noHs, noH, nI, bI, Bool.and_self, Bool.and_true, Bool.true_and, rawsC_noHs]) (by first | rfl | simp only [noHs, noH, nI, bI, Bool.and_self, Bool.and_true, Bool.true_and, rawsC_noHs]), ?_⟩; (conv => whnf); (try (refine ⟨by kernel_rfl, ?_⟩; conv => whnf))
  refine vloop_invK G0ok [(0, none)] 1 (X := Nat) (fun i => [(10, nI .i64 i), (9, nI .i64 M.length), (8, .ds f' M.length (rawsC M)), (3, .sl 0 0 i 20), (2, .ds true 0 [])])
    (fun i => [(0, some (rows bts (keysUp M i)))]) (fun i => i ≤ M.length) (fun i => M.length - i) 0 rfl ⟨⟨_, rfl, conv_nI (rfl)⟩, ⟨_, rfl, conv_nI (rfl)⟩, ⟨_, rfl, conv_eq rfl (rawsC_noHs _)⟩, ⟨_, rfl, .null rfl⟩, ⟨_, rfl, .same rfl⟩, trivial⟩ ⟨.inl ⟨rfl, rfl⟩, trivial⟩ (Nat.zero_le _) ?_
  intro i hi
  try dsimp only at hi ⊢
  refine wpv_ok Γok (by kernel_rfl) _ _ _ ?_; conv => whnf
  have rl : (rows bts (keysUp M i)).length = i * 20 := by rw [rows_length (w := 20) fun a ha => by rw [bts_length, (keysUp_mem ha).1], keysUp_len]
  refine bool_cases (fun hc => ?_) (fun hc => ?_)
  · have hc := of_decide_eq_true hc
    have hc : i < M.length := by omega
    have st := keysUp_succ M i
    have gd : M.getD i rawZ = M[i] := by rw [List.getD_eq_getElem?_getD, List.getElem?_eq_getElem hc]; rfl
    rw [gd] at st
    conv => whnf
    try (refine ⟨by kernel_rfl, ?_⟩; conv => whnf)
    refine bindP_intro (if_pos (inB_ok (by omega) (by omega))) ?_; conv => whnf
    refine bindP_intro (raw_load (i := i) rfl rfl rfl (by dsimp only; omega) hc) ?_
    refine gen_ex M[i] fun r er => ?_
    rw [← er] at st ⊢
    clear er gd
    have e1 : wS .u8 (i : Int) = ((i % 256 : Nat) : Int) := by rw [ws_u8]; omega
    have e2 : wS .u8 r.a = (((r.a % 256).toNat : Nat) : Int) := by rw [ws_u8]; omega
    have e3 : wS .u8 r.b = (((r.b % 256).toNat : Nat) : Int) := by rw [ws_u8]; omega
    have kl : (bts (keyR i r)).length = 20 := by rw [bts_length]; rfl
    unfold RawD.v RawD.cells
    conv => whnf
    try (refine ⟨by kernel_rfl, ?_⟩; conv => whnf)
    rw [e1, e2, e3]
    refine .ownAs 1 (bts (keyR i r)) rfl rfl ?_
    conv => whnf
    try (refine ⟨by kernel_rfl, ?_⟩; conv => whnf)
    refine onlyIf_intro (by show (Nat.beq (rows bts (keysUp M i)).length _ && _) = true; rw [rl]; simp [maxLen]; omega) ?_
    refine .ownAs (i + 1) (rows bts (keysUp M (i + 1))) rfl (by rw [st, rows_app, rows_one]) ?_
    conv => whnf
    try (refine ⟨by kernel_rfl, ?_⟩; conv => whnf)
    refine next_round (y := i) G0ok (i + 1) [(0, some 4)] rfl ⟨⟨_, rfl, conv_nI (ws_i64 (by omega) (by omega))⟩, ⟨_, rfl, conv_nI (rfl)⟩, ⟨_, rfl, conv_eq rfl (rawsC_noHs _)⟩, ⟨_, rfl, .sl rfl⟩, ⟨_, rfl, .same rfl⟩, trivial⟩ ⟨.inr ⟨_, _, rfl, rfl, .same (rows_noHs bts_noHs _)⟩, trivial⟩ (by omega) (by omega)
  · have hc := of_decide_eq_false hc
    have e : i = M.length := by omega
    subst e
    conv => whnf
    try (refine ⟨by kernel_rfl, ?_⟩; conv => whnf)
    exact ⟨_, rfl, deep_row rfl rl (rows_noHs bts_noHs _)⟩
/-- The loads of raw things. -/
noncomputable def symR (x y : RawD) : List Nat := [97 + (x.b % 26).toNat, 122].take (y.b % 3).toNat
noncomputable def ldM0 (x y : RawD) : LdD := ⟨2, 0, 0, wordN x, (y.a % 65536).toNat, z32, 0, (x.a % 78).toNat, symR x y, [], 0, []⟩
noncomputable def ldK0 (x : RawD) (l : List RawD) : LdD := ⟨4, 0, 0, z32, 0, z32, 0, 0, [], [], (x.a % 4294967296).toNat, keysR (x :: l.take 18)⟩
open Classical in
noncomputable def ldT0 (p : Bool) (x y : RawD) : LdD := ⟨if p = true then 3 else 1, if rawN x < rawN y then rawN y else rawN x, if rawN x < rawN y then rawN x else rawN y, wordN y, (x.b % 65536).toNat, wordN x, (y.b % 65536).toNat, 0, [], if p = true then cutN x 100 else [], 0, []⟩
theorem ldM0_ok (x y : RawD) : OkM (ldM0 x y) := by
  refine ⟨rfl, wordN_length x, wordN_lt x, ?_, ?_, ?_, fun z hz => ?_, ⟨rfl, rfl, rfl, rfl, rfl, rfl, rfl⟩⟩
  · show (y.a % 65536).toNat < 65536; omega
  · show (x.a % 78).toNat ≤ 77; omega
  · show (symR x y).length ≤ 32
    unfold symR
    rw [List.length_take]
    show min _ 2 ≤ 32
    omega
  · have hz : z ∈ [97 + (x.b % 26).toNat, 122] := List.mem_of_mem_take hz
    simp only [List.mem_cons, List.not_mem_nil, or_false] at hz
    omega
theorem ldK0_ok (x : RawD) (l : List RawD) : OkK (ldK0 x l) := by
  have hk : (ldK0 x l).keys.length = (x :: l.take 18).length := by
    show (keysR _).length = _
    unfold keysR
    rw [keysUp_len, List.take_of_length_le (by rw [List.length_cons, List.length_take]; omega)]
  refine ⟨rfl, ?_, ?_, ?_, fun k h => (keysUp_mem h).1, fun k h => (keysUp_mem h).2, ⟨rfl, rfl, rfl, rfl, rfl, rfl, rfl, rfl, rfl⟩⟩
  · show (x.a % 4294967296).toNat < 4294967296; omega
  · rw [hk, List.length_cons]; omega
  · rw [hk, List.length_cons, List.length_take]; omega
theorem ldT0_ok (p : Bool) (x y : RawD) : OkT (ldT0 p x y) := by
  have hx := rawN_lt x
  have hy := rawN_lt y
  refine ⟨?_, ?_, wordN_length y, wordN_lt y, wordN_length x, wordN_lt x, ?_, ?_, ?_, ?_, ?_, ?_, ⟨rfl, rfl, rfl, rfl⟩⟩ <;> unfold ldT0 <;> dsimp only
  · split <;> assumption
  · split <;> omega
  · omega
  · omega
  · intro z hz
    cases p with
    | false => rw [if_neg (by decide)] at hz; cases hz
    | true => rw [if_pos rfl] at hz; exact cutN_lt x 100 z hz
  · cases p with
    | false => rw [if_neg (by decide)]; exact Nat.zero_le _
    | true => rw [if_pos rfl]; exact cutN_len x 100
  · intro h
    cases p with
    | false => rw [if_neg (by decide)]
    | true => rw [if_pos rfl] at h; exact absurd h (by decide)
  · cases p with
    | false => exact .inl (if_neg (by decide))
    | true => exact .inr (if_pos rfl)
end Go.Proofs.Ytilmfdlonpjjiaa
namespace Go.Proofs.Ytilmfdlonpjjiaa
set_option linter.unusedVariables false
set_option linter.unusedSimpArgs false
set_option linter.unusedSectionVars false
open Go.ChangeShapes Go.WideShapes Go.ChangeAt Go.RowKit Go.Joins
set_option maxRecDepth 10000
theorem extract_mk (l : List UInt8) (k : Nat) : (ByteArray.mk l.toArray).extract 0 k = ⟨(l.take k).toArray⟩ := by
  apply ByteArray.ext
  rw [ByteArray.data_extract]
  apply Array.toList_inj.1
  rw [Array.toList_extract]
  simp [List.extract]
theorem loadOf_m {f : Bool} {kind : Int} {x y : RawD} {l : List RawD} (hk : kind % 4 = 0) : FnV Try.prog G0 11 [nI .i64 kind, x.v, y.v, .ds f l.length (rawsC l)] (.agg (ldC true true (ldM0 x y))) := by
  have pk := picked_fn kind 4 (by decide) (by decide)
  rw [hk] at pk
  have w1 := word_fn x
  have p1 := picked_fn y.a 65536 (by decide) (by decide)
  have p2 := picked_fn x.a 78 (by decide) (by decide)
  have p3 := picked_fn x.b 26 (by decide) (by decide)
  have p4 := picked_fn y.b 3 (by decide) (by decide)
  have wl := wordN_length x
  have cl := (ldC_ok (fd := true) (fk := true) (ldM0_ok x y).token (show (ldM0 x y).to.length = 32 from rfl)).len
  have cn := ldC_noHs true true (ldM0 x y)
  have t1 : (bts (wordN x)).length = 32 := by rw [bts_length, wl]
  have bx : wS .u8 (97 + wS .u8 (x.b % 26)) = ((97 + (x.b % 26).toNat : Nat) : Int) := by rw [ws_u8, ws_u8]; omega
  unfold RawD.v RawD.cells at *
  refine fn_of_vwp Γok Try.func11 (by kernel_rfl) rfl (by simp [Try.ntmps11]) (wpv_ok Γok (by kernel_rfl) _ _ _ ?_); conv => whnf
  refine ⟨_, ret_of_fn G0ok (pk) (by first | rfl | simp only [noHs, noH, nI, bI, Bool.and_self, Bool.and_true, Bool.true_and, rawsC_noHs]) (by first | rfl | simp only [noHs, noH, nI, bI, Bool.and_self, Bool.and_true, Bool.true_and, rawsC_noHs]), ?_⟩; (conv => whnf); (try (refine ⟨by kernel_rfl, ?_⟩; conv => whnf))
  refine ⟨_, ret_of_fn G0ok (w1) (by first | rfl | simp only [noHs, noH, nI, bI, Bool.and_self, Bool.and_true, Bool.true_and, bts_noHs]) (by first | rfl | simp only [noHs, noH, nI, bI, Bool.and_self, Bool.and_true, Bool.true_and, bts_noHs]), ?_⟩; (conv => whnf); (try (refine ⟨by kernel_rfl, ?_⟩; conv => whnf))
  refine ⟨_, ret_of_fn G0ok (p1) (by first | rfl | simp only [noHs, noH, nI, bI, Bool.and_self, Bool.and_true, Bool.true_and, ]) (by first | rfl | simp only [noHs, noH, nI, bI, Bool.and_self, Bool.and_true, Bool.true_and, ]), ?_⟩; (conv => whnf); (try (refine ⟨by kernel_rfl, ?_⟩; conv => whnf))
  refine ⟨_, ret_of_fn G0ok (p2) (by first | rfl | simp only [noHs, noH, nI, bI, Bool.and_self, Bool.and_true, Bool.true_and, ]) (by first | rfl | simp only [noHs, noH, nI, bI, Bool.and_self, Bool.and_true, Bool.true_and, ]), ?_⟩; (conv => whnf); (try (refine ⟨by kernel_rfl, ?_⟩; conv => whnf))
  refine ⟨_, ret_of_fn G0ok (p3) (by first | rfl | simp only [noHs, noH, nI, bI, Bool.and_self, Bool.and_true, Bool.true_and, ]) (by first | rfl | simp only [noHs, noH, nI, bI, Bool.and_self, Bool.and_true, Bool.true_and, ]), ?_⟩; (conv => whnf); (try (refine ⟨by kernel_rfl, ?_⟩; conv => whnf))
  rw [bx]
  refine .read 2 (bts [97 + (x.b % 26).toNat, 122]) rfl rfl rfl rfl ?_
  conv => whnf
  try (refine ⟨by kernel_rfl, ?_⟩; conv => whnf)
  refine ⟨[97 + (x.b % 26).toNat, 122].map fun n => n.toUInt8, (sym_cells (s := [97 + (x.b % 26).toNat, 122]) (fun z hz => by simp only [List.mem_cons, List.not_mem_nil, or_false] at hz; omega)).symm, rfl, ?_⟩
  conv => whnf
  try (refine ⟨by kernel_rfl, ?_⟩; conv => whnf)
  refine ⟨_, ret_of_fn G0ok (p4) (by first | rfl | simp only [noHs, noH, nI, bI, Bool.and_self, Bool.and_true, Bool.true_and, ]) (by first | rfl | simp only [noHs, noH, nI, bI, Bool.and_self, Bool.and_true, Bool.true_and, ]), ?_⟩; (conv => whnf); (try (refine ⟨by kernel_rfl, ?_⟩; conv => whnf))
  obtain ⟨k3, e3, h3⟩ : ∃ k : Nat, y.b % 3 = (k : Int) ∧ k < 3 := ⟨(y.b % 3).toNat, by omega, by omega⟩
  have sy : symR x y = [97 + (x.b % 26).toNat, 122].take k3 := by unfold symR; rw [e3]; rfl
  rw [e3]
  refine bindP_intro (vpure_slice (vslice_str (l := 0) (h := k3) rfl (by rfl) vb_nat (by omega) (by show k3 ≤ 2; omega))) ?_
  conv => whnf
  try (refine ⟨by kernel_rfl, ?_⟩; conv => whnf)
  have es : (ByteArray.mk ([97 + (x.b % 26).toNat, 122].map fun n => n.toUInt8).toArray).extract 0 k3 = ⟨((symR x y).map fun n => n.toUInt8).toArray⟩ := by rw [extract_mk, sy, List.map_take]
  rw [es]
  have eh : y.a % 65536 = (((y.a % 65536).toNat : Nat) : Int) := by omega
  have ed : x.a % 78 = (((x.a % 78).toNat : Nat) : Int) := by omega
  rw [eh, ed]
  refine bindP_intro (vpure_build (R := ldC true true (ldM0 x y)) rfl rfl rfl rfl ?_) ?_
  · refine fill_zz (Z := _) (R := ldC true true (ldM0 x y)) (fun Z hl hz => ?_) rfl rfl
    refine fill_next (A := []) (z := Z) (g := 0) rfl rfl rfl rfl (by simp [hl]) ?_
    refine fill_next (g := 8) rfl rfl t1 (by simp [hl]) (by simp [hl]) ?_
    refine fill_next (g := 0) rfl rfl rfl (by simp [hl, t1]) (by simp [hl]) ?_
    refine fill_next (g := 33) rfl rfl rfl (by simp [hl, t1]) (by simp [hl]) ?_
    refine fill_next (g := 0) rfl rfl rfl (by simp [hl, t1]) (by simp [hl]) ?_
    refine congrArg some ?_
    refine Eq.trans (b := [nI .i64 2] ++ ((Z.drop 1).take 8 ++ (bts (wordN x) ++ ([nI .i64 ((y.a % 65536).toNat : Nat)] ++ ((Z.drop 42).take 33 ++ ([nI .i64 ((x.a % 78).toNat : Nat)] ++ ([.v (.string ⟨((symR x y).map fun n => n.toUInt8).toArray⟩)] ++ Z.drop 77))))))) (by simp [List.append_assoc, List.drop_drop, nI] <;> rfl) ?_
    unfold ldC ldT ldM0
    rw [uC_lit (n := 0) (by decide), hz]
    rfl
  · conv => whnf
    try (refine ⟨by kernel_rfl, ?_⟩; conv => whnf)
    refine onlyIf_intro (by simp [words_length, *, cl]) ?_; rw [splice_all (by simp [words_length, *, cl])]; conv => whnf
    conv => whnf
    try (refine ⟨by kernel_rfl, ?_⟩; conv => whnf)
    exact ⟨_, vres_one rfl (vres_cell rfl rfl (load_agg rfl rfl cl)), deepV_noH _ _ cn⟩
theorem loadOf_k {f : Bool} {kind : Int} {x y : RawD} {l : List RawD} (hk : kind % 4 = 1) (hl : l.length ≤ maxLen) : FnV Try.prog G0 11 [nI .i64 kind, x.v, y.v, .ds f l.length (rawsC l)] (.agg (ldC true false (ldK0 x l))) := by
  have pk := picked_fn kind 4 (by decide) (by decide)
  rw [hk] at pk
  have p1 := picked_fn x.a 4294967296 (by decide) (by decide)
  obtain ⟨f', so⟩ := some_fn f l 18 hl (by decide)
  have lt : (l.take 18).length ≤ 18 := by rw [List.length_take]; omega
  have ko := keysOf_fn (f := false) (l := x :: l.take 18) (by rw [List.length_cons]; simp only [maxLen]; omega)
  have ek : (ldK0 x l).keys = keysR (x :: l.take 18) := rfl
  have cl := (ldC_ok (fd := true) (fk := false) (show (ldK0 x l).token.length = 32 from rfl) (show (ldK0 x l).to.length = 32 from rfl)).len
  have cn := ldC_noHs true false (ldK0 x l)
  have nk := rows_noHs bts_noHs (keysR (x :: l.take 18))
  have ra : rawsC (x :: l.take 18) = x.cells ++ rawsC (l.take 18) := rfl
  have nr : noHs (rawsC (x :: l.take 18)) = true := rawsC_noHs _
  have eh : x.a % 4294967296 = (((x.a % 4294967296).toNat : Nat) : Int) := by omega
  have rl : (rawsC (l.take 18)).length = (l.take 18).length * 4 := rawsC_length _
  have nQ : noHs (rawsC (l.take 18)) = true := rawsC_noHs _
  have el : (x :: l.take 18).length = (l.take 18).length + 1 := rfl
  have eR : ldC true false (ldK0 x l) = (zLd.set 0 (nI .i64 4)).take 78 ++ [nI .i64 ((x.a % 4294967296).toNat : Nat), .ds false (keysR (x :: l.take 18)).length (rows bts (keysR (x :: l.take 18)))] := by
    unfold ldC ldK0
    rw [uC_lit (n := 0) (by decide)]
    rfl
  refine gen_ex (keysR (x :: l.take 18)) fun K eK => ?_
  rw [← eK] at ko nk eR
  refine gen_ex (rawsC (x :: l.take 18)) fun R eRR => ?_
  rw [← eRR] at ko ra nr
  refine gen_ex (rawsC (l.take 18)) fun Q eQ => ?_
  rw [← eQ] at ra so rl nQ
  have el0 := el
  refine gen_ex (l.take 18).length fun m em => ?_
  rw [← em] at so rl el lt el0
  rw [el] at ko
  unfold RawD.v RawD.cells at *
  refine fn_of_vwp Γok Try.func11 (by kernel_rfl) rfl (by simp [Try.ntmps11]) (wpv_ok Γok (by kernel_rfl) _ _ _ ?_); conv => whnf
  refine ⟨_, ret_of_fn G0ok (pk) (by first | rfl | simp only [noHs, noH, nI, bI, Bool.and_self, Bool.and_true, Bool.true_and, rawsC_noHs]) (by first | rfl | simp only [noHs, noH, nI, bI, Bool.and_self, Bool.and_true, Bool.true_and, rawsC_noHs]), ?_⟩; (conv => whnf); (try (refine ⟨by kernel_rfl, ?_⟩; conv => whnf))
  refine ⟨_, ret_of_fn G0ok (p1) (by first | rfl | simp only [noHs, noH, nI, bI, Bool.and_self, Bool.and_true, Bool.true_and, ]) (by first | rfl | simp only [noHs, noH, nI, bI, Bool.and_self, Bool.and_true, Bool.true_and, ]), ?_⟩; (conv => whnf); (try (refine ⟨by kernel_rfl, ?_⟩; conv => whnf))
  rw [eh]
  refine .ownAs 1 x.cells rfl rfl ?_
  conv => whnf
  try (refine ⟨by kernel_rfl, ?_⟩; conv => whnf)
  refine ⟨_, ret_of_fn G0ok (so) (by first | rfl | simp only [noHs, noH, nI, bI, Bool.and_self, Bool.and_true, Bool.true_and, rawsC_noHs, nQ]) (by first | rfl | simp only [noHs, noH, nI, bI, Bool.and_self, Bool.and_true, Bool.true_and, rawsC_noHs, nQ]), ?_⟩; (conv => whnf); (try (refine ⟨by kernel_rfl, ?_⟩; conv => whnf))
  refine onlyIf_intro (by show (_ && (_ && Nat.beq Q.length (m * 4))) = true; rw [rl]; simp) ?_
  conv => whnf
  try (refine ⟨by kernel_rfl, ?_⟩; conv => whnf)
  refine onlyIf_intro (by simp [maxLen, RawD.cells]; omega) ?_
  refine .read (m + 1) R (Nat.add_comm _ _) ra.symm (by rw [eRR, rawsC_length, el0]) nr ?_
  conv => whnf
  try (refine ⟨by kernel_rfl, ?_⟩; conv => whnf)
  refine ⟨_, ret_of_fn G0ok (ko) (by first | rfl | simp only [noHs, noH, nI, bI, Bool.and_self, Bool.and_true, Bool.true_and, nr, nk]) (by first | rfl | simp only [noHs, noH, nI, bI, Bool.and_self, Bool.and_true, Bool.true_and, nr, nk]), ?_⟩; (conv => whnf); (try (refine ⟨by kernel_rfl, ?_⟩; conv => whnf))
  refine ⟨.agg (ldC true false (ldK0 x l)), ?_, deepV_noH _ _ cn⟩
  rw [eR]
  rfl
theorem ldC_data {fd fk : Bool} {l : LdD} {g : Bool} {d : List Nat} (h1 : l.token.length = 32) (h2 : l.to.length = 32) : (ldC fd fk l).set 77 (.ds g d.length (bts d)) = ldC g fk { l with data := d } := by
  have t1 : (bts l.token).length = 32 := by rw [bts_length, h1]
  have t2 : (bts l.to).length = 32 := by rw [bts_length, h2]
  have a9 : (nI .i64 l.kind :: (uC l.amt ++ uC l.fee)).length = 9 := rfl
  unfold ldC
  rw [List.set_append_right _ _ (by rw [a9]; decide), a9, List.set_append_right _ _ (by rw [t1]; decide), t1]
  show _ ++ (_ ++ (nI .i64 l.home :: ((bts l.to ++ ldT fd fk l).set 35 _))) = _
  rw [List.set_append_right _ _ (by rw [t2]; decide), t2]
  rfl
theorem loadOf_t {f : Bool} {kind : Int} {x y : RawD} {l : List RawD} (hk : kind % 4 = 2 ∨ kind % 4 = 3) (hx : x.ok) : ∃ fd, FnV Try.prog G0 11 [nI .i64 kind, x.v, y.v, .ds f l.length (rawsC l)] (.agg (ldC fd true (ldT0 (decide (kind % 4 = 3)) x y))) := by
  refine ⟨decide (¬ kind % 4 = 3), ?_⟩
  have pk := picked_fn kind 4 (by decide) (by decide)
  have n1 := number_fn x
  have n2 := number_fn y
  have l1 := rawN_lt x
  have l2 := rawN_lt y
  have cp := cmp_fn (a := rawN x) (b := rawN y) l1 l2
  have w1 := word_fn x
  have w2 := word_fn y
  have p1 := picked_fn x.b 65536 (by decide) (by decide)
  have p2 := picked_fn y.b 65536 (by decide) (by decide)
  have ct := cut_fn x.s 100 hx.2.2.2 (by decide)
  obtain ⟨cc1, cc2⟩ := cut_cells x 100
  have cln := cutN_len x 100
  have t1 : (bts (wordN x)).length = 32 := by rw [bts_length, wordN_length]
  have t2 : (bts (wordN y)).length = 32 := by rw [bts_length, wordN_length]
  have cn := ldC_noHs (decide (¬ kind % 4 = 3)) true (ldT0 (decide (kind % 4 = 3)) x y)
  have eh : x.b % 65536 = (((x.b % 65536).toNat : Nat) : Int) := by omega
  have ed : y.b % 65536 = (((y.b % 65536).toNat : Nat) : Int) := by omega
  rw [eh] at p1
  rw [ed] at p2
  unfold RawD.v RawD.cells at *
  by_cases hs : rawN x < rawN y
  · have cd : decide (cmpN (rawN x) (rawN y) < 0) = true := decide_eq_true (cmpN_neg.2 hs)
    rcases hk with hk | hk
    · rw [hk] at pk
      have eq : ldC (decide (¬ kind % 4 = 3)) true (ldT0 (decide (kind % 4 = 3)) x y) = ldC true true ⟨1, rawN y, rawN x, wordN y, (x.b % 65536).toNat, wordN x, (y.b % 65536).toNat, 0, [], [], 0, []⟩ := by
        unfold ldT0
        rw [if_pos hs, if_pos hs, decide_eq_true (show ¬ kind % 4 = 3 by omega), decide_eq_false (show ¬ kind % 4 = 3 by omega), if_neg (by decide), if_neg (by decide)]
      rw [eq]
      refine fn_of_vwp Γok Try.func11 (by kernel_rfl) rfl (by simp [Try.ntmps11]) (wpv_ok Γok (by kernel_rfl) _ _ _ ?_); conv => whnf
      refine ⟨_, ret_of_fn G0ok (pk) (by first | rfl | simp only [noHs, noH, nI, bI, Bool.and_self, Bool.and_true, Bool.true_and, rawsC_noHs]) (by first | rfl | simp only [noHs, noH, nI, bI, Bool.and_self, Bool.and_true, Bool.true_and, rawsC_noHs]), ?_⟩; (conv => whnf); (try (refine ⟨by kernel_rfl, ?_⟩; conv => whnf))
      refine ⟨_, ret_of_fn G0ok (n1) (by first | rfl | simp only [noHs, noH, nI, bI, Bool.and_self, Bool.and_true, Bool.true_and, ]) (by first | rfl | simp only [noHs, noH, nI, bI, Bool.and_self, Bool.and_true, Bool.true_and, ]), ?_⟩; (conv => whnf); (try (refine ⟨by kernel_rfl, ?_⟩; conv => whnf))
      refine ⟨_, ret_of_fn G0ok (n2) (by first | rfl | simp only [noHs, noH, nI, bI, Bool.and_self, Bool.and_true, Bool.true_and, ]) (by first | rfl | simp only [noHs, noH, nI, bI, Bool.and_self, Bool.and_true, Bool.true_and, ]), ?_⟩; (conv => whnf); (try (refine ⟨by kernel_rfl, ?_⟩; conv => whnf))
      refine ⟨_, ret_of_fn G0ok (cp) (by first | rfl | simp only [noHs, noH, nI, bI, Bool.and_self, Bool.and_true, Bool.true_and, ]) (by first | rfl | simp only [noHs, noH, nI, bI, Bool.and_self, Bool.and_true, Bool.true_and, ]), ?_⟩; (conv => whnf); (try (refine ⟨by kernel_rfl, ?_⟩; conv => whnf))
      rw [cd]
      conv => whnf
      try (refine ⟨by kernel_rfl, ?_⟩; conv => whnf)
      refine ⟨_, ret_of_fn G0ok (w2) (by first | rfl | simp only [noHs, noH, nI, bI, Bool.and_self, Bool.and_true, Bool.true_and, bts_noHs]) (by first | rfl | simp only [noHs, noH, nI, bI, Bool.and_self, Bool.and_true, Bool.true_and, bts_noHs]), ?_⟩; (conv => whnf); (try (refine ⟨by kernel_rfl, ?_⟩; conv => whnf))
      refine ⟨_, ret_of_fn G0ok (p1) (by first | rfl | simp only [noHs, noH, nI, bI, Bool.and_self, Bool.and_true, Bool.true_and, ]) (by first | rfl | simp only [noHs, noH, nI, bI, Bool.and_self, Bool.and_true, Bool.true_and, ]), ?_⟩; (conv => whnf); (try (refine ⟨by kernel_rfl, ?_⟩; conv => whnf))
      refine ⟨_, ret_of_fn G0ok (w1) (by first | rfl | simp only [noHs, noH, nI, bI, Bool.and_self, Bool.and_true, Bool.true_and, bts_noHs]) (by first | rfl | simp only [noHs, noH, nI, bI, Bool.and_self, Bool.and_true, Bool.true_and, bts_noHs]), ?_⟩; (conv => whnf); (try (refine ⟨by kernel_rfl, ?_⟩; conv => whnf))
      refine ⟨_, ret_of_fn G0ok (p2) (by first | rfl | simp only [noHs, noH, nI, bI, Bool.and_self, Bool.and_true, Bool.true_and, ]) (by first | rfl | simp only [noHs, noH, nI, bI, Bool.and_self, Bool.and_true, Bool.true_and, ]), ?_⟩; (conv => whnf); (try (refine ⟨by kernel_rfl, ?_⟩; conv => whnf))
      refine bindP_intro (vpure_build (R := ldC true true ⟨1, rawN y, rawN x, wordN y, (x.b % 65536).toNat, wordN x, (y.b % 65536).toNat, 0, [], [], 0, []⟩) rfl rfl rfl rfl ?_) ?_
      · refine fill_zz (Z := _) (R := ldC true true ⟨1, rawN y, rawN x, wordN y, (x.b % 65536).toNat, wordN x, (y.b % 65536).toNat, 0, [], [], 0, []⟩) (fun Z hl hz => ?_) rfl rfl
        have ul : ∀ n, (uC n).length = 4 := fun n => rfl
        refine fill_next (A := []) (z := Z) (cs := [nI .i64 1]) (g := 0) rfl rfl rfl rfl (by simp [hl]) ?_
        refine fill_next (cs := uC (rawN y)) (g := 0) rfl rfl rfl (by simp) (by simp [hl]) ?_
        refine fill_next (cs := uC (rawN x)) (g := 0) rfl rfl rfl (by simp [ul]) (by simp [hl]) ?_
        refine fill_next (g := 0) rfl rfl t2 (by simp [ul]) (by simp [hl]) ?_
        refine fill_next (g := 0) rfl rfl rfl (by simp [ul, t2]) (by simp [hl]) ?_
        refine fill_next (g := 0) rfl rfl t1 (by simp [ul, t2]) (by simp [hl]) ?_
        refine fill_next (g := 0) rfl rfl rfl (by simp [ul, t1, t2]) (by simp [hl]) ?_
        refine congrArg some ?_
        refine Eq.trans (b := [nI .i64 1] ++ (uC (rawN y) ++ (uC (rawN x) ++ (bts (wordN y) ++ ([nI .i64 ((x.b % 65536).toNat : Nat)] ++ (bts (wordN x) ++ ([nI .i64 ((y.b % 65536).toNat : Nat)] ++ Z.drop 75))))))) (by simp [List.append_assoc, List.drop_drop, nI] <;> rfl) ?_
        rw [hz]
        unfold ldC ldT
        rfl
      · have lC := (ldC_ok (fd := true) (fk := true) (l := ⟨1, rawN y, rawN x, wordN y, (x.b % 65536).toNat, wordN x, (y.b % 65536).toNat, 0, [], [], 0, []⟩) (wordN_length y) (wordN_length x)).len
        have nC := ldC_noHs true true ⟨1, rawN y, rawN x, wordN y, (x.b % 65536).toNat, wordN x, (y.b % 65536).toNat, 0, [], [], 0, []⟩
        refine gen_ex (ldC true true ⟨1, rawN y, rawN x, wordN y, (x.b % 65536).toNat, wordN x, (y.b % 65536).toNat, 0, [], [], 0, []⟩) fun C eC => ?_
        rw [← eC] at lC nC ⊢
        conv => whnf
        try (refine ⟨by kernel_rfl, ?_⟩; conv => whnf)
        refine onlyIf_intro (by rw [lC]; rfl) ?_
        rw [splice_all (by rw [lC]; rfl)]
        conv => whnf
        try (refine ⟨by kernel_rfl, ?_⟩; conv => whnf)
        refine ⟨_, ret_of_fn G0ok (pk) (by first | rfl | simp only [noHs, noH, nI, bI, Bool.and_self, Bool.and_true, Bool.true_and, rawsC_noHs]) (by first | rfl | simp only [noHs, noH, nI, bI, Bool.and_self, Bool.and_true, Bool.true_and, rawsC_noHs]), ?_⟩; (conv => whnf); (try (refine ⟨by kernel_rfl, ?_⟩; conv => whnf))
        refine bindP_intro (load_agg rfl rfl lC) ?_
        conv => whnf
        try (refine ⟨by kernel_rfl, ?_⟩; conv => whnf)
        refine onlyIf_intro (by rw [lC]; rfl) ?_
        rw [splice_all (by rw [lC]; rfl)]
        conv => whnf
        try (refine ⟨by kernel_rfl, ?_⟩; conv => whnf)
        exact ⟨_, vres_one rfl (vres_cell rfl rfl (load_agg rfl rfl lC)), deepV_noH _ (.agg _) nC⟩
    · rw [hk] at pk
      have eq : ldC (decide (¬ kind % 4 = 3)) true (ldT0 (decide (kind % 4 = 3)) x y) = ((ldC true true ⟨1, rawN y, rawN x, wordN y, (x.b % 65536).toNat, wordN x, (y.b % 65536).toNat, 0, [], [], 0, []⟩).set 0 (nI .i64 3)).set 77 (.ds false (cutN x 100).length (bts (cutN x 100))) := by
        unfold ldT0
        rw [if_pos hs, if_pos hs, decide_eq_true hk, if_pos rfl, if_pos rfl, decide_eq_false (show ¬ ¬ kind % 4 = 3 by omega)]
        exact (ldC_data (l := ⟨3, rawN y, rawN x, wordN y, (x.b % 65536).toNat, wordN x, (y.b % 65536).toNat, 0, [], [], 0, []⟩) (fd := true) (fk := true) (g := false) (wordN_length y) (wordN_length x)).symm
      have nn : noHs (((ldC true true ⟨1, rawN y, rawN x, wordN y, (x.b % 65536).toNat, wordN x, (y.b % 65536).toNat, 0, [], [], 0, []⟩).set 0 (nI .i64 3)).set 77 (.ds false (cutN x 100).length (bts (cutN x 100)))) = true := by rw [← eq]; exact cn
      rw [eq]
      refine fn_of_vwp Γok Try.func11 (by kernel_rfl) rfl (by simp [Try.ntmps11]) (wpv_ok Γok (by kernel_rfl) _ _ _ ?_); conv => whnf
      refine ⟨_, ret_of_fn G0ok (pk) (by first | rfl | simp only [noHs, noH, nI, bI, Bool.and_self, Bool.and_true, Bool.true_and, rawsC_noHs]) (by first | rfl | simp only [noHs, noH, nI, bI, Bool.and_self, Bool.and_true, Bool.true_and, rawsC_noHs]), ?_⟩; (conv => whnf); (try (refine ⟨by kernel_rfl, ?_⟩; conv => whnf))
      refine ⟨_, ret_of_fn G0ok (n1) (by first | rfl | simp only [noHs, noH, nI, bI, Bool.and_self, Bool.and_true, Bool.true_and, ]) (by first | rfl | simp only [noHs, noH, nI, bI, Bool.and_self, Bool.and_true, Bool.true_and, ]), ?_⟩; (conv => whnf); (try (refine ⟨by kernel_rfl, ?_⟩; conv => whnf))
      refine ⟨_, ret_of_fn G0ok (n2) (by first | rfl | simp only [noHs, noH, nI, bI, Bool.and_self, Bool.and_true, Bool.true_and, ]) (by first | rfl | simp only [noHs, noH, nI, bI, Bool.and_self, Bool.and_true, Bool.true_and, ]), ?_⟩; (conv => whnf); (try (refine ⟨by kernel_rfl, ?_⟩; conv => whnf))
      refine ⟨_, ret_of_fn G0ok (cp) (by first | rfl | simp only [noHs, noH, nI, bI, Bool.and_self, Bool.and_true, Bool.true_and, ]) (by first | rfl | simp only [noHs, noH, nI, bI, Bool.and_self, Bool.and_true, Bool.true_and, ]), ?_⟩; (conv => whnf); (try (refine ⟨by kernel_rfl, ?_⟩; conv => whnf))
      rw [cd]
      conv => whnf
      try (refine ⟨by kernel_rfl, ?_⟩; conv => whnf)
      refine ⟨_, ret_of_fn G0ok (w2) (by first | rfl | simp only [noHs, noH, nI, bI, Bool.and_self, Bool.and_true, Bool.true_and, bts_noHs]) (by first | rfl | simp only [noHs, noH, nI, bI, Bool.and_self, Bool.and_true, Bool.true_and, bts_noHs]), ?_⟩; (conv => whnf); (try (refine ⟨by kernel_rfl, ?_⟩; conv => whnf))
      refine ⟨_, ret_of_fn G0ok (p1) (by first | rfl | simp only [noHs, noH, nI, bI, Bool.and_self, Bool.and_true, Bool.true_and, ]) (by first | rfl | simp only [noHs, noH, nI, bI, Bool.and_self, Bool.and_true, Bool.true_and, ]), ?_⟩; (conv => whnf); (try (refine ⟨by kernel_rfl, ?_⟩; conv => whnf))
      refine ⟨_, ret_of_fn G0ok (w1) (by first | rfl | simp only [noHs, noH, nI, bI, Bool.and_self, Bool.and_true, Bool.true_and, bts_noHs]) (by first | rfl | simp only [noHs, noH, nI, bI, Bool.and_self, Bool.and_true, Bool.true_and, bts_noHs]), ?_⟩; (conv => whnf); (try (refine ⟨by kernel_rfl, ?_⟩; conv => whnf))
      refine ⟨_, ret_of_fn G0ok (p2) (by first | rfl | simp only [noHs, noH, nI, bI, Bool.and_self, Bool.and_true, Bool.true_and, ]) (by first | rfl | simp only [noHs, noH, nI, bI, Bool.and_self, Bool.and_true, Bool.true_and, ]), ?_⟩; (conv => whnf); (try (refine ⟨by kernel_rfl, ?_⟩; conv => whnf))
      refine bindP_intro (vpure_build (R := ldC true true ⟨1, rawN y, rawN x, wordN y, (x.b % 65536).toNat, wordN x, (y.b % 65536).toNat, 0, [], [], 0, []⟩) rfl rfl rfl rfl ?_) ?_
      · refine fill_zz (Z := _) (R := ldC true true ⟨1, rawN y, rawN x, wordN y, (x.b % 65536).toNat, wordN x, (y.b % 65536).toNat, 0, [], [], 0, []⟩) (fun Z hl hz => ?_) rfl rfl
        have ul : ∀ n, (uC n).length = 4 := fun n => rfl
        refine fill_next (A := []) (z := Z) (cs := [nI .i64 1]) (g := 0) rfl rfl rfl rfl (by simp [hl]) ?_
        refine fill_next (cs := uC (rawN y)) (g := 0) rfl rfl rfl (by simp) (by simp [hl]) ?_
        refine fill_next (cs := uC (rawN x)) (g := 0) rfl rfl rfl (by simp [ul]) (by simp [hl]) ?_
        refine fill_next (g := 0) rfl rfl t2 (by simp [ul]) (by simp [hl]) ?_
        refine fill_next (g := 0) rfl rfl rfl (by simp [ul, t2]) (by simp [hl]) ?_
        refine fill_next (g := 0) rfl rfl t1 (by simp [ul, t2]) (by simp [hl]) ?_
        refine fill_next (g := 0) rfl rfl rfl (by simp [ul, t1, t2]) (by simp [hl]) ?_
        refine congrArg some ?_
        refine Eq.trans (b := [nI .i64 1] ++ (uC (rawN y) ++ (uC (rawN x) ++ (bts (wordN y) ++ ([nI .i64 ((x.b % 65536).toNat : Nat)] ++ (bts (wordN x) ++ ([nI .i64 ((y.b % 65536).toNat : Nat)] ++ Z.drop 75))))))) (by simp [List.append_assoc, List.drop_drop, nI] <;> rfl) ?_
        rw [hz]
        unfold ldC ldT
        rfl
      · have lC := (ldC_ok (fd := true) (fk := true) (l := ⟨1, rawN y, rawN x, wordN y, (x.b % 65536).toNat, wordN x, (y.b % 65536).toNat, 0, [], [], 0, []⟩) (wordN_length y) (wordN_length x)).len
        have nC := ldC_noHs true true ⟨1, rawN y, rawN x, wordN y, (x.b % 65536).toNat, wordN x, (y.b % 65536).toNat, 0, [], [], 0, []⟩
        refine gen_ex (ldC true true ⟨1, rawN y, rawN x, wordN y, (x.b % 65536).toNat, wordN x, (y.b % 65536).toNat, 0, [], [], 0, []⟩) fun C eC => ?_
        rw [← eC] at lC nC nn ⊢
        conv => whnf
        try (refine ⟨by kernel_rfl, ?_⟩; conv => whnf)
        refine onlyIf_intro (by rw [lC]; rfl) ?_
        rw [splice_all (by rw [lC]; rfl)]
        conv => whnf
        try (refine ⟨by kernel_rfl, ?_⟩; conv => whnf)
        refine ⟨_, ret_of_fn G0ok (pk) (by first | rfl | simp only [noHs, noH, nI, bI, Bool.and_self, Bool.and_true, Bool.true_and, rawsC_noHs]) (by first | rfl | simp only [noHs, noH, nI, bI, Bool.and_self, Bool.and_true, Bool.true_and, rawsC_noHs]), ?_⟩; (conv => whnf); (try (refine ⟨by kernel_rfl, ?_⟩; conv => whnf))
        refine ⟨_, ret_of_fn G0ok (ct) (by first | rfl | simp only [noHs, noH, nI, bI, Bool.and_self, Bool.and_true, Bool.true_and, ]) (by first | rfl | simp only [noHs, noH, nI, bI, Bool.and_self, Bool.and_true, Bool.true_and, ]), ?_⟩; (conv => whnf); (try (refine ⟨by kernel_rfl, ?_⟩; conv => whnf))
        rw [cc1, cc2]
        refine onlyIf_intro (by simp [maxLen]; omega) ?_
        refine .read (cutN x 100).length (bts (cutN x 100)) rfl rfl (by rw [bts_length]; exact (Nat.mul_one _).symm) (bts_noHs _) ?_
        conv => whnf
        try (refine ⟨by kernel_rfl, ?_⟩; conv => whnf)
        refine onlyIf_intro (by rw [lC]; rfl) ?_
        conv => whnf
        try (refine ⟨by kernel_rfl, ?_⟩; conv => whnf)
        have lD : ((C.set 0 (nI .i64 3)).set 77 (.ds false (cutN x 100).length (bts (cutN x 100)))).length = 80 := by rw [List.length_set, List.length_set, lC]
        refine onlyIf_intro (by simp only [List.length_set, lC]; rfl) ?_
        conv => whnf
        try (refine ⟨by kernel_rfl, ?_⟩; conv => whnf)
        refine bindP_intro (load_agg rfl rfl lD) ?_
        conv => whnf
        try (refine ⟨by kernel_rfl, ?_⟩; conv => whnf)
        refine onlyIf_intro (by simp only [List.length_set, lC]; rfl) ?_
        rw [splice_all (by exact lD)]
        conv => whnf
        try (refine ⟨by kernel_rfl, ?_⟩; conv => whnf)
        exact ⟨_, vres_one rfl (vres_cell rfl rfl (load_agg rfl rfl lD)), deepV_noH _ (.agg _) nn⟩
  · have cd : decide (cmpN (rawN x) (rawN y) < 0) = false := decide_eq_false (fun h => hs (cmpN_neg.1 h))
    rcases hk with hk | hk
    · rw [hk] at pk
      have eq : ldC (decide (¬ kind % 4 = 3)) true (ldT0 (decide (kind % 4 = 3)) x y) = ldC true true ⟨1, rawN x, rawN y, wordN y, (x.b % 65536).toNat, wordN x, (y.b % 65536).toNat, 0, [], [], 0, []⟩ := by
        unfold ldT0
        rw [if_neg hs, if_neg hs, decide_eq_true (show ¬ kind % 4 = 3 by omega), decide_eq_false (show ¬ kind % 4 = 3 by omega), if_neg (by decide), if_neg (by decide)]
      rw [eq]
      refine fn_of_vwp Γok Try.func11 (by kernel_rfl) rfl (by simp [Try.ntmps11]) (wpv_ok Γok (by kernel_rfl) _ _ _ ?_); conv => whnf
      refine ⟨_, ret_of_fn G0ok (pk) (by first | rfl | simp only [noHs, noH, nI, bI, Bool.and_self, Bool.and_true, Bool.true_and, rawsC_noHs]) (by first | rfl | simp only [noHs, noH, nI, bI, Bool.and_self, Bool.and_true, Bool.true_and, rawsC_noHs]), ?_⟩; (conv => whnf); (try (refine ⟨by kernel_rfl, ?_⟩; conv => whnf))
      refine ⟨_, ret_of_fn G0ok (n1) (by first | rfl | simp only [noHs, noH, nI, bI, Bool.and_self, Bool.and_true, Bool.true_and, ]) (by first | rfl | simp only [noHs, noH, nI, bI, Bool.and_self, Bool.and_true, Bool.true_and, ]), ?_⟩; (conv => whnf); (try (refine ⟨by kernel_rfl, ?_⟩; conv => whnf))
      refine ⟨_, ret_of_fn G0ok (n2) (by first | rfl | simp only [noHs, noH, nI, bI, Bool.and_self, Bool.and_true, Bool.true_and, ]) (by first | rfl | simp only [noHs, noH, nI, bI, Bool.and_self, Bool.and_true, Bool.true_and, ]), ?_⟩; (conv => whnf); (try (refine ⟨by kernel_rfl, ?_⟩; conv => whnf))
      refine ⟨_, ret_of_fn G0ok (cp) (by first | rfl | simp only [noHs, noH, nI, bI, Bool.and_self, Bool.and_true, Bool.true_and, ]) (by first | rfl | simp only [noHs, noH, nI, bI, Bool.and_self, Bool.and_true, Bool.true_and, ]), ?_⟩; (conv => whnf); (try (refine ⟨by kernel_rfl, ?_⟩; conv => whnf))
      rw [cd]
      conv => whnf
      try (refine ⟨by kernel_rfl, ?_⟩; conv => whnf)
      refine ⟨_, ret_of_fn G0ok (w2) (by first | rfl | simp only [noHs, noH, nI, bI, Bool.and_self, Bool.and_true, Bool.true_and, bts_noHs]) (by first | rfl | simp only [noHs, noH, nI, bI, Bool.and_self, Bool.and_true, Bool.true_and, bts_noHs]), ?_⟩; (conv => whnf); (try (refine ⟨by kernel_rfl, ?_⟩; conv => whnf))
      refine ⟨_, ret_of_fn G0ok (p1) (by first | rfl | simp only [noHs, noH, nI, bI, Bool.and_self, Bool.and_true, Bool.true_and, ]) (by first | rfl | simp only [noHs, noH, nI, bI, Bool.and_self, Bool.and_true, Bool.true_and, ]), ?_⟩; (conv => whnf); (try (refine ⟨by kernel_rfl, ?_⟩; conv => whnf))
      refine ⟨_, ret_of_fn G0ok (w1) (by first | rfl | simp only [noHs, noH, nI, bI, Bool.and_self, Bool.and_true, Bool.true_and, bts_noHs]) (by first | rfl | simp only [noHs, noH, nI, bI, Bool.and_self, Bool.and_true, Bool.true_and, bts_noHs]), ?_⟩; (conv => whnf); (try (refine ⟨by kernel_rfl, ?_⟩; conv => whnf))
      refine ⟨_, ret_of_fn G0ok (p2) (by first | rfl | simp only [noHs, noH, nI, bI, Bool.and_self, Bool.and_true, Bool.true_and, ]) (by first | rfl | simp only [noHs, noH, nI, bI, Bool.and_self, Bool.and_true, Bool.true_and, ]), ?_⟩; (conv => whnf); (try (refine ⟨by kernel_rfl, ?_⟩; conv => whnf))
      refine bindP_intro (vpure_build (R := ldC true true ⟨1, rawN x, rawN y, wordN y, (x.b % 65536).toNat, wordN x, (y.b % 65536).toNat, 0, [], [], 0, []⟩) rfl rfl rfl rfl ?_) ?_
      · refine fill_zz (Z := _) (R := ldC true true ⟨1, rawN x, rawN y, wordN y, (x.b % 65536).toNat, wordN x, (y.b % 65536).toNat, 0, [], [], 0, []⟩) (fun Z hl hz => ?_) rfl rfl
        have ul : ∀ n, (uC n).length = 4 := fun n => rfl
        refine fill_next (A := []) (z := Z) (cs := [nI .i64 1]) (g := 0) rfl rfl rfl rfl (by simp [hl]) ?_
        refine fill_next (cs := uC (rawN x)) (g := 0) rfl rfl rfl (by simp) (by simp [hl]) ?_
        refine fill_next (cs := uC (rawN y)) (g := 0) rfl rfl rfl (by simp [ul]) (by simp [hl]) ?_
        refine fill_next (g := 0) rfl rfl t2 (by simp [ul]) (by simp [hl]) ?_
        refine fill_next (g := 0) rfl rfl rfl (by simp [ul, t2]) (by simp [hl]) ?_
        refine fill_next (g := 0) rfl rfl t1 (by simp [ul, t2]) (by simp [hl]) ?_
        refine fill_next (g := 0) rfl rfl rfl (by simp [ul, t1, t2]) (by simp [hl]) ?_
        refine congrArg some ?_
        refine Eq.trans (b := [nI .i64 1] ++ (uC (rawN x) ++ (uC (rawN y) ++ (bts (wordN y) ++ ([nI .i64 ((x.b % 65536).toNat : Nat)] ++ (bts (wordN x) ++ ([nI .i64 ((y.b % 65536).toNat : Nat)] ++ Z.drop 75))))))) (by simp [List.append_assoc, List.drop_drop, nI] <;> rfl) ?_
        rw [hz]
        unfold ldC ldT
        rfl
      · have lC := (ldC_ok (fd := true) (fk := true) (l := ⟨1, rawN x, rawN y, wordN y, (x.b % 65536).toNat, wordN x, (y.b % 65536).toNat, 0, [], [], 0, []⟩) (wordN_length y) (wordN_length x)).len
        have nC := ldC_noHs true true ⟨1, rawN x, rawN y, wordN y, (x.b % 65536).toNat, wordN x, (y.b % 65536).toNat, 0, [], [], 0, []⟩
        refine gen_ex (ldC true true ⟨1, rawN x, rawN y, wordN y, (x.b % 65536).toNat, wordN x, (y.b % 65536).toNat, 0, [], [], 0, []⟩) fun C eC => ?_
        rw [← eC] at lC nC ⊢
        conv => whnf
        try (refine ⟨by kernel_rfl, ?_⟩; conv => whnf)
        refine onlyIf_intro (by rw [lC]; rfl) ?_
        rw [splice_all (by rw [lC]; rfl)]
        conv => whnf
        try (refine ⟨by kernel_rfl, ?_⟩; conv => whnf)
        refine ⟨_, ret_of_fn G0ok (pk) (by first | rfl | simp only [noHs, noH, nI, bI, Bool.and_self, Bool.and_true, Bool.true_and, rawsC_noHs]) (by first | rfl | simp only [noHs, noH, nI, bI, Bool.and_self, Bool.and_true, Bool.true_and, rawsC_noHs]), ?_⟩; (conv => whnf); (try (refine ⟨by kernel_rfl, ?_⟩; conv => whnf))
        refine bindP_intro (load_agg rfl rfl lC) ?_
        conv => whnf
        try (refine ⟨by kernel_rfl, ?_⟩; conv => whnf)
        refine onlyIf_intro (by rw [lC]; rfl) ?_
        rw [splice_all (by rw [lC]; rfl)]
        conv => whnf
        try (refine ⟨by kernel_rfl, ?_⟩; conv => whnf)
        exact ⟨_, vres_one rfl (vres_cell rfl rfl (load_agg rfl rfl lC)), deepV_noH _ (.agg _) nC⟩
    · rw [hk] at pk
      have eq : ldC (decide (¬ kind % 4 = 3)) true (ldT0 (decide (kind % 4 = 3)) x y) = ((ldC true true ⟨1, rawN x, rawN y, wordN y, (x.b % 65536).toNat, wordN x, (y.b % 65536).toNat, 0, [], [], 0, []⟩).set 0 (nI .i64 3)).set 77 (.ds false (cutN x 100).length (bts (cutN x 100))) := by
        unfold ldT0
        rw [if_neg hs, if_neg hs, decide_eq_true hk, if_pos rfl, if_pos rfl, decide_eq_false (show ¬ ¬ kind % 4 = 3 by omega)]
        exact (ldC_data (l := ⟨3, rawN x, rawN y, wordN y, (x.b % 65536).toNat, wordN x, (y.b % 65536).toNat, 0, [], [], 0, []⟩) (fd := true) (fk := true) (g := false) (wordN_length y) (wordN_length x)).symm
      have nn : noHs (((ldC true true ⟨1, rawN x, rawN y, wordN y, (x.b % 65536).toNat, wordN x, (y.b % 65536).toNat, 0, [], [], 0, []⟩).set 0 (nI .i64 3)).set 77 (.ds false (cutN x 100).length (bts (cutN x 100)))) = true := by rw [← eq]; exact cn
      rw [eq]
      refine fn_of_vwp Γok Try.func11 (by kernel_rfl) rfl (by simp [Try.ntmps11]) (wpv_ok Γok (by kernel_rfl) _ _ _ ?_); conv => whnf
      refine ⟨_, ret_of_fn G0ok (pk) (by first | rfl | simp only [noHs, noH, nI, bI, Bool.and_self, Bool.and_true, Bool.true_and, rawsC_noHs]) (by first | rfl | simp only [noHs, noH, nI, bI, Bool.and_self, Bool.and_true, Bool.true_and, rawsC_noHs]), ?_⟩; (conv => whnf); (try (refine ⟨by kernel_rfl, ?_⟩; conv => whnf))
      refine ⟨_, ret_of_fn G0ok (n1) (by first | rfl | simp only [noHs, noH, nI, bI, Bool.and_self, Bool.and_true, Bool.true_and, ]) (by first | rfl | simp only [noHs, noH, nI, bI, Bool.and_self, Bool.and_true, Bool.true_and, ]), ?_⟩; (conv => whnf); (try (refine ⟨by kernel_rfl, ?_⟩; conv => whnf))
      refine ⟨_, ret_of_fn G0ok (n2) (by first | rfl | simp only [noHs, noH, nI, bI, Bool.and_self, Bool.and_true, Bool.true_and, ]) (by first | rfl | simp only [noHs, noH, nI, bI, Bool.and_self, Bool.and_true, Bool.true_and, ]), ?_⟩; (conv => whnf); (try (refine ⟨by kernel_rfl, ?_⟩; conv => whnf))
      refine ⟨_, ret_of_fn G0ok (cp) (by first | rfl | simp only [noHs, noH, nI, bI, Bool.and_self, Bool.and_true, Bool.true_and, ]) (by first | rfl | simp only [noHs, noH, nI, bI, Bool.and_self, Bool.and_true, Bool.true_and, ]), ?_⟩; (conv => whnf); (try (refine ⟨by kernel_rfl, ?_⟩; conv => whnf))
      rw [cd]
      conv => whnf
      try (refine ⟨by kernel_rfl, ?_⟩; conv => whnf)
      refine ⟨_, ret_of_fn G0ok (w2) (by first | rfl | simp only [noHs, noH, nI, bI, Bool.and_self, Bool.and_true, Bool.true_and, bts_noHs]) (by first | rfl | simp only [noHs, noH, nI, bI, Bool.and_self, Bool.and_true, Bool.true_and, bts_noHs]), ?_⟩; (conv => whnf); (try (refine ⟨by kernel_rfl, ?_⟩; conv => whnf))
      refine ⟨_, ret_of_fn G0ok (p1) (by first | rfl | simp only [noHs, noH, nI, bI, Bool.and_self, Bool.and_true, Bool.true_and, ]) (by first | rfl | simp only [noHs, noH, nI, bI, Bool.and_self, Bool.and_true, Bool.true_and, ]), ?_⟩; (conv => whnf); (try (refine ⟨by kernel_rfl, ?_⟩; conv => whnf))
      refine ⟨_, ret_of_fn G0ok (w1) (by first | rfl | simp only [noHs, noH, nI, bI, Bool.and_self, Bool.and_true, Bool.true_and, bts_noHs]) (by first | rfl | simp only [noHs, noH, nI, bI, Bool.and_self, Bool.and_true, Bool.true_and, bts_noHs]), ?_⟩; (conv => whnf); (try (refine ⟨by kernel_rfl, ?_⟩; conv => whnf))
      refine ⟨_, ret_of_fn G0ok (p2) (by first | rfl | simp only [noHs, noH, nI, bI, Bool.and_self, Bool.and_true, Bool.true_and, ]) (by first | rfl | simp only [noHs, noH, nI, bI, Bool.and_self, Bool.and_true, Bool.true_and, ]), ?_⟩; (conv => whnf); (try (refine ⟨by kernel_rfl, ?_⟩; conv => whnf))
      refine bindP_intro (vpure_build (R := ldC true true ⟨1, rawN x, rawN y, wordN y, (x.b % 65536).toNat, wordN x, (y.b % 65536).toNat, 0, [], [], 0, []⟩) rfl rfl rfl rfl ?_) ?_
      · refine fill_zz (Z := _) (R := ldC true true ⟨1, rawN x, rawN y, wordN y, (x.b % 65536).toNat, wordN x, (y.b % 65536).toNat, 0, [], [], 0, []⟩) (fun Z hl hz => ?_) rfl rfl
        have ul : ∀ n, (uC n).length = 4 := fun n => rfl
        refine fill_next (A := []) (z := Z) (cs := [nI .i64 1]) (g := 0) rfl rfl rfl rfl (by simp [hl]) ?_
        refine fill_next (cs := uC (rawN x)) (g := 0) rfl rfl rfl (by simp) (by simp [hl]) ?_
        refine fill_next (cs := uC (rawN y)) (g := 0) rfl rfl rfl (by simp [ul]) (by simp [hl]) ?_
        refine fill_next (g := 0) rfl rfl t2 (by simp [ul]) (by simp [hl]) ?_
        refine fill_next (g := 0) rfl rfl rfl (by simp [ul, t2]) (by simp [hl]) ?_
        refine fill_next (g := 0) rfl rfl t1 (by simp [ul, t2]) (by simp [hl]) ?_
        refine fill_next (g := 0) rfl rfl rfl (by simp [ul, t1, t2]) (by simp [hl]) ?_
        refine congrArg some ?_
        refine Eq.trans (b := [nI .i64 1] ++ (uC (rawN x) ++ (uC (rawN y) ++ (bts (wordN y) ++ ([nI .i64 ((x.b % 65536).toNat : Nat)] ++ (bts (wordN x) ++ ([nI .i64 ((y.b % 65536).toNat : Nat)] ++ Z.drop 75))))))) (by simp [List.append_assoc, List.drop_drop, nI] <;> rfl) ?_
        rw [hz]
        unfold ldC ldT
        rfl
      · have lC := (ldC_ok (fd := true) (fk := true) (l := ⟨1, rawN x, rawN y, wordN y, (x.b % 65536).toNat, wordN x, (y.b % 65536).toNat, 0, [], [], 0, []⟩) (wordN_length y) (wordN_length x)).len
        have nC := ldC_noHs true true ⟨1, rawN x, rawN y, wordN y, (x.b % 65536).toNat, wordN x, (y.b % 65536).toNat, 0, [], [], 0, []⟩
        refine gen_ex (ldC true true ⟨1, rawN x, rawN y, wordN y, (x.b % 65536).toNat, wordN x, (y.b % 65536).toNat, 0, [], [], 0, []⟩) fun C eC => ?_
        rw [← eC] at lC nC nn ⊢
        conv => whnf
        try (refine ⟨by kernel_rfl, ?_⟩; conv => whnf)
        refine onlyIf_intro (by rw [lC]; rfl) ?_
        rw [splice_all (by rw [lC]; rfl)]
        conv => whnf
        try (refine ⟨by kernel_rfl, ?_⟩; conv => whnf)
        refine ⟨_, ret_of_fn G0ok (pk) (by first | rfl | simp only [noHs, noH, nI, bI, Bool.and_self, Bool.and_true, Bool.true_and, rawsC_noHs]) (by first | rfl | simp only [noHs, noH, nI, bI, Bool.and_self, Bool.and_true, Bool.true_and, rawsC_noHs]), ?_⟩; (conv => whnf); (try (refine ⟨by kernel_rfl, ?_⟩; conv => whnf))
        refine ⟨_, ret_of_fn G0ok (ct) (by first | rfl | simp only [noHs, noH, nI, bI, Bool.and_self, Bool.and_true, Bool.true_and, ]) (by first | rfl | simp only [noHs, noH, nI, bI, Bool.and_self, Bool.and_true, Bool.true_and, ]), ?_⟩; (conv => whnf); (try (refine ⟨by kernel_rfl, ?_⟩; conv => whnf))
        rw [cc1, cc2]
        refine onlyIf_intro (by simp [maxLen]; omega) ?_
        refine .read (cutN x 100).length (bts (cutN x 100)) rfl rfl (by rw [bts_length]; exact (Nat.mul_one _).symm) (bts_noHs _) ?_
        conv => whnf
        try (refine ⟨by kernel_rfl, ?_⟩; conv => whnf)
        refine onlyIf_intro (by rw [lC]; rfl) ?_
        conv => whnf
        try (refine ⟨by kernel_rfl, ?_⟩; conv => whnf)
        have lD : ((C.set 0 (nI .i64 3)).set 77 (.ds false (cutN x 100).length (bts (cutN x 100)))).length = 80 := by rw [List.length_set, List.length_set, lC]
        refine onlyIf_intro (by simp only [List.length_set, lC]; rfl) ?_
        conv => whnf
        try (refine ⟨by kernel_rfl, ?_⟩; conv => whnf)
        refine bindP_intro (load_agg rfl rfl lD) ?_
        conv => whnf
        try (refine ⟨by kernel_rfl, ?_⟩; conv => whnf)
        refine onlyIf_intro (by simp only [List.length_set, lC]; rfl) ?_
        rw [splice_all (by exact lD)]
        conv => whnf
        try (refine ⟨by kernel_rfl, ?_⟩; conv => whnf)
        exact ⟨_, vres_one rfl (vres_cell rfl rfl (load_agg rfl rfl lD)), deepV_noH _ (.agg _) nn⟩
end Go.Proofs.Ytilmfdlonpjjiaa
namespace Go.Proofs.Ytilmfdlonpjjiaa
set_option linter.unusedVariables false
set_option linter.unusedSimpArgs false
set_option linter.unusedSectionVars false
open Go.ChangeShapes Go.WideShapes Go.ChangeAt Go.RowKit Go.Joins
set_option maxRecDepth 10000
set_option linter.constructorNameAsVariable false
section
variable {H : Type} {enc : TypeId × Value → H} {r : Reach} {W : World} {base b0 : Nat} {spare : Nat → Bool} {held : Bool} {v : Value} {d : DataW H} {p : List MemPlace}
theorem far4 (ao k i : Nat) (h : ¬ i < k * 4) : ao + k * 4 + (i - k * 4) = ao + i := by omega
theorem raws_open (hv : Value.okWide Try.prog W r b0 24 v) (h : DataW.Trod enc Try.prog W base spare held 24 v d p) : ∃ l : List RawD, l.length ≤ maxLen ∧ (∀ q ∈ l, q.ok) ∧ VR (E0 W (fun _ => True)) (.ds false l.length (rawsC l)) v := by
  have hc4 : Try.prog.cellsOf 23 = 4 := by kernel_rfl
  obtain ⟨fuel, hf⟩ := h
  obtain ⟨a0, len, cap, rfl⟩ := Go.WideShapes.okWide_slice Try.underlying24 hv
  rcases Go.Deep.open_slice Try.underlying24 hf with ⟨hcs, _⟩ | ⟨a, len1, cap1, m, n, D, Pl, hcs, hb, hl, hm, hmm, _, hx⟩
  · simp only [Value.cells, List.cons.injEq, and_true] at hcs
    cases hcs
    exact ⟨[], by simp, by simp, by simp only [VR]; exact .inl ⟨rfl, rfl, none, rfl⟩⟩
  · simp only [Value.cells, List.cons.injEq, and_true] at hcs
    cases hcs
    unfold Value.okWide at hv
    rw [Try.underlying24] at hv
    have hv : Cell.okWide Try.prog W r b0 24 (.slice (some a) len cap) := hv
    unfold Cell.okWide at hv
    rw [Try.underlying24] at hv
    have hv : Cell.ok Try.prog W r b0 24 (.slice (some a) len cap) := hv
    unfold Cell.ok at hv
    rw [Try.underlying24] at hv
    obtain ⟨_, _, _, hspot, row, cells, hsh, _⟩ := hv
    have hlt : a.block < W.heap.size := by
      unfold World.shape? at hsh
      split at hsh
      · rename_i hh; exact (Array.getElem?_eq_some_iff.1 hh).1
      · cases hsh
    have hml : len ≤ m := by rw [hmm]; split <;> omega
    have hx' : ∀ i, i < len → ∃ q : RawD, q.ok ∧ W.cells? base (a.add (i * 4)) 4 = some q.vals := fun i hi => by
      obtain ⟨cs', h1, h2⟩ := hx i (by omega)
      obtain ⟨q, q1, q2⟩ := raw_cells h2
      rw [hc4, q2] at h1
      exact ⟨q, q1, h1⟩
    have key : ∀ k, k ≤ len → ∃ l : List RawD, l.length = k ∧ (∀ q ∈ l, q.ok) ∧ ∀ (i : Nat) (u : Value), (l.flatMap RawD.vals)[i]? = some u → W.cell? ⟨a.block, a.off + i, none⟩ = some u := by
      intro k
      induction k with
      | zero => exact fun _ => ⟨[], rfl, by simp, by simp⟩
      | succ k ih =>
        intro hk
        obtain ⟨l, l1, l2, l3⟩ := ih (by omega)
        obtain ⟨q, q1, q2⟩ := hx' k (by omega)
        have hlen : (l.flatMap RawD.vals).length = k * 4 := by
          rw [List.length_flatMap]
          have : l.map (fun x => x.vals.length) = List.replicate k 4 := by
            rw [List.eq_replicate_iff]
            refine ⟨by simp [l1], fun b hb => ?_⟩
            obtain ⟨x, _, rfl⟩ := List.mem_map.1 hb
            rfl
          rw [this]; simp
        refine ⟨l ++ [q], by simp [l1], ?_, fun i u hu => ?_⟩
        · intro x hx
          rcases List.mem_append.1 hx with h | h
          · exact l2 x h
          · simp at h; subst h; exact q1
        · rw [List.flatMap_append, List.getElem?_append] at hu
          split at hu
          · exact l3 i u hu
          · rename_i hge
            rw [hlen] at hu hge
            have hu2 : q.vals[i - k * 4]? = some u := by simpa using hu
            obtain ⟨_, _, h3⟩ := World.cells?_some q2
            have hi4 : i - k * 4 < 4 := by
              have := (List.getElem?_eq_some_iff.1 hu2).1
              simpa [RawD.vals] using this
            have h4 := h3 (i - k * 4) hi4
            rw [hu2] at h4
            have ea : (a.add (k * 4)).add (i - k * 4) = ⟨a.block, a.off + i, none⟩ := by
              obtain ⟨ab, ao, asp⟩ := a
              simp only at hspot; subst hspot
              rw [Addr.add_lit, Addr.add_lit, far4 ao k i hge]
            rw [ea] at h4
            exact h4
    obtain ⟨l, l1, l2, l3⟩ := key len (Nat.le_refl _)
    refine ⟨l, by omega, l2, ?_⟩
    simp only [VR]
    refine .inr ⟨a.block, a.off, cap, trivial, hlt, ?_, by omega, (by simp), l.flatMap RawD.vals, l3, ?_, ?_⟩
    · obtain ⟨ab, ao, asp⟩ := a
      simp only at hspot; subst hspot
      rw [l1]
    · clear l3 l2 l1
      unfold rawsC
      induction l with
      | nil => simp [VRs]
      | cons q l ih => exact (q.cells_VRs _).append ih
    · intro u hu
      obtain ⟨q, _, h⟩ := List.mem_flatMap.1 hu
      exact q.vals_ones u h
end
end Go.Proofs.Ytilmfdlonpjjiaa
namespace Go.Proofs.Ytilmfdlonpjjiaa
set_option linter.unusedVariables false
set_option linter.unusedSimpArgs false
set_option linter.unusedSectionVars false
open Go.ChangeShapes Go.WideShapes Go.ChangeAt Go.RowKit Go.Joins
set_option maxRecDepth 10000
theorem eq_loopF {α : Type} {P : Program} {w : World} (f : α → Sem (ForInStep (Option Bool × Unit))) (q : α → Bool) : ∀ (l : List α), (∀ k ∈ l, (f k).run P w = .ok (if q k = true then .yield (none, ()) else .done (some false, ())) w) →
    (forIn l ((none, ()) : Option Bool × Unit) fun (i : α) (_ : Option Bool × Unit) => f i).run P w = .ok (if l.all q then (none, ()) else (some false, ())) w
  | [], _ => by simp
  | k :: l, h => by
    have h1 := h k (by simp)
    have h2 := eq_loopF f q l fun k hk => h k (by simp [hk])
    rw [List.forIn_cons]
    cases hq : q k with
    | true =>
      rw [hq] at h1
      simp only [if_true] at h1
      simp only [Sem.run_bind, h1, Result.andThen_ok, List.all_cons, hq, Bool.true_and]
      exact h2
    | false =>
      rw [hq] at h1
      simp only [Bool.false_eq_true, if_false] at h1
      simp only [Sem.run_bind, h1, Result.andThen_ok, Sem.run_pure, List.all_cons, hq, Bool.false_and, Bool.false_eq_true, if_false]
theorem equal_struct {P : Program} {t : TypeId} {fields : Array Field} (ht : P.underlying t = some (.struct fields)) (hs : P.stoodInHeld t = false) (us vs : Array Value) (q : Field → Bool) (d : Nat) (w : World)
    (hq : ∀ f ∈ fields.toList, f.name ≠ "_" ∧ (do let x ← part f.type us f.offset; let y ← part f.type vs f.offset; Op.equalIn d f.type x y : Sem Bool).run P w = .ok (q f) w) :
    (Op.equalIn (d + 1) t (.agg us) (.agg vs)).run P w = .ok (fields.toList.all q) w := by
  unfold Op.equalIn
  simp only [Sem.run_bind, run_underlying ht, Result.andThen_ok]
  have hp : (program : Sem Program).run P w = .ok P w := rfl
  simp only [hp, Result.andThen_ok, hs, Bool.false_eq_true, if_false]
  rw [← Array.forIn_toList]
  have h := eq_loopF (P := P) (w := w) (fun (f : Field) => if f.name ≠ "_" then (do
      let x ← part f.type us f.offset
      let y ← part f.type vs f.offset
      let b ← Op.equalIn d f.type x y
      if (!b) = true then pure (ForInStep.done (some false, ())) else pure (ForInStep.yield (none, ())) : Sem (ForInStep (Option Bool × Unit))) else pure (ForInStep.yield (none, ()))) q fields.toList (fun f hf => by
    obtain ⟨h1, h2⟩ := hq f hf
    rw [if_pos h1]
    simp only [← bind_assoc] at h2 ⊢
    simp only [Sem.run_bind] at h2 ⊢
    rw [h2]
    simp only [Result.andThen_ok]
    cases q f <;> rfl)
  rw [Sem.run_bind, h, Result.andThen_ok]
  cases fields.toList.all q <;> simp
section
variable {P : Program} {Γ : Tab} (hΓ : TabOk P Γ)
include hΓ
theorem part_agg {t : TypeId} {r : TR} (hr : Γ t = some r) (ha : r.d.agg = true) (us : List Value) (off : Nat) (w : World) : (part t us.toArray off).run P w = .ok (.agg ((us.drop off).take r.size).toArray) w := by
  have hA := run_isAgg_tab hΓ hr w
  have hS := run_sizeOf_tab hΓ hr w
  unfold part
  simp only [Sem.run_bind, hA, Result.andThen_ok, ha, if_true, hS, Sem.run_pure]
  simp [List.extract_eq_take_drop]
theorem part_one {t : TypeId} {r : TR} (hr : Γ t = some r) (ha : r.d.agg = false) {us : List Value} {off : Nat} {v : Value} (h : us[off]? = some v) (w : World) : (part t us.toArray off).run P w = .ok v w := by
  have hA := run_isAgg_tab hΓ hr w
  unfold part
  simp only [Sem.run_bind, hA, Result.andThen_ok, ha, Bool.false_eq_true, if_false]
  simp [h]
end
theorem eqAgg_of {P : Program} {t : TypeId} (hg : P.eqGuardType P.depth t = false) {us vs : List Value} {r : Bool} (h : ∀ w, (Op.equal t (.agg us.toArray) (.agg vs.toArray)).run P w = .ok r w) :
    EqAgg P .eql t (us.map .v) (vs.map .v) r ∧ EqAgg P .neq t (us.map .v) (vs.map .v) (!r) := by
  have hg1 : ∀ op ox oy w, (eqGuard op t ox oy (.agg us.toArray) (.agg vs.toArray)).run P w = .ok () w := fun op ox oy w => by
    unfold eqGuard
    cases op <;> simp [hg]
  refine ⟨⟨us, vs, rfl, rfl, fun ox oy w => ?_⟩, ⟨us, vs, rfl, rfl, fun ox oy w => ?_⟩⟩
  · simp only [Sem.run_bind, hg1, Result.andThen_ok]
    show (do let b ← Op.equal t _ _; pure (Value.bool b) : Sem Value).run P w = _
    simp only [Sem.run_bind, h w]
    simp
  · simp only [Sem.run_bind, hg1, Result.andThen_ok]
    show (do let b ← Op.equal t _ _; pure (Value.bool (!b)) : Sem Value).run P w = _
    simp only [Sem.run_bind, h w]
    simp
def wI (k : IntKind) (l : List Nat) : List Value := l.map fun (x : Nat) => Value.int k x
theorem equal_nats {P : Program} {Γ : Tab} (hΓ : TabOk P Γ) {t e : TypeId} {n : Nat} {k : IntKind} {r : TR} (ht : P.underlying t = some (.array n e)) (he : Γ e = some r) (hr : r.d = .int k) (hs : r.size = 1) (hd : P.underlying e = some (.int k)) (l m : List Nat) (hl : l.length = n) (hm : m.length = n) (d : Nat) (w : World) :
    (Op.equalIn (d + 2) t (.agg (wI k l).toArray) (.agg (wI k m).toArray)).run P w = .ok (decide (l = m)) w := by
  have h := equal_words hΓ ht he hr hs hd (l.map fun (x : Nat) => (x : Int)) (m.map fun (x : Nat) => (x : Int)) (by simpa using hl) (by simpa using hm) d w
  rw [show decide (l = m) = decide (l.map (fun (x : Nat) => (x : Int)) = m.map fun (x : Nat) => (x : Int)) from decide_eq_decide.2 (map_cast_eq l m).symm]
  simpa only [wI, List.map_map, Function.comp_def] using h
noncomputable def limW (n : Nat) : List Nat := [lim n 0, lim n 1, lim n 2, lim n 3]
theorem limW_inj {a b : Nat} (ha : a < T256) (hb : b < T256) : decide (limW a = limW b) = decide (a = b) := decide_eq_decide.2 ⟨fun h => uV_inj ha hb h, fun h => by rw [h]⟩
theorem words_v (l : List Nat) : words l = (wI .u64 l).map .v := by simp [words, wI, nI]
end Go.Proofs.Ytilmfdlonpjjiaa
