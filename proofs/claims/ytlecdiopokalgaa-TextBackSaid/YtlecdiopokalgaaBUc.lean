/- What is written of a paper is read; cut in its head it is too short (a plain law). -/
import Derived.Test.YtlecdiopokalgaaBUb
import Derived.Test.YtlecdiopokalgaaBUa
import Derived.Test.YtlecdiopokalgaaVLaw
import Derived.WalkArith
import Derived.IntWalk
namespace Go.Proofs.Ytlecdiopokalgaa
set_option linter.unusedVariables false
set_option linter.unusedSimpArgs false
set_option linter.unusedSectionVars false
open Go.ChangeShapes Go.WideShapes Go.ChangeAt Go.RowKit Go.Joins
set_option maxRecDepth 10000
theorem fromV_nB {n : Nat} (h : n < T256) : fromV (nB n) 32 = n := by
  unfold nB
  rw [hid_eq]
  exact from_bytes_all h
theorem rdSgn_app {x : SgnD} {r : List Nat} {o : Bool} (h1 : x.who ≤ 255) (h2 : x.R < T256) (h3 : x.S < T256) (h4 : x.odd ≤ 255) : rdSgn ⟨sgnB x ++ r, o⟩ = (x, ⟨r, o⟩) := by
  unfold rdSgn sgnB
  rw [List.append_assoc, List.append_assoc, List.append_assoc]
  rw [EyS.take_app (be_len x.who 1)]
  dsimp only
  rw [EyS.take_app (nB_len x.R)]
  dsimp only
  rw [EyS.take_app (nB_len x.S)]
  dsimp only
  rw [EyS.take_app (be_len x.odd 1)]
  dsimp only
  rw [beV_be (by omega), beV_be (by omega), fromV_nB h2, fromV_nB h3]
theorem rdSgns_app : ∀ (n : Nat) (L : List SgnD) (r : List Nat) (o : Bool), L.length = n → (∀ x ∈ L, x.who ≤ 255 ∧ x.R < T256 ∧ x.S < T256 ∧ x.odd ≤ 255) → rdSgns n ⟨sgnsB L ++ r, o⟩ = (L, ⟨r, o⟩)
  | 0, L, r, o, h, _ => by rw [List.eq_nil_of_length_eq_zero h]; rfl
  | n + 1, L, r, o, h, hw => by
    obtain ⟨M, x, rfl⟩ : ∃ M x, L = M ++ [x] := ⟨L.dropLast, L.getLast (by intro e; rw [e] at h; cases h), (List.dropLast_concat_getLast _).symm⟩
    rw [List.length_append, List.length_singleton] at h
    obtain ⟨w1, w2, w3, w4⟩ := hw x (List.mem_append.2 (.inr (List.mem_singleton.2 rfl)))
    have ih := rdSgns_app n M (sgnB x ++ r) o (by omega) fun y hy => hw y (List.mem_append.2 (.inl hy))
    have e : sgnsB (M ++ [x]) ++ r = sgnsB M ++ (sgnB x ++ r) := by
      unfold sgnsB
      rw [List.flatMap_append, List.flatMap_cons, List.flatMap_nil, List.append_nil, List.append_assoc]
    rw [e]
    show ((rdSgns n ⟨sgnsB M ++ (sgnB x ++ r), o⟩).1 ++ [(rdSgn (rdSgns n ⟨sgnsB M ++ (sgnB x ++ r), o⟩).2).1], (rdSgn (rdSgns n ⟨sgnsB M ++ (sgnB x ++ r), o⟩).2).2) = _
    rw [ih]
    dsimp only
    rw [rdSgn_app w1 w2 w3 w4]
theorem rdN_app {n k : Nat} {r : List Nat} {o : Bool} (hk : k ≤ 8) (hn : n < 2 ^ (8 * k)) (h63 : n < 9223372036854775808) : rdN ⟨be n k ++ r, o⟩ k = (n : Int) := by
  unfold rdN
  rw [EyS.take_app (be_len n k)]
  dsimp only
  rw [beV_be hn]
  exact ws_i64 (by omega) (by omega)
theorem rdB_app {b : BoI} {o : Bool} (he : b.em.length = 32) (hc : chkB b = 0) : rdB ⟨bodyB b.d, o⟩ = (b, ⟨b.load, o⟩) := by
  obtain ⟨c1, c2, c3, c4, c5, _⟩ := chkB_zero hc
  rw [inR_iff] at c1 c2 c3 c4 c5
  unfold rdB bodyB BoI.d
  dsimp only
  rw [List.append_assoc, List.append_assoc, List.append_assoc, List.append_assoc, List.append_assoc]
  rw [rdN_app (by decide) (by omega) (by omega), EyS.take_app (be_len _ 8)]
  dsimp only
  rw [rdN_app (by decide) (by omega) (by omega), EyS.take_app (be_len _ 4)]
  dsimp only
  rw [rdN_app (by decide) (by omega) (by omega), EyS.take_app (be_len _ 2)]
  dsimp only
  rw [EyS.take_app he]
  dsimp only
  rw [rdN_app (by decide) (by omega) (by omega), EyS.take_app (be_len _ 8)]
  dsimp only
  rw [rdN_app (by decide) (by omega) (by omega), EyS.take_app (be_len _ 1)]
  dsimp only
  rw [show ((b.time.toNat : Nat) : Int) = b.time from by omega, show ((b.nonce.toNat : Nat) : Int) = b.nonce from by omega, show ((b.chain.toNat : Nat) : Int) = b.chain from by omega, show ((b.num.toNat : Nat) : Int) = b.num from by omega, show ((b.level.toNat : Nat) : Int) = b.level from by omega]
theorem encB_eq (set : Nat) (L : List SgnD) (b : BoI) : encB set L b = be 1 1 ++ (be set 4 ++ (be L.length 1 ++ (sgnsB L ++ bodyB b.d))) := by
  unfold encB headB
  simp only [List.append_assoc]
section
variable {set : Nat} {L : List SgnD} {b : BoI} (hs : set ≤ 4294967295) (hL : L.length ≤ 19) (hw : ∀ x ∈ L, x.who ≤ 255 ∧ x.R < T256 ∧ x.S < T256 ∧ x.odd ≤ 255) (he : b.em.length = 32) (hc : chkB b = 0)
include hs hL hw he hc
theorem dec_enc : decC (encB set L b) = 0 ∧ beV (dec2 (encB set L b)).1 = set ∧ (dec4 (encB set L b)).1 = L ∧ (dec5 (encB set L b)).1 = b := by
  have e := encB_eq set L b
  have d1 : dec1 (encB set L b) = (be 1 1, ⟨be set 4 ++ (be L.length 1 ++ (sgnsB L ++ bodyB b.d)), true⟩) := by
    unfold dec1
    rw [e]
    exact EyS.take_app (be_len 1 1) true
  have d2 : dec2 (encB set L b) = (be set 4, ⟨be L.length 1 ++ (sgnsB L ++ bodyB b.d), true⟩) := by
    unfold dec2
    rw [d1]
    exact EyS.take_app (be_len set 4) true
  have d3 : dec3 (encB set L b) = (be L.length 1, ⟨sgnsB L ++ bodyB b.d, true⟩) := by
    unfold dec3
    rw [d2]
    exact EyS.take_app (be_len L.length 1) true
  have v3 : beV (be L.length 1) = L.length := beV_be (by omega)
  have d4 : dec4 (encB set L b) = (L, ⟨bodyB b.d, true⟩) := by
    unfold dec4
    rw [d3]
    dsimp only
    rw [v3]
    exact rdSgns_app _ L _ true rfl hw
  have d5 : dec5 (encB set L b) = (b, ⟨b.load, true⟩) := by
    unfold dec5
    rw [d4]
    exact rdB_app he hc
  refine ⟨?_, by rw [d2]; exact beV_be (by omega), by rw [d4], by rw [d5]⟩
  unfold decC
  rw [d1, d3, d5]
  dsimp only
  rw [if_neg (fun h => h.2 (beV_be (by decide))), v3, if_neg (fun h => by omega), if_neg (fun h => by cases h), hc]
end
theorem rdB_len {s : EyS} (h : (rdB s).2.ok = true) : s.ok = true ∧ 55 ≤ s.l.length := by
  unfold rdB at h
  dsimp only at h
  obtain ⟨h6, e6⟩ := EyS.take_true h
  obtain ⟨h5, e5⟩ := EyS.take_true h6
  obtain ⟨h4, e4⟩ := EyS.take_true h5
  obtain ⟨h3, e3⟩ := EyS.take_true h4
  obtain ⟨h2, e2⟩ := EyS.take_true h3
  obtain ⟨h1, e1⟩ := EyS.take_true h2
  refine ⟨h1, ?_⟩
  have f1 := congrArg List.length e1
  have f2 := congrArg List.length e2
  have f3 := congrArg List.length e3
  have f4 := congrArg List.length e4
  have f5 := congrArg List.length e5
  have f6 := congrArg List.length e6
  rw [List.length_append, EyS.take_len] at f1 f2 f3 f4 f5 f6
  omega
/-- Cut in its head it is too short. -/
theorem dec_cut {set k : Nat} {L : List SgnD} {b : BoI} (hL : L.length ≤ 19) (hb : ∀ x ∈ encB set L b, x < 256) (hk : k < 61 + 66 * L.length) : decC ((encB set L b).take k) = 4 := by
  have e := encB_eq set L b
  obtain ⟨l, el⟩ : ∃ l, l = (encB set L b).take k := ⟨_, rfl⟩
  have hl : ∀ x ∈ l, x < 256 := fun x hx => hb x (List.mem_of_mem_take (by rw [← el]; exact hx))
  have hlen : l.length ≤ k := by rw [el, List.length_take]; omega
  have pre : l ++ (encB set L b).drop k = be 1 1 ++ (be set 4 ++ (be L.length 1 ++ (sgnsB L ++ bodyB b.d))) := by rw [el, List.take_append_drop, e]
  rw [← el]
  have b1 : (∀ x ∈ (dec1 l).1, x < 256) ∧ ∀ x ∈ (dec1 l).2.l, x < 256 := EyS.take_lt (s := ⟨l, true⟩) hl 1
  have b2 : (∀ x ∈ (dec2 l).1, x < 256) ∧ ∀ x ∈ (dec2 l).2.l, x < 256 := EyS.take_lt b1.2 4
  have b3 : (∀ x ∈ (dec3 l).1, x < 256) ∧ ∀ x ∈ (dec3 l).2.l, x < 256 := EyS.take_lt b2.2 1
  have t1 : (dec1 l).1.length = 1 := EyS.take_len _ 1
  have t2 : (dec2 l).1.length = 4 := EyS.take_len _ 4
  have t3 : (dec3 l).1.length = 1 := EyS.take_len _ 1
  have p1 : (dec1 l).2.ok = true → l = (dec1 l).1 ++ (dec1 l).2.l := fun h => (EyS.take_true (s := ⟨l, true⟩) (n := 1) h).2
  have p2 : (dec2 l).2.ok = true → (dec1 l).2.ok = true ∧ (dec1 l).2.l = (dec2 l).1 ++ (dec2 l).2.l := fun h => EyS.take_true (s := (dec1 l).2) (n := 4) h
  have p3 : (dec3 l).2.ok = true → (dec2 l).2.ok = true ∧ (dec2 l).2.l = (dec3 l).1 ++ (dec3 l).2.l := fun h => EyS.take_true (s := (dec2 l).2) (n := 1) h
  have v1 : (dec1 l).2.ok = true → beV (dec1 l).1 = 1 := fun h => by
    have q := p1 h
    rw [q, List.append_assoc] at pre
    rw [(List.append_inj pre (by rw [t1, be_len])).1]
    exact beV_be (by decide)
  have v3 : (dec3 l).2.ok = true → beV (dec3 l).1 = L.length := fun h => by
    obtain ⟨o2, q3⟩ := p3 h
    obtain ⟨o1, q2⟩ := p2 o2
    have q1 := p1 o1
    rw [q1, q2, q3, List.append_assoc, List.append_assoc, List.append_assoc] at pre
    have r1 := (List.append_inj pre (by rw [t1, be_len])).2
    have r2 := (List.append_inj r1 (by rw [t2, be_len])).2
    rw [(List.append_inj r2 (by rw [t3, be_len])).1]
    exact beV_be (by omega)
  refine decC_bad v1 (fun h => by rw [v3 h]; exact hL) ?_
  cases h5 : (dec5 l).2.ok
  · rfl
  · have g5 : (dec4 l).2.ok = true ∧ 55 ≤ (dec4 l).2.l.length := rdB_len h5
    have g4 : (dec3 l).2.ok = true ∧ (dec3 l).2.l = sgnsB (dec4 l).1 ++ (dec4 l).2.l := rdSgns_true (s := (dec3 l).2) b3.2 (beV (dec3 l).1) g5.1
    have len : (dec4 l).1.length = beV (dec3 l).1 := rdSgns_len _ _
    obtain ⟨o2, q3⟩ := p3 g4.1
    obtain ⟨o1, q2⟩ := p2 o2
    have q1 := p1 o1
    have f1 := congrArg List.length q1
    have f2 := congrArg List.length q2
    have f3 := congrArg List.length q3
    have f4 := congrArg List.length g4.2
    rw [List.length_append] at f1 f2 f3 f4
    rw [sgnsB_len, len, v3 g4.1] at f4
    have := g5.2
    omega
end Go.Proofs.Ytlecdiopokalgaa
namespace Go.Proofs.Ytlecdiopokalgaa
set_option linter.unusedVariables false
set_option linter.unusedSimpArgs false
set_option linter.unusedSectionVars false
open Go.ChangeShapes Go.WideShapes Go.ChangeAt Go.RowKit Go.Joins
set_option maxRecDepth 10000
theorem copy_cells {cs : List VV} {off m : Nat} {l : List UInt8} {z L : List Nat} (h1 : cs = bts z) (h2 : off = 0) (h3 : L = (l.map UInt8.toNat).take m ++ z.drop ((l.map UInt8.toNat).take m).length) :
    splice cs off (List.take m (List.map byV l)) = bts L := by
  subst h1 h2 h3
  have e : List.map byV l = bts (l.map UInt8.toNat) := by simp [bts, byV, nI, Function.comp_def]
  rw [e]
  unfold splice bts
  simp [List.map_take, List.map_drop]
theorem u8_ex (x : Int) : ∃ a : Nat, wS .u8 x = (a : Int) ∧ a < 256 := by
  rw [ws_u8]
  exact ⟨(x % 256).toNat, by omega, by omega⟩
theorem word_ex (k a b : Int) (s : ByteArray) : ∃ c : List Nat, c.length = 32 ∧ (∀ x ∈ c, x < 256) ∧ FnV Try.prog G0 71 [.agg [nI .i64 k, nI .i64 a, nI .i64 b, .v (.string s)]] (.agg (bts c)) := by
  obtain ⟨x, hx, hx2⟩ := u8_ex a
  obtain ⟨y, hy, hy2⟩ := u8_ex b
  obtain ⟨L, hL⟩ : ∃ L, L = (s.data.toList.map UInt8.toNat).take (s.size.min 32) ++ (List.replicate 32 0).drop ((s.data.toList.map UInt8.toNat).take (s.size.min 32)).length := ⟨_, rfl⟩
  have hlen : ((s.data.toList.map UInt8.toNat).take (s.size.min 32)).length ≤ 32 := by
    rw [List.length_take]
    exact Nat.le_trans (Nat.min_le_left _ _) (Nat.min_le_right _ _)
  have hL1 : L.length = 32 := by
    rw [hL, List.length_append, List.length_drop, List.length_replicate]
    omega
  have hL2 : ∀ x ∈ L, x < 256 := by
    intro x hx
    rw [hL] at hx
    rcases List.mem_append.1 hx with h | h
    · obtain ⟨b, _, rfl⟩ := List.mem_map.1 (List.mem_of_mem_take h)
      exact b.toNat_lt
    · have := List.eq_of_mem_replicate (List.mem_of_mem_drop h)
      omega
  refine ⟨(L.set 30 x).set 31 y, by simp [hL1], ?_, ?_⟩
  · intro z hz
    rcases List.mem_or_eq_of_mem_set hz with h | h
    · rcases List.mem_or_eq_of_mem_set h with h | h
      · exact hL2 z h
      · omega
    · omega
  refine fn_of_vwp Γok Try.func71 (by kernel_rfl) rfl (by simp [Try.ntmps71]) (wpv_ok Γok (by kernel_rfl) _ _ _ ?_); conv => whnf
  refine ⟨by kernel_rfl, ?_⟩
  rw [copy_cells (z := List.replicate 32 0) (L := L) (by rfl) (by rfl) (by exact hL)]
  conv => whnf
  rw [hx, hy]
  refine onlyIf_intro (by simp [bts_length, hL1]) ?_
  conv => whnf
  rw [splice_bts (i := 30) (by rfl) (by omega)]
  conv => whnf
  refine onlyIf_intro (by simp [bts_length, hL1]) ?_
  conv => whnf
  rw [splice_bts (i := 31) (by rfl) (by simp [hL1])]
  conv => whnf
  refine ⟨by kernel_rfl, ?_⟩
  conv => whnf
  refine bindP_intro (load_agg rfl rfl (by simp [bts_length, hL1])) ?_
  conv => whnf
  refine onlyIf_intro (by simp [bts_length, hL1]) ?_
  conv => whnf
  refine ⟨_, vres_one rfl (vres_cell rfl rfl (load_agg rfl rfl (by simp [bts_length, hL1]))), ?_⟩
  exact deepV_noH _ _ (by simp [noH, bts_noHs])
noncomputable def wordN (q : RawD) : List Nat := Classical.choose (word_ex q.k q.a q.b q.s)
theorem wordN_length (q : RawD) : (wordN q).length = 32 := (Classical.choose_spec (word_ex q.k q.a q.b q.s)).1
theorem wordN_lt (q : RawD) : ∀ x ∈ wordN q, x < 256 := (Classical.choose_spec (word_ex q.k q.a q.b q.s)).2.1
theorem word_fn (q : RawD) : FnV Try.prog G0 71 [q.v] (.agg (bts (wordN q))) := (Classical.choose_spec (word_ex q.k q.a q.b q.s)).2.2
end Go.Proofs.Ytlecdiopokalgaa
namespace Go.Proofs.Ytlecdiopokalgaa
set_option linter.unusedVariables false
set_option linter.unusedSimpArgs false
set_option linter.unusedSectionVars false
open Go.ChangeShapes Go.WideShapes Go.ChangeAt Go.RowKit Go.Joins
set_option maxRecDepth 10000
theorem cut_fn (s : ByteArray) (m : Nat) (hs : s.size ≤ maxLen) (hm : m ≤ 1000) : FnV Try.prog G0 70 [.v (.string s), nI .i64 m] (.v (.string (s.extract 0 (min s.size m)))) := by
  refine fn_of_vwp Γok Try.func70 (by kernel_rfl) rfl (by simp [Try.ntmps70]) (wpv_ok Γok (by kernel_rfl) _ _ _ ?_); conv => whnf
  rw [min_int]
  refine bindP_intro (vpure_slice (vslice_str rfl (by rfl) vb_nat (by omega) (by omega))) ?_
  conv => whnf
  exact ends_at rfl rfl
end Go.Proofs.Ytlecdiopokalgaa
namespace Go.Proofs.Ytlecdiopokalgaa
set_option linter.unusedVariables false
set_option linter.unusedSimpArgs false
set_option linter.unusedSectionVars false
open Go.ChangeShapes Go.WideShapes Go.ChangeAt Go.RowKit Go.Joins
set_option maxRecDepth 10000
theorem picked_fn (n m : Int) (hm : 0 < m) (hm2 : m ≤ 9223372036854775807) : FnV Try.prog G0 17 [nI .i64 n, nI .i64 m] (nI .i64 (n % m)) := by
  refine fn_of_vwp Γok Try.func17 (by kernel_rfl) rfl (by simp [Try.ntmps17]) (wpv_ok Γok (by kernel_rfl) _ _ _ ?_); conv => whnf
  refine bindP_intro (if_neg (by omega)) ?_
  conv => whnf
  refine bool_cases (fun h => ?_) (fun h => ?_)
  · conv => whnf
    refine ⟨_, rfl, congrArg (fun x => some (nI .i64 x)) ?_⟩
    have h := of_decide_eq_true h
    have h1 := Int.emod_nonneg n (show m ≠ 0 by omega)
    have h2 := Int.emod_lt_of_pos n hm
    have : n.tmod m + m = n % m := by
      rw [Int.tmod_eq_emod] at *
      split at h <;> rename_i hc
      · omega
      · rw [if_neg hc]; omega
    rw [this, ws_i64 (by omega) (by omega)]
  · conv => whnf
    refine ⟨_, rfl, congrArg (fun x => some (nI .i64 x)) ?_⟩
    have h := of_decide_eq_false h
    have h1 := Int.emod_nonneg n (show m ≠ 0 by omega)
    rw [Int.tmod_eq_emod] at *
    split at h <;> rename_i hc
    · rw [if_pos hc]; omega
    · have := Int.emod_lt_of_pos n hm
      rw [if_neg hc]; omega
end Go.Proofs.Ytlecdiopokalgaa
namespace Go.Proofs.Ytlecdiopokalgaa
set_option linter.unusedVariables false
set_option linter.unusedSimpArgs false
set_option linter.unusedSectionVars false
open Go.ChangeShapes Go.WideShapes Go.ChangeAt Go.RowKit Go.Joins
set_option maxRecDepth 10000
noncomputable def cutN (q : RawD) (m : Nat) : List Nat := hid ((q.s.data.toList.take m).map UInt8.toNat)
theorem cutN_len (q : RawD) (m : Nat) : (cutN q m).length ≤ m := by
  unfold cutN
  rw [hid_eq, List.length_map, List.length_take]
  omega
theorem cutN_lt (q : RawD) (m : Nat) : ∀ x ∈ cutN q m, x < 256 := by
  unfold cutN
  rw [hid_eq]
  intro x hx
  obtain ⟨b, _, rfl⟩ := List.mem_map.1 hx
  exact b.toNat_lt
theorem cut_list (q : RawD) (m : Nat) : (q.s.extract 0 (min q.s.size m)).data.toList = q.s.data.toList.take m := by
  rw [ByteArray.data_extract, Array.toList_extract]
  simp only [List.extract, List.drop_zero, Nat.sub_zero]
  have : q.s.data.toList.length = q.s.size := rfl
  rcases Nat.le_total q.s.size m with h | h
  · rw [Nat.min_eq_left h, List.take_of_length_le (by omega), List.take_of_length_le (by omega)]
  · rw [Nat.min_eq_right h]
theorem cut_cells (q : RawD) (m : Nat) : List.map byV (q.s.extract 0 (min q.s.size m)).data.toList = bts (cutN q m) ∧ (q.s.extract 0 (min q.s.size m)).size = (cutN q m).length := by
  have e := cut_list q m
  unfold cutN
  rw [hid_eq, e]
  refine ⟨by unfold bts; rw [List.map_map]; rfl, ?_⟩
  rw [List.length_map, ← e]
  rfl
/-- The message of a raw thing. -/
noncomputable def bodyR (q : RawD) : BoD := ⟨(q.a % 1000).toNat, (q.b % 4294967296).toNat, (q.k % 65536).toNat, wordN q, (wS .i64 (q.a * q.b) % 1099511627776).toNat, (q.k % 256).toNat, false, cutN q 60⟩
theorem bodyR_ok (q : RawD) : (bodyR q).ok := by
  unfold bodyR
  refine ⟨?_, ?_, ?_, wordN_length q, ?_, ?_, ?_⟩ <;> dsimp only
  · omega
  · omega
  · omega
  · omega
  · omega
  · have := cutN_len q 60
    omega
theorem rbody_fn (q : RawD) (hq : q.ok) : FnV Try.prog G0 43 [q.v] (bodyR q).v := by
  have wl := wordN_length q
  have wd := word_fn q
  have p1 := picked_fn q.a 1000 (by decide) (by decide)
  have p2 := picked_fn q.b 4294967296 (by decide) (by decide)
  have p3 := picked_fn q.k 65536 (by decide) (by decide)
  have p4 := picked_fn (wS .i64 (q.a * q.b)) 1099511627776 (by decide) (by decide)
  have p5 := picked_fn q.k 256 (by decide) (by decide)
  have ct := cut_fn q.s 60 hq.2.2.2 (by decide)
  have lB : (bts (wordN q)).length = 32 := by rw [bts_length, wl]
  have ev : (bodyR q).v = .agg (nI .i64 (q.a % 1000) :: nI .i64 (q.b % 4294967296) :: nI .i64 (q.k % 65536) :: (bts (wordN q) ++ [nI .i64 (wS .i64 (q.a * q.b) % 1099511627776), nI .i64 (q.k % 256), .ds false (cutN q 60).length (bts (cutN q 60))])) := by
    unfold BoD.v BoD.cells bodyR
    dsimp only
    rw [show ((q.a % 1000).toNat : Int) = q.a % 1000 from by omega, show ((q.b % 4294967296).toNat : Int) = q.b % 4294967296 from by omega, show ((q.k % 65536).toNat : Int) = q.k % 65536 from by omega, show ((wS .i64 (q.a * q.b) % 1099511627776).toNat : Int) = wS .i64 (q.a * q.b) % 1099511627776 from by omega, show ((q.k % 256).toNat : Int) = q.k % 256 from by omega]
  obtain ⟨TL, eTL⟩ : ∃ TL, TL = (nI .i64 (q.a % 1000) :: nI .i64 (q.b % 4294967296) :: nI .i64 (q.k % 65536) :: (bts (wordN q) ++ [nI .i64 (wS .i64 (q.a * q.b) % 1099511627776), nI .i64 (q.k % 256), .ds false (cutN q 60).length (bts (cutN q 60))])) := ⟨_, rfl⟩
  rw [ev, ← eTL]
  unfold RawD.v RawD.cells at *
  refine fn_of_vwp Γok Try.func43 (by kernel_rfl) rfl (by simp [Try.ntmps43]) (wpv_ok Γok (by kernel_rfl) _ _ _ ?_); conv => whnf
  refine ⟨_, ret_of_fn G0ok (p1) (by first | rfl | simp only [noHs, noH, nI, bI, Bool.and_self, Bool.and_true, Bool.true_and, ]) (by first | rfl | simp only [noHs, noH, nI, bI, Bool.and_self, Bool.and_true, Bool.true_and, ]), ?_⟩; (conv => whnf); (try (refine ⟨by kernel_rfl, ?_⟩; conv => whnf))
  refine ⟨_, ret_of_fn G0ok (p2) (by first | rfl | simp only [noHs, noH, nI, bI, Bool.and_self, Bool.and_true, Bool.true_and, ]) (by first | rfl | simp only [noHs, noH, nI, bI, Bool.and_self, Bool.and_true, Bool.true_and, ]), ?_⟩; (conv => whnf); (try (refine ⟨by kernel_rfl, ?_⟩; conv => whnf))
  refine ⟨_, ret_of_fn G0ok (p3) (by first | rfl | simp only [noHs, noH, nI, bI, Bool.and_self, Bool.and_true, Bool.true_and, ]) (by first | rfl | simp only [noHs, noH, nI, bI, Bool.and_self, Bool.and_true, Bool.true_and, ]), ?_⟩; (conv => whnf); (try (refine ⟨by kernel_rfl, ?_⟩; conv => whnf))
  refine ⟨_, ret_of_fn G0ok (p4) (by first | rfl | simp only [noHs, noH, nI, bI, Bool.and_self, Bool.and_true, Bool.true_and, ]) (by first | rfl | simp only [noHs, noH, nI, bI, Bool.and_self, Bool.and_true, Bool.true_and, ]), ?_⟩; (conv => whnf); (try (refine ⟨by kernel_rfl, ?_⟩; conv => whnf))
  refine ⟨_, ret_of_fn G0ok (p5) (by first | rfl | simp only [noHs, noH, nI, bI, Bool.and_self, Bool.and_true, Bool.true_and, ]) (by first | rfl | simp only [noHs, noH, nI, bI, Bool.and_self, Bool.and_true, Bool.true_and, ]), ?_⟩; (conv => whnf); (try (refine ⟨by kernel_rfl, ?_⟩; conv => whnf))
  refine ⟨_, ret_of_fn G0ok (ct) (by first | rfl | simp only [noHs, noH, nI, bI, Bool.and_self, Bool.and_true, Bool.true_and, noH]) (by first | rfl | simp only [noHs, noH, nI, bI, Bool.and_self, Bool.and_true, Bool.true_and, noH]), ?_⟩; (conv => whnf); (try (refine ⟨by kernel_rfl, ?_⟩; conv => whnf))
  obtain ⟨cc1, cc2⟩ := cut_cells q 60
  have cl := cutN_len q 60
  rw [cc1, cc2]
  refine onlyIf_intro (by simp [maxLen]; omega) ?_
  refine .read (cutN q 60).length (bts (cutN q 60)) rfl rfl (by rw [bts_length]; exact (Nat.mul_one _).symm) (bts_noHs _) ?_
  conv => whnf
  try (refine ⟨by kernel_rfl, ?_⟩; conv => whnf)
  refine ⟨_, ret_of_fn G0ok (wd) (by first | rfl | simp only [noHs, noH, nI, bI, Bool.and_self, Bool.and_true, Bool.true_and, bts_noHs]) (by first | rfl | simp only [noHs, noH, nI, bI, Bool.and_self, Bool.and_true, Bool.true_and, bts_noHs]), ?_⟩; (conv => whnf); (try (refine ⟨by kernel_rfl, ?_⟩; conv => whnf))
  refine onlyIf_intro (by rw [lB]; rfl) ?_
  conv => whnf
  try (refine ⟨by kernel_rfl, ?_⟩; conv => whnf)
  have hl : TL.length = 38 := by
    rw [eTL]
    simp only [List.length_cons, List.length_append, lB]
    rfl
  have hn : noHs TL = true := by
    rw [eTL]
    simp only [noH, noHs, nI, noHs_append, bts_noHs, Bool.and_self]
  refine bindP_intro (load_agg' (ds := TL) ((splice_32' lB).trans (by rw [eTL]; rfl)) rfl rfl hl) ?_
  conv => whnf
  try (refine ⟨by kernel_rfl, ?_⟩; conv => whnf)
  refine onlyIf_intro (by rw [hl]; rfl) ?_
  rw [splice_all (new := TL) (by rw [hl]; rfl)]
  conv => whnf
  try (refine ⟨by kernel_rfl, ?_⟩; conv => whnf)
  exact ⟨_, vres_one rfl (vres_cell rfl rfl (load_agg rfl rfl hl)), deepV_noH _ _ hn⟩
/-- Are two messages the same? -/
noncomputable def sameB (a b : BoD) : Bool := decide (a.time = b.time) && (decide (a.nonce = b.nonce) && (decide (a.chain = b.chain) && (decide (a.em = b.em) && (decide (a.num = b.num) && (decide (a.level = b.level) && decide (a.load = b.load))))))
theorem byV_of {l : List Nat} (h : ∀ x ∈ l, x < 256) : (l.map UInt8.ofNat).map byV = bts l := by
  unfold bts
  rw [List.map_map]
  refine List.map_congr_left fun x hx => ?_
  show VV.v (.int .u8 (((UInt8.ofNat x).toNat : Nat) : Int)) = _
  rw [show (UInt8.ofNat x).toNat = x from by rw [UInt8.toNat_ofNat', Nat.mod_eq_of_lt (h x hx)]]
  rfl
theorem u8_inj {l m : List Nat} (hl : ∀ x ∈ l, x < 256) (hm : ∀ x ∈ m, x < 256) : (l.map UInt8.ofNat = m.map UInt8.ofNat) ↔ l = m := by
  refine ⟨fun h => ?_, fun h => by rw [h]⟩
  have h2 := congrArg (List.map UInt8.toNat) h
  rw [List.map_map, List.map_map] at h2
  have g : ∀ k : List Nat, (∀ x ∈ k, x < 256) → k.map (UInt8.toNat ∘ UInt8.ofNat) = k := fun k hk => by
    refine (List.map_congr_left fun x hx => ?_).trans (List.map_id k)
    exact (by rw [Function.comp_apply, UInt8.toNat_ofNat', Nat.mod_eq_of_lt (hk x hx)]; rfl)
  rwa [g l hl, g m hm] at h2
theorem dec_cases (P : Prop) {Q : Prop} (h2 : ¬ P → Q) (h1 : P → Q) : Q := (Classical.em P).elim h1 h2
theorem same_fn {a b : BoD} (ha : a.ok) (hb : b.ok) (la : ∀ x ∈ a.load, x < 256) (lb : ∀ x ∈ b.load, x < 256) : FnV Try.prog G0 18 [a.v, b.v] (bI (sameB a b)) := by
  have e32 := eq_b32 ha.em hb.em
  obtain ⟨a35, a36, a37⟩ := boD_ix ha.em
  obtain ⟨b35, b36, b37⟩ := boD_ix hb.em
  have bl : ∀ (x y : Nat), ((x : Int) == (y : Int)) = decide (x = y) := fun x y => beq_lit x y
  unfold BoD.v sameB
  refine fn_of_vwp Γok Try.func18 (by kernel_rfl) rfl (by simp [Try.ntmps18]) (wpv_ok Γok (by kernel_rfl) _ _ _ ?_); conv => whnf
  rw [bl a.time b.time]
  refine dec_cases (a.time = b.time) (fun h0 => ?_) (fun h0 => ?_)
  · rw [decide_eq_false h0]
    conv => whnf
    try (refine ⟨by kernel_rfl, ?_⟩; conv => whnf)
    exact ⟨_, rfl, rfl⟩
  rw [decide_eq_true h0]
  conv => whnf
  try (refine ⟨by kernel_rfl, ?_⟩; conv => whnf)
  rw [bl a.nonce b.nonce]
  refine dec_cases (a.nonce = b.nonce) (fun h1 => ?_) (fun h1 => ?_)
  · rw [decide_eq_false h1]
    conv => whnf
    try (refine ⟨by kernel_rfl, ?_⟩; conv => whnf)
    exact ⟨_, rfl, rfl⟩
  rw [decide_eq_true h1]
  conv => whnf
  try (refine ⟨by kernel_rfl, ?_⟩; conv => whnf)
  rw [bl a.chain b.chain]
  refine dec_cases (a.chain = b.chain) (fun h2 => ?_) (fun h2 => ?_)
  · rw [decide_eq_false h2]
    conv => whnf
    try (refine ⟨by kernel_rfl, ?_⟩; conv => whnf)
    exact ⟨_, rfl, rfl⟩
  rw [decide_eq_true h2]
  conv => whnf
  try (refine ⟨by kernel_rfl, ?_⟩; conv => whnf)
  refine bindP_intro (load_sub rfl rfl (by rw [boD_len ha.em]; decide) (boD_em ha.em)) ?_
  conv => whnf
  try (refine ⟨by kernel_rfl, ?_⟩; conv => whnf)
  refine bindP_intro (load_sub rfl rfl (by rw [boD_len hb.em]; decide) (boD_em hb.em)) ?_
  conv => whnf
  try (refine ⟨by kernel_rfl, ?_⟩; conv => whnf)
  refine ⟨_, e32, ?_⟩
  refine dec_cases (a.em = b.em) (fun h3 => ?_) (fun h3 => ?_)
  · rw [decide_eq_false h3]
    conv => whnf
    try (refine ⟨by kernel_rfl, ?_⟩; conv => whnf)
    exact ⟨_, rfl, rfl⟩
  rw [decide_eq_true h3]
  conv => whnf
  try (refine ⟨by kernel_rfl, ?_⟩; conv => whnf)
  refine bindP_intro a35 ?_
  conv => whnf
  try (refine ⟨by kernel_rfl, ?_⟩; conv => whnf)
  refine bindP_intro b35 ?_
  conv => whnf
  try (refine ⟨by kernel_rfl, ?_⟩; conv => whnf)
  rw [bl a.num b.num]
  refine dec_cases (a.num = b.num) (fun h4 => ?_) (fun h4 => ?_)
  · rw [decide_eq_false h4]
    conv => whnf
    try (refine ⟨by kernel_rfl, ?_⟩; conv => whnf)
    exact ⟨_, rfl, rfl⟩
  rw [decide_eq_true h4]
  conv => whnf
  try (refine ⟨by kernel_rfl, ?_⟩; conv => whnf)
  refine bindP_intro a36 ?_
  conv => whnf
  try (refine ⟨by kernel_rfl, ?_⟩; conv => whnf)
  refine bindP_intro b36 ?_
  conv => whnf
  try (refine ⟨by kernel_rfl, ?_⟩; conv => whnf)
  rw [bl a.level b.level]
  refine dec_cases (a.level = b.level) (fun h5 => ?_) (fun h5 => ?_)
  · rw [decide_eq_false h5]
    conv => whnf
    try (refine ⟨by kernel_rfl, ?_⟩; conv => whnf)
    exact ⟨_, rfl, rfl⟩
  rw [decide_eq_true h5]
  conv => whnf
  try (refine ⟨by kernel_rfl, ?_⟩; conv => whnf)
  refine bindP_intro a37 ?_
  conv => whnf
  try (refine ⟨by kernel_rfl, ?_⟩; conv => whnf)
  refine ⟨a.load.map UInt8.ofNat, (byV_of la).symm, by simp, ?_⟩
  conv => whnf
  try (refine ⟨by kernel_rfl, ?_⟩; conv => whnf)
  refine bindP_intro b37 ?_
  conv => whnf
  try (refine ⟨by kernel_rfl, ?_⟩; conv => whnf)
  refine ⟨b.load.map UInt8.ofNat, (byV_of lb).symm, by simp, ?_⟩
  conv => whnf
  try (refine ⟨by kernel_rfl, ?_⟩; conv => whnf)
  refine ⟨_, rfl, ?_⟩
  refine congrArg some (congrArg VV.v (congrArg Value.bool ?_))
  exact (str_eq (a.load.map UInt8.ofNat) (b.load.map UInt8.ofNat)).trans (decide_eq_decide.2 (u8_inj la lb))
end Go.Proofs.Ytlecdiopokalgaa
namespace Go.Proofs.Ytlecdiopokalgaa
set_option linter.unusedVariables false
set_option linter.unusedSimpArgs false
set_option linter.unusedSectionVars false
open Go.ChangeShapes Go.WideShapes Go.ChangeAt Go.RowKit Go.Joins
set_option maxRecDepth 10000
theorem u64_ex (x : Int) : ∃ a : Nat, wS .u64 x = (a : Int) ∧ a < B64 := by
  rw [ws_u64]
  refine ⟨(x % 18446744073709551616).toNat, ?_, ?_⟩
  · omega
  · unfold B64; omega
theorem xor_ex {a b : Nat} (ha : a < B64) (hb : b < B64) : ∃ c : Nat, bitS .xor .u64 a b = (c : Int) ∧ c < B64 := by
  refine ⟨a ^^^ b, u64_xor (by rw [← B64_eq]; exact ha) (by rw [← B64_eq]; exact hb), ?_⟩
  rw [B64_eq] at *
  exact Nat.xor_lt_two_pow ha hb
theorem number_ex (k a b : Int) (s : ByteArray) : ∃ n, n < T256 ∧ FnV Try.prog G0 35 [.agg [nI .i64 k, nI .i64 a, nI .i64 b, .v (.string s)]] (uV n) := by
  obtain ⟨x, hx, hx2⟩ := u64_ex a
  obtain ⟨y, hy, hy2⟩ := u64_ex b
  obtain ⟨z, hz, hz2⟩ := u64_ex (a % 1000)
  obtain ⟨u, hu, hu2⟩ := u64_ex ((x : Int) * 11400714819323198485)
  obtain ⟨v, hv, hv2⟩ := u64_ex ((y : Int) * 14029467366897019727)
  obtain ⟨w, hw, hw2⟩ := xor_ex hx2 hy2
  obtain ⟨p, hp, hp2⟩ := xor_ex (a := 18446744073709551615) (by decide) hx2
  obtain ⟨q, hq, hq2⟩ := xor_ex (a := 18446744073709551615) (by decide) hy2
  have hk : k % 5 = 0 ∨ k % 5 = 1 ∨ k % 5 = 2 ∨ k % 5 = 3 ∨ k % 5 = 4 := by omega
  rcases hk with h | h | h | h | h
  · refine ⟨val4 z 0 0 0, val4_lt hz2 (by decide) (by decide) (by decide), ?_⟩
    rw [uV_val4 hz2 (by decide) (by decide) (by decide)]
    refine fn_of_vwp Γok Try.func35 (by kernel_rfl) rfl (by simp [Try.ntmps35]) (wpv_ok Γok (by kernel_rfl) _ _ _ ?_); conv => whnf
    rw [hx, hy]
    refine ⟨by kernel_rfl, ?_⟩
    conv => whnf
    refine ⟨_, ret_of_fn G0ok (picked_fn k 5 (by omega) (by omega)) (by rfl) rfl, ?_⟩; conv => whnf
    rw [h]
    conv => whnf
    refine ⟨_, ret_of_fn G0ok (picked_fn a 1000 (by omega) (by omega)) (by rfl) rfl, ?_⟩; conv => whnf
    rw [hz]
    exact ⟨_, rfl, rfl⟩
  · refine ⟨val4 x 0 0 0, val4_lt hx2 (by decide) (by decide) (by decide), ?_⟩
    rw [uV_val4 hx2 (by decide) (by decide) (by decide)]
    refine fn_of_vwp Γok Try.func35 (by kernel_rfl) rfl (by simp [Try.ntmps35]) (wpv_ok Γok (by kernel_rfl) _ _ _ ?_); conv => whnf
    rw [hx, hy]
    refine ⟨by kernel_rfl, ?_⟩
    conv => whnf
    refine ⟨_, ret_of_fn G0ok (picked_fn k 5 (by omega) (by omega)) (by rfl) rfl, ?_⟩; conv => whnf
    rw [h]
    conv => whnf
    exact ⟨_, rfl, rfl⟩
  · refine ⟨val4 x y 0 0, val4_lt hx2 hy2 (by decide) (by decide), ?_⟩
    rw [uV_val4 hx2 hy2 (by decide) (by decide)]
    refine fn_of_vwp Γok Try.func35 (by kernel_rfl) rfl (by simp [Try.ntmps35]) (wpv_ok Γok (by kernel_rfl) _ _ _ ?_); conv => whnf
    rw [hx, hy]
    refine ⟨by kernel_rfl, ?_⟩
    conv => whnf
    refine ⟨_, ret_of_fn G0ok (picked_fn k 5 (by omega) (by omega)) (by rfl) rfl, ?_⟩; conv => whnf
    rw [h]
    conv => whnf
    exact ⟨_, rfl, rfl⟩
  · refine ⟨val4 u y w v, val4_lt hu2 hy2 hw2 hv2, ?_⟩
    rw [uV_val4 hu2 hy2 hw2 hv2]
    refine fn_of_vwp Γok Try.func35 (by kernel_rfl) rfl (by simp [Try.ntmps35]) (wpv_ok Γok (by kernel_rfl) _ _ _ ?_); conv => whnf
    rw [hx, hy]
    refine ⟨by kernel_rfl, ?_⟩
    conv => whnf
    refine ⟨_, ret_of_fn G0ok (picked_fn k 5 (by omega) (by omega)) (by rfl) rfl, ?_⟩; conv => whnf
    rw [h]
    conv => whnf
    rw [hu, hv, hw]
    exact ⟨_, rfl, rfl⟩
  · refine ⟨val4 p q 18446744073709551615 18446744073709551615, val4_lt hp2 hq2 (by decide) (by decide), ?_⟩
    rw [uV_val4 hp2 hq2 (by decide) (by decide)]
    refine fn_of_vwp Γok Try.func35 (by kernel_rfl) rfl (by simp [Try.ntmps35]) (wpv_ok Γok (by kernel_rfl) _ _ _ ?_); conv => whnf
    rw [hx, hy]
    refine ⟨by kernel_rfl, ?_⟩
    conv => whnf
    refine ⟨_, ret_of_fn G0ok (picked_fn k 5 (by omega) (by omega)) (by rfl) rfl, ?_⟩; conv => whnf
    rw [h]
    conv => whnf
    rw [show (if IntKind.u64.signed = true then (-1 : Int) else IntKind.u64.max) = ((18446744073709551615 : Nat) : Int) from rfl, hp, hq]
    exact ⟨_, rfl, rfl⟩
/-- The number of a raw thing. -/
noncomputable def rawN (q : RawD) : Nat := Classical.choose (number_ex q.k q.a q.b q.s)
theorem rawN_lt (q : RawD) : rawN q < T256 := (Classical.choose_spec (number_ex q.k q.a q.b q.s)).1
theorem number_fn (q : RawD) : FnV Try.prog G0 35 [q.v] (uV (rawN q)) := (Classical.choose_spec (number_ex q.k q.a q.b q.s)).2
end Go.Proofs.Ytlecdiopokalgaa
namespace Go.Proofs.Ytlecdiopokalgaa
set_option linter.unusedVariables false
set_option linter.unusedSimpArgs false
set_option linter.unusedSectionVars false
open Go.ChangeShapes Go.WideShapes Go.ChangeAt Go.RowKit Go.Joins
set_option maxRecDepth 10000
theorem some_fn (f : Bool) (l : List RawD) (m : Nat) (hl : l.length ≤ maxLen) (hm : m ≤ 1000) : ∃ f', FnV Try.prog G0 25 [.ds f l.length (rawsC l), nI .i64 m] (.ds f' (l.take m).length (rawsC (l.take m))) := by
  refine ⟨f && decide (min l.length m = l.length), ?_⟩
  have e : l.take m = (l.drop 0).take (min l.length m - 0) := by
    rw [List.drop_zero, Nat.sub_zero]
    rcases Nat.le_total l.length m with h | h
    · rw [Nat.min_eq_left h, List.take_of_length_le h, List.take_length]
    · rw [Nat.min_eq_right h]
  rw [e]
  refine fn_of_vwp Γok Try.func25 (by kernel_rfl) rfl (by simp [Try.ntmps25]) (wpv_ok Γok (by kernel_rfl) _ _ _ ?_); conv => whnf
  rw [min_int]
  refine bindP_intro (vpure_slice (vslice_raws rfl rfl (by rfl) (by rfl) vb_nat (Nat.zero_le _) (by omega))) ?_
  conv => whnf
  exact ends_at rfl (rawsC_noHs _)
end Go.Proofs.Ytlecdiopokalgaa
namespace Go.Proofs.Ytlecdiopokalgaa
set_option linter.unusedVariables false
set_option linter.unusedSimpArgs false
set_option linter.unusedSectionVars false
open Go.ChangeShapes Go.WideShapes Go.ChangeAt Go.RowKit Go.Joins
set_option maxRecDepth 10000
def BoD.i (b : BoD) : BoI := ⟨b.time, b.nonce, b.chain, b.em, b.num, b.level, b.load⟩
theorem i_cells {b : BoD} (h : b.f = false) : b.i.cells = b.cells := by
  obtain ⟨t, n, c, e, m, v, f, l⟩ := b
  dsimp only at h
  subst h
  rfl
theorem i_chk {b : BoD} (h : b.ok) : chkB b.i = 0 := by
  obtain ⟨h1, h2, h3, h4, h5, h6, h7⟩ := h
  unfold chkB BoD.i
  dsimp only
  rw [if_pos (inR_iff.2 ⟨by omega, by omega⟩), if_pos (inR_iff.2 ⟨by omega, by omega⟩), if_pos (inR_iff.2 ⟨by omega, by omega⟩), if_pos (inR_iff.2 ⟨by omega, by omega⟩), if_pos (inR_iff.2 ⟨by omega, by omega⟩), if_neg (by omega)]
noncomputable def sgnR (r : RawD) : SgnD := ⟨(r.k % 256).toNat, rawN r, rawN ⟨r.b, r.b, r.a, ByteArray.empty⟩, (r.a % 256).toNat⟩
theorem sgnR_ok (r : RawD) : (sgnR r).who ≤ 255 ∧ (sgnR r).R < T256 ∧ (sgnR r).S < T256 ∧ (sgnR r).odd ≤ 255 := by
  unfold sgnR
  exact ⟨by dsimp only; omega, rawN_lt _, rawN_lt _, by dsimp only; omega⟩
theorem sgnR_cells (r : RawD) : (sgnR r).cells = nI .i64 (r.k % 256) :: (uC (rawN r) ++ uC (rawN ⟨r.b, r.b, r.a, ByteArray.empty⟩) ++ [nI .i64 (r.a % 256)]) := by
  unfold sgnR SgnD.cells
  dsimp only
  rw [show (((r.k % 256).toNat : Nat) : Int) = r.k % 256 from by omega, show (((r.a % 256).toNat : Nat) : Int) = r.a % 256 from by omega]
noncomputable def sgnsR (l : List RawD) : List SgnD := (l.take 19).map sgnR
theorem vbuild_pap {t : TypeId} {r : TR} {fs : List (Nat × TypeId)} {pl : List (Nat × Nat)} {s : Int} {body : List VV} (ht : Γ t = some r) (hd : r.d = .struct fs) (hp : vplaces Γ fs = some pl) (h0 : pl[0]? = some (0, 1)) (h2 : pl[2]? = some (2, 38)) (hz : r.zero = nI .i64 0 :: .ds true 0 [] :: bC 0 0 0 (List.replicate 32 0) (nI .i64 0) (nI .i64 0) (.ds true 0 [])) (hb : body.length = 38) :
    vbuild Γ t [(0, nI .i64 s), (2, .agg body)] = some (.agg (nI .i64 s :: .ds true 0 [] :: body)) := by
  have lz : (bC 0 0 0 (List.replicate 32 0) (nI .i64 0) (nI .i64 0) (.ds true 0 [])).length = 38 := by rfl
  unfold vbuild
  have z1 : splice r.zero 0 [VV.v (Value.int IntKind.i64 s)] = VV.v (Value.int IntKind.i64 s) :: .ds true 0 [] :: bC 0 0 0 (List.replicate 32 0) (nI .i64 0) (nI .i64 0) (.ds true 0 []) := by rw [hz]; rfl
  simp only [ht, hd, hp, vfill, h0, h2, cellsOf, nI]
  rw [if_pos ⟨rfl, by rw [hz, List.length_cons]; simp⟩, z1, if_pos ⟨hb, by rw [List.length_cons, List.length_cons, lz, hb]; decide⟩, splice_body rfl lz hb]
theorem vpure_pap {t : TypeId} {r : TR} {fs : List (Nat × TypeId)} {pl : List (Nat × Nat)} {s : Int} {body : List VV} {x0 x2 : Operand} {ev : Operand → VV} (e0 : ev x0 = nI .i64 s) (e2 : ev x2 = .agg body) (ht : Γ t = some r) (hd : r.d = .struct fs) (hp : vplaces Γ fs = some pl) (h0 : pl[0]? = some (0, 1)) (h2 : pl[2]? = some (2, 38)) (hz : r.zero = nI .i64 0 :: .ds true 0 [] :: bC 0 0 0 (List.replicate 32 0) (nI .i64 0) (nI .i64 0) (.ds true 0 [])) (hb : body.length = 38) :
    vpure Γ (.build t #[(0, x0), (2, x2)]) ev = some (.agg (nI .i64 s :: .ds true 0 [] :: body)) := by
  show vbuild Γ t [(0, ev x0), (2, ev x2)] = _
  rw [e0, e2]
  exact vbuild_pap ht hd hp h0 h2 hz hb
theorem written_fn {f : Bool} {l : List RawD} {set : Int} {x : RawD} (hl : l.length ≤ maxLen) (hx : x.ok) : FnV Try.prog G0 14 [.ds f l.length (rawsC l), nI .i64 set, x.v] (.agg (papC (set % 4294967296).toNat false (sgnsR l) (bodyR x).i)) := by
  obtain ⟨f', so⟩ := some_fn f l 19 hl (by decide)
  have bx := rbody_fn x hx
  have ps := picked_fn set 4294967296 (by decide) (by decide)
  have bc : (bodyR x).i.cells = (bodyR x).cells := i_cells rfl
  have bl := boD_len (bodyR_ok x).em
  have nb := boD_noHs (bodyR x)
  unfold BoD.v at bx
  unfold RawD.v RawD.cells at bx ⊢
  refine fn_of_vwp Γok Try.func14 (by kernel_rfl) rfl (by simp [Try.ntmps14]) (wpv_ok Γok (by kernel_rfl) _ _ _ ?_); conv => whnf
  refine ⟨_, ret_of_fn G0ok (ps) (by first | rfl | simp only [noHs, noH, nI, bI, Bool.and_self, Bool.and_true, Bool.true_and, ]) (by first | rfl | simp only [noHs, noH, nI, bI, Bool.and_self, Bool.and_true, Bool.true_and, ]), ?_⟩; (conv => whnf); (try (refine ⟨by kernel_rfl, ?_⟩; conv => whnf))
  refine ⟨_, ret_of_fn G0ok (bx) (by first | rfl | simp only [noHs, noH, nI, bI, Bool.and_self, Bool.and_true, Bool.true_and, nb]) (by first | rfl | simp only [noHs, noH, nI, bI, Bool.and_self, Bool.and_true, Bool.true_and, nb]), ?_⟩; (conv => whnf); (try (refine ⟨by kernel_rfl, ?_⟩; conv => whnf))
  refine bindP_intro (vpure_pap (s := set % 4294967296) (body := (bodyR x).cells) rfl rfl rfl rfl rfl rfl rfl rfl bl) ?_
  conv => whnf
  try (refine ⟨by kernel_rfl, ?_⟩; conv => whnf)
  have pl : (nI .i64 (set % 4294967296) :: .ds true 0 [] :: (bodyR x).cells).length = 40 := by rw [List.length_cons, List.length_cons, bl]
  refine onlyIf_intro (by rw [pl]; rfl) ?_
  rw [splice_all (by rw [pl]; rfl)]
  conv => whnf
  try (refine ⟨by kernel_rfl, ?_⟩; conv => whnf)
  refine ⟨_, ret_of_fn G0ok (so) (by first | rfl | simp only [noHs, noH, nI, bI, Bool.and_self, Bool.and_true, Bool.true_and, rawsC_noHs]) (by first | rfl | simp only [noHs, noH, nI, bI, Bool.and_self, Bool.and_true, Bool.true_and, rawsC_noHs]), ?_⟩; (conv => whnf); (try (refine ⟨by kernel_rfl, ?_⟩; conv => whnf))
  have hM : (l.take 19).length ≤ 19 := by rw [List.length_take]; omega
  have eM : sgnsR l = (l.take 19).map sgnR := rfl
  rw [eM]
  refine gen_ex (l.take 19) fun M hMe => ?_
  rw [← hMe] at hM ⊢
  clear hMe so eM
  unfold papC
  rw [List.length_map, bc, show (((set % 4294967296).toNat : Nat) : Int) = set % 4294967296 from by omega]
  refine gen_ex (bodyR x).cells fun B eB => ?_
  rw [← eB] at bl nb pl ⊢
  clear eB bc bx
  refine vloop_invK G0ok [(0, some 0), (1, some 1), (2, some 2), (3, none)] 4 (X := Nat) (fun i => [(18, nI .i64 i), (17, nI .i64 M.length), (16, .ds f' M.length (rawsC M)), (7, .ptr 2 0), (6, .ptr 1 0), (5, .ptr 0 0)])
    (fun i => [(0, some [nI .i64 x.k, nI .i64 x.a, nI .i64 x.b, .v (.string x.s)]), (1, some (nI .i64 0 :: .ds true 0 [] :: bC 0 0 0 (List.replicate 32 0) (nI .i64 0) (nI .i64 0) (.ds true 0 []))), (2, some (nI .i64 (set % 4294967296) :: .sl 3 0 i 10 :: B)), (3, some (rows SgnD.cells ((M.take i).map sgnR)))])
    (fun i => i ≤ M.length) (fun i => M.length - i) 0 rfl ⟨⟨_, rfl, conv_nI (rfl)⟩, ⟨_, rfl, conv_nI (rfl)⟩, ⟨_, rfl, conv_eq rfl (rawsC_noHs _)⟩, ⟨_, rfl, .ptr rfl⟩, ⟨_, rfl, .ptr rfl⟩, ⟨_, rfl, .ptr rfl⟩, trivial⟩ ⟨.inr ⟨_, _, rfl, rfl, .same rfl⟩, .inr ⟨_, _, rfl, rfl, .same rfl⟩, .inr ⟨_, _, rfl, rfl, .cons (.same rfl) (.cons (.null rfl) (convs_eq rfl nb))⟩, .inl ⟨rfl, rfl⟩, trivial⟩ (Nat.zero_le _) ?_
  intro i hi
  try dsimp only at hi
  try dsimp only
  refine wpv_ok Γok (by kernel_rfl) _ _ _ ?_; conv => whnf
  have rl : (rows SgnD.cells ((M.take i).map sgnR)).length = i * 10 := by rw [rows_length (w := 10) fun a _ => sgnD_len a, List.length_map, List.length_take, Nat.min_eq_left hi]
  refine bool_cases (fun hc => ?_) (fun hc => ?_)
  · have hc := of_decide_eq_true hc
    have hc : i < M.length := by omega
    have st : (M.take (i + 1)).map sgnR = (M.take i).map sgnR ++ [sgnR M[i]] := by rw [List.take_add_one, List.getElem?_eq_getElem hc, List.map_append]; rfl
    conv => whnf
    try (refine ⟨by kernel_rfl, ?_⟩; conv => whnf)
    refine bindP_intro (if_pos (inB_ok (by omega) (by omega))) ?_; conv => whnf
    refine bindP_intro (raw_load (i := i) rfl rfl rfl (by dsimp only; omega) hc) ?_
    refine gen_ex M[i] fun r er => ?_
    rw [← er] at st ⊢
    clear er
    have k1 := picked_fn r.k 256 (by decide) (by decide)
    have k2 := number_fn r
    have k3 := number_fn ⟨r.b, r.b, r.a, ByteArray.empty⟩
    have k4 := picked_fn r.a 256 (by decide) (by decide)
    have sc := sgnR_cells r
    unfold RawD.v RawD.cells at k2 k3 ⊢
    conv => whnf
    try (refine ⟨by kernel_rfl, ?_⟩; conv => whnf)
    refine ⟨_, ret_of_fn G0ok (k1) (by first | rfl | simp only [noHs, noH, nI, bI, Bool.and_self, Bool.and_true, Bool.true_and, ]) (by first | rfl | simp only [noHs, noH, nI, bI, Bool.and_self, Bool.and_true, Bool.true_and, ]), ?_⟩; (conv => whnf); (try (refine ⟨by kernel_rfl, ?_⟩; conv => whnf))
    refine ⟨_, ret_of_fn G0ok (k2) (by first | rfl | simp only [noHs, noH, nI, bI, Bool.and_self, Bool.and_true, Bool.true_and, ]) (by first | rfl | simp only [noHs, noH, nI, bI, Bool.and_self, Bool.and_true, Bool.true_and, ]), ?_⟩; (conv => whnf); (try (refine ⟨by kernel_rfl, ?_⟩; conv => whnf))
    refine ⟨_, ret_of_fn G0ok (k3) (by first | rfl | simp only [noHs, noH, nI, bI, Bool.and_self, Bool.and_true, Bool.true_and, ]) (by first | rfl | simp only [noHs, noH, nI, bI, Bool.and_self, Bool.and_true, Bool.true_and, ]), ?_⟩; (conv => whnf); (try (refine ⟨by kernel_rfl, ?_⟩; conv => whnf))
    refine ⟨_, ret_of_fn G0ok (k4) (by first | rfl | simp only [noHs, noH, nI, bI, Bool.and_self, Bool.and_true, Bool.true_and, ]) (by first | rfl | simp only [noHs, noH, nI, bI, Bool.and_self, Bool.and_true, Bool.true_and, ]), ?_⟩; (conv => whnf); (try (refine ⟨by kernel_rfl, ?_⟩; conv => whnf))
    refine .ownAs 1 (SgnD.cells (sgnR r)) rfl (by rw [sc]; rfl) ?_
    conv => whnf
    try (refine ⟨by kernel_rfl, ?_⟩; conv => whnf)
    refine onlyIf_intro (by show (Nat.beq (rows SgnD.cells ((M.take i).map sgnR)).length _ && _) = true; rw [rl]; simp [maxLen]; omega) ?_
    refine .ownAs (i + 1) (rows SgnD.cells ((M.take (i + 1)).map sgnR)) rfl (by rw [st, rows_app, rows_one]) ?_
    conv => whnf
    try (refine ⟨by kernel_rfl, ?_⟩; conv => whnf)
    refine next_round (y := i) G0ok (i + 1) [(0, some 0), (1, some 1), (2, some 2), (3, some 6)] rfl ⟨⟨_, rfl, conv_nI (ws_i64 (by omega) (by omega))⟩, ⟨_, rfl, conv_nI (rfl)⟩, ⟨_, rfl, conv_eq rfl (rawsC_noHs _)⟩, ⟨_, rfl, .ptr rfl⟩, ⟨_, rfl, .ptr rfl⟩, ⟨_, rfl, .ptr rfl⟩, trivial⟩ ⟨.inr ⟨_, _, rfl, rfl, .same rfl⟩, .inr ⟨_, _, rfl, rfl, .same rfl⟩, .inr ⟨_, _, rfl, rfl, .cons (.same rfl) (.cons (.sl rfl) (convs_eq rfl nb))⟩, .inr ⟨_, _, rfl, rfl, .same (rows_noHs sgnD_noHs _)⟩, trivial⟩ (by omega) (by omega)
  · have hc := of_decide_eq_false hc
    have e : i = M.length := by omega
    subst e
    rw [List.take_length] at rl ⊢
    have dp : ∀ (k : Nat) (lkf : Nat → Option (List VV)), lkf 3 = some (rows SgnD.cells (M.map sgnR)) → deepV (k + 2) lkf (.agg (nI .i64 (set % 4294967296) :: .sl 3 0 M.length 10 :: B)) = some (.agg (nI .i64 (set % 4294967296) :: .ds false M.length (rows SgnD.cells (M.map sgnR)) :: B)) := fun k lkf hk =>
      deep_agg rfl (mapO_cons (deepV_noH _ _ rfl) (mapO_cons (deep_row hk rl (rows_noHs sgnD_noHs _)) (mapO_noH (fun v hv => deepV_noH _ v hv) _ nb)))
    conv => whnf
    try (refine ⟨by kernel_rfl, ?_⟩; conv => whnf)
    refine bindP_intro (load_agg rfl rfl (by rw [List.length_cons, List.length_cons, bl])) ?_
    conv => whnf
    try (refine ⟨by kernel_rfl, ?_⟩; conv => whnf)
    refine onlyIf_intro (by rw [List.length_cons, List.length_cons, bl]; rfl) ?_
    rw [splice_all (by rw [List.length_cons, List.length_cons, bl]; rfl)]
    conv => whnf
    try (refine ⟨by kernel_rfl, ?_⟩; conv => whnf)
    exact ⟨_, vres_one rfl (vres_cell rfl rfl (load_agg rfl rfl (by rw [List.length_cons, List.length_cons, bl]))), dp 1 _ rfl⟩
end Go.Proofs.Ytlecdiopokalgaa
namespace Go.Proofs.Ytlecdiopokalgaa
set_option linter.unusedVariables false
set_option linter.unusedSimpArgs false
set_option linter.unusedSectionVars false
open Go.ChangeShapes Go.WideShapes Go.ChangeAt Go.RowKit Go.Joins
set_option maxRecDepth 10000
theorem eq_loopF {α : Type} {P : Program} {w : World} (f : α → Sem (ForInStep (Option Bool × Unit))) (q : α → Bool) : ∀ (l : List α), (∀ k ∈ l, (f k).run P w = .ok (if q k = true then .yield (none, ()) else .done (some false, ())) w) →
    (forIn l ((none, ()) : Option Bool × Unit) fun (i : α) (_ : Option Bool × Unit) => f i).run P w = .ok (if l.all q then (none, ()) else (some false, ())) w
  | [], _ => by simp
  | k :: l, h => by
    have h1 := h k (by simp)
    have h2 := eq_loopF f q l fun k hk => h k (by simp [hk])
    rw [List.forIn_cons]
    cases hq : q k with
    | true =>
      rw [hq] at h1
      simp only [if_true] at h1
      simp only [Sem.run_bind, h1, Result.andThen_ok, List.all_cons, hq, Bool.true_and]
      exact h2
    | false =>
      rw [hq] at h1
      simp only [Bool.false_eq_true, if_false] at h1
      simp only [Sem.run_bind, h1, Result.andThen_ok, Sem.run_pure, List.all_cons, hq, Bool.false_and, Bool.false_eq_true, if_false]
theorem equal_struct {P : Program} {t : TypeId} {fields : Array Field} (ht : P.underlying t = some (.struct fields)) (hs : P.stoodInHeld t = false) (us vs : Array Value) (q : Field → Bool) (d : Nat) (w : World)
    (hq : ∀ f ∈ fields.toList, f.name ≠ "_" ∧ (do let x ← part f.type us f.offset; let y ← part f.type vs f.offset; Op.equalIn d f.type x y : Sem Bool).run P w = .ok (q f) w) :
    (Op.equalIn (d + 1) t (.agg us) (.agg vs)).run P w = .ok (fields.toList.all q) w := by
  unfold Op.equalIn
  simp only [Sem.run_bind, run_underlying ht, Result.andThen_ok]
  have hp : (program : Sem Program).run P w = .ok P w := rfl
  simp only [hp, Result.andThen_ok, hs, Bool.false_eq_true, if_false]
  rw [← Array.forIn_toList]
  have h := eq_loopF (P := P) (w := w) (fun (f : Field) => if f.name ≠ "_" then (do
      let x ← part f.type us f.offset
      let y ← part f.type vs f.offset
      let b ← Op.equalIn d f.type x y
      if (!b) = true then pure (ForInStep.done (some false, ())) else pure (ForInStep.yield (none, ())) : Sem (ForInStep (Option Bool × Unit))) else pure (ForInStep.yield (none, ()))) q fields.toList (fun f hf => by
    obtain ⟨h1, h2⟩ := hq f hf
    rw [if_pos h1]
    simp only [← bind_assoc] at h2 ⊢
    simp only [Sem.run_bind] at h2 ⊢
    rw [h2]
    simp only [Result.andThen_ok]
    cases q f <;> rfl)
  rw [Sem.run_bind, h, Result.andThen_ok]
  cases fields.toList.all q <;> simp
section
variable {P : Program} {Γ : Tab} (hΓ : TabOk P Γ)
include hΓ
theorem part_agg {t : TypeId} {r : TR} (hr : Γ t = some r) (ha : r.d.agg = true) (us : List Value) (off : Nat) (w : World) : (part t us.toArray off).run P w = .ok (.agg ((us.drop off).take r.size).toArray) w := by
  have hA := run_isAgg_tab hΓ hr w
  have hS := run_sizeOf_tab hΓ hr w
  unfold part
  simp only [Sem.run_bind, hA, Result.andThen_ok, ha, if_true, hS, Sem.run_pure]
  simp [List.extract_eq_take_drop]
theorem part_one {t : TypeId} {r : TR} (hr : Γ t = some r) (ha : r.d.agg = false) {us : List Value} {off : Nat} {v : Value} (h : us[off]? = some v) (w : World) : (part t us.toArray off).run P w = .ok v w := by
  have hA := run_isAgg_tab hΓ hr w
  unfold part
  simp only [Sem.run_bind, hA, Result.andThen_ok, ha, Bool.false_eq_true, if_false]
  simp [h]
end
theorem eqAgg_of {P : Program} {t : TypeId} (hg : P.eqGuardType P.depth t = false) {us vs : List Value} {r : Bool} (h : ∀ w, (Op.equal t (.agg us.toArray) (.agg vs.toArray)).run P w = .ok r w) :
    EqAgg P .eql t (us.map .v) (vs.map .v) r ∧ EqAgg P .neq t (us.map .v) (vs.map .v) (!r) := by
  have hg1 : ∀ op ox oy w, (eqGuard op t ox oy (.agg us.toArray) (.agg vs.toArray)).run P w = .ok () w := fun op ox oy w => by
    unfold eqGuard
    cases op <;> simp [hg]
  refine ⟨⟨us, vs, rfl, rfl, fun ox oy w => ?_⟩, ⟨us, vs, rfl, rfl, fun ox oy w => ?_⟩⟩
  · simp only [Sem.run_bind, hg1, Result.andThen_ok]
    show (do let b ← Op.equal t _ _; pure (Value.bool b) : Sem Value).run P w = _
    simp only [Sem.run_bind, h w]
    simp
  · simp only [Sem.run_bind, hg1, Result.andThen_ok]
    show (do let b ← Op.equal t _ _; pure (Value.bool (!b)) : Sem Value).run P w = _
    simp only [Sem.run_bind, h w]
    simp
def wI (k : IntKind) (l : List Nat) : List Value := l.map fun (x : Nat) => Value.int k x
theorem equal_nats {P : Program} {Γ : Tab} (hΓ : TabOk P Γ) {t e : TypeId} {n : Nat} {k : IntKind} {r : TR} (ht : P.underlying t = some (.array n e)) (he : Γ e = some r) (hr : r.d = .int k) (hs : r.size = 1) (hd : P.underlying e = some (.int k)) (l m : List Nat) (hl : l.length = n) (hm : m.length = n) (d : Nat) (w : World) :
    (Op.equalIn (d + 2) t (.agg (wI k l).toArray) (.agg (wI k m).toArray)).run P w = .ok (decide (l = m)) w := by
  have h := equal_words hΓ ht he hr hs hd (l.map fun (x : Nat) => (x : Int)) (m.map fun (x : Nat) => (x : Int)) (by simpa using hl) (by simpa using hm) d w
  rw [show decide (l = m) = decide (l.map (fun (x : Nat) => (x : Int)) = m.map fun (x : Nat) => (x : Int)) from decide_eq_decide.2 (map_cast_eq l m).symm]
  simpa only [wI, List.map_map, Function.comp_def] using h
noncomputable def limW (n : Nat) : List Nat := [lim n 0, lim n 1, lim n 2, lim n 3]
theorem limW_inj {a b : Nat} (ha : a < T256) (hb : b < T256) : decide (limW a = limW b) = decide (a = b) := decide_eq_decide.2 ⟨fun h => uV_inj ha hb h, fun h => by rw [h]⟩
theorem words_v (l : List Nat) : words l = (wI .u64 l).map .v := by simp [words, wI, nI]
end Go.Proofs.Ytlecdiopokalgaa
namespace Go.Proofs.Ytlecdiopokalgaa
set_option linter.unusedVariables false
set_option linter.unusedSimpArgs false
set_option linter.unusedSectionVars false
open Go.ChangeShapes Go.WideShapes Go.ChangeAt Go.RowKit Go.Joins
set_option maxRecDepth 10000
noncomputable def sgV (R S : Nat) (o : Int) : List Value := wI .u64 (limW R) ++ (wI .u64 (limW S) ++ [.int .i64 o])
theorem sg_self {R S : Nat} {o : Int} (hR : R < T256) (hS : S < T256) (w : World) : (Op.equalIn 9999 44 (.agg (sgV R S o).toArray) (.agg (sgV R S o).toArray)).run Try.prog w = .ok true w := by
  have h := equal_struct (P := Try.prog) Try.underlying44 (by kernel_rfl) (sgV R S o).toArray (sgV R S o).toArray (fun _ => true) 9998 w ?_
  · exact h.trans (by simp)
  · intro f hf
    simp only [List.mem_cons, List.not_mem_nil, or_false] at hf
    rcases hf with rfl | rfl | rfl
    · refine ⟨by decide, ?_⟩
      simp only [Sem.run_bind, part_agg Γok (show Γ 42 = some _ from rfl) rfl, Result.andThen_ok]
      have := equal_nats (k := .u64) Γok (t := 42) (e := 40) Try.underlying42 rfl rfl rfl Try.underlying40 (limW R) (limW R) rfl rfl 9996 w
      rw [limW_inj hR hR, decide_eq_true rfl] at this
      exact this
    · refine ⟨by decide, ?_⟩
      simp only [Sem.run_bind, part_agg Γok (show Γ 42 = some _ from rfl) rfl, Result.andThen_ok]
      have := equal_nats (k := .u64) Γok (t := 42) (e := 40) Try.underlying42 rfl rfl rfl Try.underlying40 (limW S) (limW S) rfl rfl 9996 w
      rw [limW_inj hS hS, decide_eq_true rfl] at this
      exact this
    · refine ⟨by decide, ?_⟩
      simp only [Sem.run_bind, part_one Γok (show Γ 3 = some _ from rfl) rfl (show (sgV R S o)[8]? = some (.int .i64 o) from rfl), Result.andThen_ok]
      unfold Op.equalIn
      simp [run_underlying Try.underlying3]
theorem sgn_self {x : SgnD} (hR : x.R < T256) (hS : x.S < T256) : EqAgg Try.prog .neq 46 x.cells x.cells false := by
  have e : x.cells = (Value.int .i64 x.who :: sgV x.R x.S x.odd).map .v := by
    unfold SgnD.cells sgV uC
    rw [words_v, words_v]
    simp [limW, nI]
  rw [e]
  refine (eqAgg_of (r := true) (by kernel_rfl) fun w => ?_).2
  have h := equal_struct (P := Try.prog) Try.underlying46 (by kernel_rfl) (Value.int .i64 x.who :: sgV x.R x.S x.odd).toArray (Value.int .i64 x.who :: sgV x.R x.S x.odd).toArray (fun _ => true) 9999 w ?_
  · exact h.trans (by simp)
  · intro f hf
    simp only [List.mem_cons, List.not_mem_nil, or_false] at hf
    rcases hf with rfl | rfl
    · refine ⟨by decide, ?_⟩
      simp only [Sem.run_bind, part_one Γok (show Γ 3 = some _ from rfl) rfl (show (Value.int .i64 x.who :: sgV x.R x.S x.odd)[0]? = some (.int .i64 x.who) from rfl), Result.andThen_ok]
      unfold Op.equalIn
      simp [run_underlying Try.underlying3]
    · refine ⟨by decide, ?_⟩
      simp only [Sem.run_bind, part_agg Γok (show Γ 44 = some _ from rfl) rfl, Result.andThen_ok]
      exact sg_self hR hS w
end Go.Proofs.Ytlecdiopokalgaa
namespace Go.Proofs.Ytlecdiopokalgaa
set_option linter.unusedVariables false
set_option linter.unusedSimpArgs false
set_option linter.unusedSectionVars false
open Go.ChangeShapes Go.WideShapes Go.ChangeAt Go.RowKit Go.Joins
set_option maxRecDepth 10000
set_option linter.constructorNameAsVariable false
section
variable {H : Type} {enc : TypeId × Value → H} {r : Reach} {W : World} {base b0 : Nat} {spare : Nat → Bool} {held : Bool} {v : Value} {d : DataW H} {p : List MemPlace}
theorem far4 (ao k i : Nat) (h : ¬ i < k * 4) : ao + k * 4 + (i - k * 4) = ao + i := by omega
theorem raws_open (hv : Value.okWide Try.prog W r b0 22 v) (h : DataW.Trod enc Try.prog W base spare held 22 v d p) : ∃ l : List RawD, l.length ≤ maxLen ∧ (∀ q ∈ l, q.ok) ∧ VR (E0 W (fun _ => True)) (.ds false l.length (rawsC l)) v := by
  have hc4 : Try.prog.cellsOf 24 = 4 := by kernel_rfl
  obtain ⟨fuel, hf⟩ := h
  obtain ⟨a0, len, cap, rfl⟩ := Go.WideShapes.okWide_slice Try.underlying22 hv
  rcases Go.Deep.open_slice Try.underlying22 hf with ⟨hcs, _⟩ | ⟨a, len1, cap1, m, n, D, Pl, hcs, hb, hl, hm, hmm, _, hx⟩
  · simp only [Value.cells, List.cons.injEq, and_true] at hcs
    cases hcs
    exact ⟨[], by simp, by simp, by simp only [VR]; exact .inl ⟨rfl, rfl, none, rfl⟩⟩
  · simp only [Value.cells, List.cons.injEq, and_true] at hcs
    cases hcs
    unfold Value.okWide at hv
    rw [Try.underlying22] at hv
    have hv : Cell.okWide Try.prog W r b0 22 (.slice (some a) len cap) := hv
    unfold Cell.okWide at hv
    rw [Try.underlying22] at hv
    have hv : Cell.ok Try.prog W r b0 22 (.slice (some a) len cap) := hv
    unfold Cell.ok at hv
    rw [Try.underlying22] at hv
    obtain ⟨_, _, _, hspot, row, cells, hsh, _⟩ := hv
    have hlt : a.block < W.heap.size := by
      unfold World.shape? at hsh
      split at hsh
      · rename_i hh; exact (Array.getElem?_eq_some_iff.1 hh).1
      · cases hsh
    have hml : len ≤ m := by rw [hmm]; split <;> omega
    have hx' : ∀ i, i < len → ∃ q : RawD, q.ok ∧ W.cells? base (a.add (i * 4)) 4 = some q.vals := fun i hi => by
      obtain ⟨cs', h1, h2⟩ := hx i (by omega)
      obtain ⟨q, q1, q2⟩ := raw_cells h2
      rw [hc4, q2] at h1
      exact ⟨q, q1, h1⟩
    have key : ∀ k, k ≤ len → ∃ l : List RawD, l.length = k ∧ (∀ q ∈ l, q.ok) ∧ ∀ (i : Nat) (u : Value), (l.flatMap RawD.vals)[i]? = some u → W.cell? ⟨a.block, a.off + i, none⟩ = some u := by
      intro k
      induction k with
      | zero => exact fun _ => ⟨[], rfl, by simp, by simp⟩
      | succ k ih =>
        intro hk
        obtain ⟨l, l1, l2, l3⟩ := ih (by omega)
        obtain ⟨q, q1, q2⟩ := hx' k (by omega)
        have hlen : (l.flatMap RawD.vals).length = k * 4 := by
          rw [List.length_flatMap]
          have : l.map (fun x => x.vals.length) = List.replicate k 4 := by
            rw [List.eq_replicate_iff]
            refine ⟨by simp [l1], fun b hb => ?_⟩
            obtain ⟨x, _, rfl⟩ := List.mem_map.1 hb
            rfl
          rw [this]; simp
        refine ⟨l ++ [q], by simp [l1], ?_, fun i u hu => ?_⟩
        · intro x hx
          rcases List.mem_append.1 hx with h | h
          · exact l2 x h
          · simp at h; subst h; exact q1
        · rw [List.flatMap_append, List.getElem?_append] at hu
          split at hu
          · exact l3 i u hu
          · rename_i hge
            rw [hlen] at hu hge
            have hu2 : q.vals[i - k * 4]? = some u := by simpa using hu
            obtain ⟨_, _, h3⟩ := World.cells?_some q2
            have hi4 : i - k * 4 < 4 := by
              have := (List.getElem?_eq_some_iff.1 hu2).1
              simpa [RawD.vals] using this
            have h4 := h3 (i - k * 4) hi4
            rw [hu2] at h4
            have ea : (a.add (k * 4)).add (i - k * 4) = ⟨a.block, a.off + i, none⟩ := by
              obtain ⟨ab, ao, asp⟩ := a
              simp only at hspot; subst hspot
              rw [Addr.add_lit, Addr.add_lit, far4 ao k i hge]
            rw [ea] at h4
            exact h4
    obtain ⟨l, l1, l2, l3⟩ := key len (Nat.le_refl _)
    refine ⟨l, by omega, l2, ?_⟩
    simp only [VR]
    refine .inr ⟨a.block, a.off, cap, trivial, hlt, ?_, by omega, (by simp), l.flatMap RawD.vals, l3, ?_, ?_⟩
    · obtain ⟨ab, ao, asp⟩ := a
      simp only at hspot; subst hspot
      rw [l1]
    · clear l3 l2 l1
      unfold rawsC
      induction l with
      | nil => simp [VRs]
      | cons q l ih => exact (q.cells_VRs _).append ih
    · intro u hu
      obtain ⟨q, _, h⟩ := List.mem_flatMap.1 hu
      exact q.vals_ones u h
end
end Go.Proofs.Ytlecdiopokalgaa
