/- sign.Point by a small curve, and signTells, by the engine. -/
import Derived.Test.YtidkdlaihmpjfaaDoorBUc
import Derived.Test.YtidkdlaihmpjfaaDoorVLaw
import Derived.Test.YtidkdlaihmpjfaaDoorBUb
import Derived.Test.YtidkdlaihmpjfaaDoorVRows
namespace Go.Proofs.YtidkdlaihmpjfaaDoor
set_option linter.unusedVariables false
set_option linter.unusedSimpArgs false
set_option linter.unusedSectionVars false
open Go.ChangeShapes Go.WideShapes Go.ChangeAt Go.RowKit Go.Joins
set_option maxRecDepth 10000
theorem spoint_gk {k : Nat} (h : k < 8) {d : Nat} (d0 : 0 < d) (hd : d < (crv k).N) : FnV Tryd.prog G0 25 [(crv k).v, uV d] (.tup [(gk k d).v, nI .i64 0]) := by
  have on : OnP (crv k) (crv k).base := by rw [← gk_base h]; exact gk_on h 1
  have st := gk_steps h 1 d
  rw [gk_base h] at st
  have := spoint_ok (good_crv h) d0 hd on st
  rw [Nat.mul_one] at this
  exact this
theorem stells_fn : FnV Tryd.prog G0 34 [] (bI true) := by
  have h : 0 < 8 := by decide
  have cv := curve_fn 0
  rw [show ((0 : Int) % 8).toNat = 0 from rfl] at cv
  have sp := spoint_gk h (d := 1) (by decide) (by decide)
  have e1 := eq_pt_self (gk_lt h 1)
  rw [gk_base h] at sp e1
  unfold CvD.base at sp e1
  unfold CvD.v CvD.cells PtD.v PtD.cells at *
  rw [uV_w4 (n := 1) (by decide)] at sp
  dsimp only at *
  refine fn_of_vwp Γok Tryd.func34 (by kernel_rfl) rfl (by simp [Tryd.ntmps34]) (wpv_ok Γok (by kernel_rfl) _ _ _ ?_); conv => whnf
  refine ⟨_, ret_of_fn G0ok (cv) (by first | rfl | simp only [noHs, noH, nI, bI, Bool.and_self, Bool.and_true, Bool.true_and, ]) (by first | rfl | simp only [noHs, noH, nI, bI, Bool.and_self, Bool.and_true, Bool.true_and, ]), ?_⟩; (conv => whnf); (try (refine ⟨by kernel_rfl, ?_⟩; conv => whnf))
  refine ⟨_, ret_of_fn G0ok (sp) (by first | rfl | simp only [noHs, noH, nI, bI, Bool.and_self, Bool.and_true, Bool.true_and, ]) (by first | rfl | simp only [noHs, noH, nI, bI, Bool.and_self, Bool.and_true, Bool.true_and, ]), ?_⟩; (conv => whnf); (try (refine ⟨by kernel_rfl, ?_⟩; conv => whnf))
  refine ⟨_, e1, ?_⟩
  conv => whnf
  try (refine ⟨by kernel_rfl, ?_⟩; conv => whnf)
  exact ⟨_, rfl, rfl⟩
end Go.Proofs.YtidkdlaihmpjfaaDoor
namespace Go.Proofs.YtidkdlaihmpjfaaDoor
set_option linter.unusedVariables false
set_option linter.unusedSimpArgs false
set_option linter.unusedSectionVars false
open Go.ChangeShapes Go.WideShapes Go.ChangeAt Go.RowKit Go.Joins
set_option maxRecDepth 10000
theorem xo_ex : ∃ f : Nat → Nat → Nat, ∀ a b, f a b = a ^^^ b := ⟨_, fun _ _ => rfl⟩
noncomputable def xo : Nat → Nat → Nat := Classical.choose xo_ex
theorem xo_def (a b : Nat) : xo a b = a ^^^ b := Classical.choose_spec xo_ex a b
theorem an_ex : ∃ f : Nat → Nat → Nat, ∀ a b, f a b = a &&& b := ⟨_, fun _ _ => rfl⟩
noncomputable def an : Nat → Nat → Nat := Classical.choose an_ex
theorem an_def (a b : Nat) : an a b = a &&& b := Classical.choose_spec an_ex a b
def rotl (x k : Nat) : Nat := (x * 2 ^ k % 18446744073709551616) ||| (x / 2 ^ (64 - k))
theorem rt_ex : ∃ f : Nat → Nat → Nat, ∀ a b, f a b = rotl a b := ⟨_, fun _ _ => rfl⟩
noncomputable def rt : Nat → Nat → Nat := Classical.choose rt_ex
theorem rt_def (a b : Nat) : rt a b = rotl a b := Classical.choose_spec rt_ex a b
theorem vindex_at {t e : TypeId} {n : Nat} {cs : List VV} {k : IntKind} {j : Int} {i : Nat} {r : TR} {v : VV} (ha : arrOf Γ t = some (n, e, 1)) (hr : Γ e = some r) (hg : r.d.agg = false) (hj : j = i) (hi : i < n) (hv : cs[i]? = some v) : vindex Γ t (.agg cs) (.v (.int k j)) = some v := by
  subst hj
  unfold vindex vpart
  simp only [ha, hr, hg, Int.toNat_natCast, Nat.mul_one]
  rw [if_pos (inB_ok (by omega) (by omega))]
  exact hv
theorem vpure_index {t : TypeId} {x i : Operand} {ev : Operand → VV} {v : VV} (h : vindex Γ t (ev x) (ev i) = some v) : vpure Γ (.index t x i) ev = some v := h
def W64 (x : Nat) : Prop := x < 2 ^ 64
theorem xo_lt {a b : Nat} (ha : W64 a) (hb : W64 b) : W64 (xo a b) := by rw [xo_def]; exact Nat.xor_lt_two_pow ha hb
theorem an_lt {a b : Nat} (ha : W64 a) : W64 (an a b) := by rw [an_def]; exact Nat.lt_of_le_of_lt Nat.and_le_left ha
theorem rt_lt {x k : Nat} (hx : W64 x) : W64 (rt x k) := by
  rw [rt_def]
  refine Nat.or_lt_two_pow (Nat.mod_lt _ (by decide)) (Nat.lt_of_le_of_lt (Nat.div_le_self _ _) hx)
/-- The tables: which bits the rounds turn, how far the lanes are turned. -/
def kRounds : List Nat := [1, 32898, 9223372036854808714, 9223372039002292224, 32907, 2147483649, 9223372039002292353, 9223372036854808585, 138, 136, 2147516425, 2147483658, 2147516555, 9223372036854775947, 9223372036854808713, 9223372036854808579, 9223372036854808578, 9223372036854775936, 32778, 9223372039002259466, 9223372039002292353, 9223372036854808704, 2147483649, 9223372039002292232]
def kTurns : List Nat := [0, 1, 62, 28, 27, 36, 44, 6, 55, 20, 3, 10, 43, 25, 39, 41, 45, 15, 21, 8, 18, 2, 61, 56, 14]
def L64 (l : List Nat) (n : Nat) : Prop := l.length = n ∧ ∀ x ∈ l, W64 x
theorem L64_get {l : List Nat} {n : Nat} (h : L64 l n) (i : Nat) : W64 (l.getD i 0) := getD_lt (by decide) h.2 i
theorem L64_set {l : List Nat} {n : Nat} (h : L64 l n) (i : Nat) {x : Nat} (hx : W64 x) : L64 (l.set i x) n := by
  refine ⟨by rw [List.length_set]; exact h.1, fun y hy => ?_⟩
  rcases List.mem_or_eq_of_mem_set hy with h1 | h1
  · exact h.2 y h1
  · rw [h1]; exact hx
section
/-- The column sums behind i lanes. -/
noncomputable def thC (a : List Nat) : Nat → List Nat
  | 0 => [0, 0, 0, 0, 0]
  | i + 1 => (thC a i).set (i % 5) (xo ((thC a i).getD (i % 5) 0) (a.getD i 0))
noncomputable def roV (a c : List Nat) (i : Nat) : Nat := rt (xo (xo (a.getD i 0) (c.getD ((i % 5 + 4) % 5) 0)) (rt (c.getD ((i % 5 + 1) % 5) 0) 1)) (kTurns.getD i 0)
noncomputable def roB (a c : List Nat) : Nat → List Nat
  | 0 => [0, 0, 0, 0, 0, 0, 0, 0, 0, 0, 0, 0, 0, 0, 0, 0, 0, 0, 0, 0, 0, 0, 0, 0, 0]
  | i + 1 => (roB a c i).set (i / 5 + 5 * ((2 * (i % 5) + 3 * (i / 5)) % 5)) (roV a c i)
noncomputable def chV (b : List Nat) (i : Nat) : Nat := xo (b.getD i 0) (an (xo 18446744073709551615 (b.getD ((i % 5 + 1) % 5 + 5 * (i / 5)) 0)) (b.getD ((i % 5 + 2) % 5 + 5 * (i / 5)) 0))
noncomputable def chA (a b : List Nat) : Nat → List Nat
  | 0 => a
  | i + 1 => (chA a b i).set i (chV b i)
noncomputable def thF (a : List Nat) : List Nat := hid (thC a 25)
noncomputable def roF (a c : List Nat) : List Nat := hid (roB a c 25)
noncomputable def chF (a b : List Nat) : List Nat := hid (chA a b 25)
noncomputable def roundK (a : List Nat) (k : Nat) : List Nat := (chF a (roF a (thF a))).set 0 (xo ((chF a (roF a (thF a))).getD 0 0) k)
noncomputable def turnTo (a : List Nat) : Nat → List Nat
  | 0 => a
  | i + 1 => roundK (turnTo a i) (kRounds.getD i 0)
end
theorem thC_ok {a : List Nat} (ha : L64 a 25) : ∀ i, L64 (thC a i) 5
  | 0 => ⟨rfl, by intro x hx; simp only [thC, List.mem_cons, List.not_mem_nil, or_false, or_self] at hx; subst hx; unfold W64; decide⟩
  | i + 1 => L64_set (thC_ok ha i) _ (xo_lt (L64_get (thC_ok ha i) _) (L64_get ha _))
theorem roV_ok {a c : List Nat} (ha : L64 a 25) (hc : L64 c 5) (i : Nat) : W64 (roV a c i) := rt_lt (xo_lt (xo_lt (L64_get ha _) (L64_get hc _)) (rt_lt (L64_get hc _)))
theorem roB_ok {a c : List Nat} (ha : L64 a 25) (hc : L64 c 5) : ∀ i, L64 (roB a c i) 25
  | 0 => ⟨rfl, by intro x hx; simp only [roB, List.mem_cons, List.not_mem_nil, or_false, or_self] at hx; subst hx; unfold W64; decide⟩
  | i + 1 => L64_set (roB_ok ha hc i) _ (roV_ok ha hc i)
theorem chV_ok {b : List Nat} (hb : L64 b 25) (i : Nat) : W64 (chV b i) := xo_lt (L64_get hb _) (an_lt (xo_lt (by unfold W64; decide) (L64_get hb _)))
theorem chA_ok {a b : List Nat} (ha : L64 a 25) (hb : L64 b 25) : ∀ i, L64 (chA a b i) 25
  | 0 => ha
  | i + 1 => L64_set (chA_ok ha hb i) _ (chV_ok hb i)
theorem kRounds_ok : L64 kRounds 24 := ⟨rfl, by unfold W64 kRounds; decide⟩
theorem roundK_ok {a : List Nat} (ha : L64 a 25) {k : Nat} (hk : W64 k) : L64 (roundK a k) 25 := by
  have h : L64 (chF a (roF a (thF a))) 25 := by
    unfold chF roF thF
    rw [hid_eq, hid_eq, hid_eq]
    exact chA_ok ha (roB_ok ha (thC_ok ha 25) 25) 25
  exact L64_set h _ (xo_lt (L64_get h _) hk)
theorem turnTo_ok {a : List Nat} (ha : L64 a 25) : ∀ i, L64 (turnTo a i) 25
  | 0 => ha
  | i + 1 => roundK_ok (turnTo_ok ha i) (L64_get kRounds_ok _)
theorem turnS_ex : ∃ f : List Nat → List Nat, ∀ a, f a = turnTo a 24 := ⟨_, fun _ => rfl⟩
/-- The lanes behind all rounds. -/
noncomputable def turnS : List Nat → List Nat := Classical.choose turnS_ex
theorem turnS_def (a : List Nat) : turnS a = turnTo a 24 := Classical.choose_spec turnS_ex a
theorem turnS_ok {a : List Nat} (ha : L64 a 25) : L64 (turnS a) 25 := by rw [turnS_def]; exact turnTo_ok ha 24
end Go.Proofs.YtidkdlaihmpjfaaDoor
namespace Go.Proofs.YtidkdlaihmpjfaaDoor
set_option linter.unusedVariables false
set_option linter.unusedSimpArgs false
set_option linter.unusedSectionVars false
open Go.ChangeShapes Go.WideShapes Go.ChangeAt Go.RowKit Go.Joins
set_option maxRecDepth 10000
theorem rot_fn {x k : Nat} (hx : W64 x) (hk : k < 64) : FnV Tryd.prog G0 42 [nI .u64 x, nI .i64 k] (nI .u64 (rt x k)) := by
  have e1 : wS .u64 (k : Int) = (k : Int) := ws_u64n (by omega) (by omega)
  have e2 : bitS .and .u64 (k : Int) 63 = (k : Int) := by
    have := u64_and (x := k) (y := 63) (by omega) (by decide)
    rw [show (63 : Nat) = 2 ^ 6 - 1 from rfl, Nat.and_two_pow_sub_one_eq_mod, Nat.mod_eq_of_lt (by omega)] at this
    exact this
  have e3 : wS .u64 (64 - (k : Int)) = ((64 - k : Nat) : Int) := by rw [ws_u64n (by omega) (by omega)]; omega
  have e4 : wS .u64 ((x : Int) * 2 ^ min (k : Int).toNat IntKind.u64.bits) = ((x * 2 ^ k % 18446744073709551616 : Nat) : Int) := by
    rw [shl_val (k := .u64) (x := (x : Int)) (n := k) (by simp only [IntKind.bits]; omega), ← wS_eq, ws_u64, ← Int.natCast_mul]
    exact (Int.natCast_emod _ _).symm
  have e5 : ((x : Int)).fdiv (2 ^ min ((64 - k : Nat) : Int).toNat IntKind.u64.bits) = ((x / 2 ^ (64 - k) : Nat) : Int) := shr_val (k := .u64) (x := x) (n := 64 - k) (by simp only [IntKind.bits]; omega)
  have e6 : bitS .or .u64 ((x * 2 ^ k % 18446744073709551616 : Nat) : Int) ((x / 2 ^ (64 - k) : Nat) : Int) = ((rt x k : Nat) : Int) := by
    rw [u64_or (Nat.mod_lt _ (by decide)) (Nat.lt_of_le_of_lt (Nat.div_le_self _ _) hx), rt_def]
    rfl
  refine fn_of_vwp Γok Tryd.func42 (by kernel_rfl) rfl (by simp [Tryd.ntmps42]) (wpv_ok Γok (by kernel_rfl) _ _ _ ?_); conv => whnf
  rw [e1, e2]
  conv => whnf
  try (refine ⟨by kernel_rfl, ?_⟩; conv => whnf)
  rw [e4, e3]
  conv => whnf
  try (refine ⟨by kernel_rfl, ?_⟩; conv => whnf)
  rw [e5, e6]
  exact ⟨_, rfl, rfl⟩
theorem turns_ix {j i : Nat} (h : j = i) (hi : i < 25) : gc1[j]? = some (nI .i64 ((kTurns.getD i 0 : Nat) : Int)) := by
  subst h
  show (kTurns.map fun (x : Nat) => nI .i64 x)[j]? = _
  have hl : j < kTurns.length := hi
  simp [List.getElem?_eq_getElem hl, List.getD]
set_option maxHeartbeats 8000000 in
theorem turn_fn {a : List Nat} (ha : L64 a 25) : FnV Tryd.prog G0 14 [.agg (words a)] (.agg (words (turnS a))) := by
  obtain ⟨hl, hb⟩ := id ha
  refine fn_of_vwp Γok Tryd.func14 (by kernel_rfl) rfl (by simp [Tryd.ntmps14]) (wpv_ok Γok (by kernel_rfl) _ _ _ ?_); conv => whnf
  refine vloop_invK G0ok [(0, some 0), (1, some 1)] 2 (X := Nat) (fun i => [(17, nI .i64 i), (16, .agg (words kRounds)), (2, .ptr 1 0), (1, .ptr 0 0)])
    (fun i => [(0, some (words (turnTo a i))), (1, some (List.replicate 25 (nI .u64 0)))]) (fun i => i ≤ 24) (fun i => 24 - i) 0 rfl ⟨⟨_, rfl, conv_nI (rfl)⟩, ⟨_, rfl, .same (words_noHs _)⟩, ⟨_, rfl, .ptr rfl⟩, ⟨_, rfl, .ptr rfl⟩, trivial⟩ ⟨.inr ⟨_, _, rfl, rfl, convs_eq rfl (words_noHs _)⟩, .inr ⟨_, _, rfl, rfl, convs_eq rfl (rfl)⟩, trivial⟩ (Nat.zero_le _) ?_
  intro i hi
  dsimp only at hi ⊢
  have hA := turnTo_ok ha i
  refine wpv_ok Γok (by kernel_rfl) _ _ _ ?_; conv => whnf
  refine bool_cases (fun hc => ?_) (fun hc => ?_)
  · have hc := of_decide_eq_true hc
    conv => whnf
    try (refine ⟨by kernel_rfl, ?_⟩; conv => whnf)
    refine bindP_intro (vpure_index (vindex_at (n := 24) (i := i) rfl rfl rfl rfl (by omega) (words_ix rfl (by rw [kRounds_ok.1]; omega)))) ?_
    conv => whnf
    try (refine ⟨by kernel_rfl, ?_⟩; conv => whnf)
    refine bindP_intro (load_agg rfl rfl (by rw [words_length]; exact hA.1)) ?_
    conv => whnf
    try (refine ⟨by kernel_rfl, ?_⟩; conv => whnf)
    have hstep : turnTo a (i + 1) = roundK (turnTo a i) (kRounds.getD i 0) := rfl
    have hk : W64 (kRounds.getD i 0) := L64_get kRounds_ok i
    refine gen_ex (turnTo a i) fun A eA => ?_
    refine gen_ex (kRounds.getD i 0) fun K eK => ?_
    rw [← eA, ← eK] at hstep
    rw [← eA] at hA ⊢
    rw [← eK] at hk ⊢
    clear eA eK
    refine vloop_invK G0ok [(0, some 0), (1, some 1), (2, some 2)] 3 (X := Nat) (fun j => [(21, nI .i64 j), (20, .agg (words A)), (17, nI .i64 i), (16, .agg (words kRounds)), (5, .ptr 2 0), (4, nI .u64 K), (2, .ptr 1 0), (1, .ptr 0 0)])
      (fun j => [(0, some (words A)), (1, some (List.replicate 25 (nI .u64 0))), (2, some (words (thC A j)))]) (fun j => j ≤ 25) (fun j => 25 - j) 0 rfl ⟨⟨_, rfl, conv_nI (rfl)⟩, ⟨_, rfl, .same (words_noHs _)⟩, ⟨_, rfl, conv_nI (rfl)⟩, ⟨_, rfl, .same (words_noHs _)⟩, ⟨_, rfl, .ptr rfl⟩, ⟨_, rfl, conv_nI (rfl)⟩, ⟨_, rfl, .ptr rfl⟩, ⟨_, rfl, .ptr rfl⟩, trivial⟩ ⟨.inr ⟨_, _, rfl, rfl, convs_eq rfl (words_noHs _)⟩, .inr ⟨_, _, rfl, rfl, convs_eq rfl (rfl)⟩, .inr ⟨_, _, rfl, rfl, convs_eq rfl (rfl)⟩, trivial⟩ (Nat.zero_le _) ?_
    intro j hj
    (try dsimp only at hj); (try dsimp only)
    have hC := thC_ok hA j
    refine wpv_ok Γok (by kernel_rfl) _ _ _ ?_; conv => whnf
    refine bool_cases (fun hc => ?_) (fun hc => ?_)
    · have hc := of_decide_eq_true hc
      conv => whnf
      try (refine ⟨by kernel_rfl, ?_⟩; conv => whnf)
      refine bindP_intro (vpure_index (vindex_at (n := 25) (i := j) rfl rfl rfl rfl (by omega) (words_ix rfl (by rw [hA.1]; omega)))) ?_
      conv => whnf
      try (refine ⟨by kernel_rfl, ?_⟩; conv => whnf)
      rw [Int.tmod_eq_emod_of_nonneg (by omega), show (j : Int) % 5 = ((j % 5 : Nat) : Int) from by omega]
      conv => whnf
      try (refine ⟨by kernel_rfl, ?_⟩; conv => whnf)
      refine bindP_intro (if_pos (inB_ok (by omega) (by omega))) ?_; conv => whnf
      refine bindP_intro (words_ix (i := j % 5) (by dsimp only; omega) (by rw [hC.1]; omega)) ?_
      conv => whnf
      try (refine ⟨by kernel_rfl, ?_⟩; conv => whnf)
      rw [u64_xor (L64_get hC _) (L64_get hA _), ← xo_def]
      conv => whnf
      try (refine ⟨by kernel_rfl, ?_⟩; conv => whnf)
      refine bindP_intro (if_pos (inB_ok (by omega) (by omega))) ?_; conv => whnf
      refine onlyIf_intro (by simp [words_length, hC.1] <;> omega) ?_; (conv => whnf); (try (refine ⟨by kernel_rfl, ?_⟩; conv => whnf))
      refine next_round (y := j) G0ok (j + 1) [(0, some 0), (1, some 1), (2, some 2)] rfl ⟨⟨_, rfl, conv_nI (ws_i64 (by omega) (by omega))⟩, ⟨_, rfl, .same (words_noHs _)⟩, ⟨_, rfl, conv_nI (rfl)⟩, ⟨_, rfl, .same (words_noHs _)⟩, ⟨_, rfl, .ptr rfl⟩, ⟨_, rfl, conv_nI (rfl)⟩, ⟨_, rfl, .ptr rfl⟩, ⟨_, rfl, .ptr rfl⟩, trivial⟩ ⟨.inr ⟨_, _, rfl, rfl, convs_eq rfl (words_noHs _)⟩, .inr ⟨_, _, rfl, rfl, convs_eq rfl (rfl)⟩, .inr ⟨_, _, rfl, rfl, convs_eq (splice_words (by dsimp only; omega) (by rw [hC.1]; omega)) (words_noHs _)⟩, trivial⟩ (by omega) (by omega)
    · have eC : thC A j = thF A := by unfold thF; rw [hid_eq, show j = 25 by have := of_decide_eq_false hc; omega]
      rw [eC] at hC ⊢
      clear eC hc hj
      conv => whnf
      try (refine ⟨by kernel_rfl, ?_⟩; conv => whnf)
      have hstep : turnTo a (i + 1) = (chF A (roF A (thF A))).set 0 (xo ((chF A (roF A (thF A))).getD 0 0) K) := hstep
      refine gen_ex (thF A) fun C eC => ?_
      rw [← eC] at hC hstep ⊢
      clear eC
      refine vloop_invK G0ok [(0, some 0), (1, some 1), (2, some 2), (3, some 3)] 4 (X := Nat) (fun j => [(33, nI .i64 j), (17, nI .i64 i), (16, .agg (words kRounds)), (8, .ptr 3 0), (5, .ptr 2 0), (4, nI .u64 K), (2, .ptr 1 0), (1, .ptr 0 0)])
        (fun j => [(0, some (words A)), (1, some (List.replicate 25 (nI .u64 0))), (2, some (words C)), (3, some (words (roB A C j)))]) (fun j => j ≤ 25) (fun j => 25 - j) 0 rfl ⟨⟨_, rfl, conv_nI (rfl)⟩, ⟨_, rfl, conv_nI (rfl)⟩, ⟨_, rfl, .same (words_noHs _)⟩, ⟨_, rfl, .ptr rfl⟩, ⟨_, rfl, .ptr rfl⟩, ⟨_, rfl, conv_nI (rfl)⟩, ⟨_, rfl, .ptr rfl⟩, ⟨_, rfl, .ptr rfl⟩, trivial⟩ ⟨.inr ⟨_, _, rfl, rfl, convs_eq rfl (words_noHs _)⟩, .inr ⟨_, _, rfl, rfl, convs_eq rfl (rfl)⟩, .inr ⟨_, _, rfl, rfl, convs_eq rfl (words_noHs _)⟩, .inr ⟨_, _, rfl, rfl, convs_eq rfl (rfl)⟩, trivial⟩ (Nat.zero_le _) ?_
      intro j hj
      (try dsimp only at hj); (try dsimp only)
      have hB := roB_ok hA hC j
      refine wpv_ok Γok (by kernel_rfl) _ _ _ ?_; conv => whnf
      refine bool_cases (fun hc => ?_) (fun hc => ?_)
      · have hc := of_decide_eq_true hc
        have h4 : (wS .i64 (((j % 5 : Nat) : Int) + 4)).tmod 5 = (((j % 5 + 4) % 5 : Nat) : Int) := by
          rw [ws_i64 (by omega) (by omega), Int.tmod_eq_emod_of_nonneg (by omega)]; omega
        have h1 : (wS .i64 (((j % 5 : Nat) : Int) + 1)).tmod 5 = (((j % 5 + 1) % 5 : Nat) : Int) := by
          rw [ws_i64 (by omega) (by omega), Int.tmod_eq_emod_of_nonneg (by omega)]; omega
        have hx : wS .i64 (((j / 5 : Nat) : Int) + wS .i64 (5 * (wS .i64 (wS .i64 (2 * ((j % 5 : Nat) : Int)) + wS .i64 (3 * ((j / 5 : Nat) : Int)))).tmod 5)) = ((j / 5 + 5 * ((2 * (j % 5) + 3 * (j / 5)) % 5) : Nat) : Int) := by
          rw [ws_i64 (x := 2 * ((j % 5 : Nat) : Int)) (by omega) (by omega), ws_i64 (x := 3 * ((j / 5 : Nat) : Int)) (by omega) (by omega), ws_i64 (x := 2 * ((j % 5 : Nat) : Int) + 3 * ((j / 5 : Nat) : Int)) (by omega) (by omega), Int.tmod_eq_emod_of_nonneg (by omega), ws_i64 (x := 5 * _) (by omega) (by omega), ws_i64 (by omega) (by omega)]
          omega
        have lA := L64_get hA j
        have lC4 := L64_get hC ((j % 5 + 4) % 5)
        have lC1 := L64_get hC ((j % 5 + 1) % 5)
        have r1 := rot_fn (k := 1) lC1 (by decide)
        have lV := xo_lt (xo_lt lA lC4) (rt_lt (k := 1) lC1)
        have lT : kTurns.getD j 0 < 64 := getD_lt (by decide) (by decide) j
        have r2 := rot_fn lV lT
        conv => whnf
        try (refine ⟨by kernel_rfl, ?_⟩; conv => whnf)
        rw [Int.tmod_eq_emod_of_nonneg (by omega), show (j : Int) % 5 = ((j % 5 : Nat) : Int) from by omega, Int.tdiv_eq_ediv_of_nonneg (by omega), ws_i64 (x := (j : Int) / 5) (by omega) (by omega), show (j : Int) / 5 = ((j / 5 : Nat) : Int) from by omega]
        conv => whnf
        try (refine ⟨by kernel_rfl, ?_⟩; conv => whnf)
        refine bindP_intro (if_pos (inB_ok (by omega) (by omega))) ?_; conv => whnf
        refine bindP_intro (words_ix (i := j) (by dsimp only; omega) (by rw [hA.1]; omega)) ?_
        conv => whnf
        try (refine ⟨by kernel_rfl, ?_⟩; conv => whnf)
        rw [h4]
        conv => whnf
        try (refine ⟨by kernel_rfl, ?_⟩; conv => whnf)
        refine bindP_intro (if_pos (inB_ok (by omega) (by omega))) ?_; conv => whnf
        refine bindP_intro (words_ix (i := (j % 5 + 4) % 5) (by dsimp only; omega) (by rw [hC.1]; omega)) ?_
        conv => whnf
        try (refine ⟨by kernel_rfl, ?_⟩; conv => whnf)
        rw [h1]
        conv => whnf
        try (refine ⟨by kernel_rfl, ?_⟩; conv => whnf)
        refine bindP_intro (if_pos (inB_ok (by omega) (by omega))) ?_; conv => whnf
        refine bindP_intro (words_ix (i := (j % 5 + 1) % 5) (by dsimp only; omega) (by rw [hC.1]; omega)) ?_
        conv => whnf
        try (refine ⟨by kernel_rfl, ?_⟩; conv => whnf)
        refine ⟨_, ret_of_fn G0ok (r1) (by first | rfl | simp only [noHs, noH, nI, bI, Bool.and_self, Bool.and_true, Bool.true_and, ]) (by first | rfl | simp only [noHs, noH, nI, bI, Bool.and_self, Bool.and_true, Bool.true_and, ]), ?_⟩; (conv => whnf); (try (refine ⟨by kernel_rfl, ?_⟩; conv => whnf))
        rw [u64_xor lA lC4, ← xo_def, u64_xor (xo_lt lA lC4) (rt_lt (k := 1) lC1), ← xo_def]
        conv => whnf
        try (refine ⟨by kernel_rfl, ?_⟩; conv => whnf)
        refine bindP_intro (if_pos (inB_ok (by omega) (by omega))) ?_; conv => whnf
        refine bindP_intro (turns_ix (i := j) (by dsimp only; omega) (by omega)) ?_
        conv => whnf
        try (refine ⟨by kernel_rfl, ?_⟩; conv => whnf)
        refine ⟨_, ret_of_fn G0ok (r2) (by first | rfl | simp only [noHs, noH, nI, bI, Bool.and_self, Bool.and_true, Bool.true_and, ]) (by first | rfl | simp only [noHs, noH, nI, bI, Bool.and_self, Bool.and_true, Bool.true_and, ]), ?_⟩; (conv => whnf); (try (refine ⟨by kernel_rfl, ?_⟩; conv => whnf))
        rw [hx]
        conv => whnf
        try (refine ⟨by kernel_rfl, ?_⟩; conv => whnf)
        refine bindP_intro (if_pos (inB_ok (by omega) (by omega))) ?_; conv => whnf
        refine onlyIf_intro (by simp [words_length, hB.1] <;> omega) ?_; (conv => whnf); (try (refine ⟨by kernel_rfl, ?_⟩; conv => whnf))
        refine next_round (y := j) G0ok (j + 1) [(0, some 0), (1, some 1), (2, some 2), (3, some 3)] rfl ⟨⟨_, rfl, conv_nI (ws_i64 (by omega) (by omega))⟩, ⟨_, rfl, conv_nI (rfl)⟩, ⟨_, rfl, .same (words_noHs _)⟩, ⟨_, rfl, .ptr rfl⟩, ⟨_, rfl, .ptr rfl⟩, ⟨_, rfl, conv_nI (rfl)⟩, ⟨_, rfl, .ptr rfl⟩, ⟨_, rfl, .ptr rfl⟩, trivial⟩ ⟨.inr ⟨_, _, rfl, rfl, convs_eq rfl (words_noHs _)⟩, .inr ⟨_, _, rfl, rfl, convs_eq rfl (rfl)⟩, .inr ⟨_, _, rfl, rfl, convs_eq rfl (words_noHs _)⟩, .inr ⟨_, _, rfl, rfl, convs_eq (splice_words (by dsimp only; omega) (by rw [hB.1]; omega)) (words_noHs _)⟩, trivial⟩ (by omega) (by omega)
      · have eB : roB A C j = roF A C := by unfold roF; rw [hid_eq, show j = 25 by have := of_decide_eq_false hc; omega]
        rw [eB] at hB ⊢
        clear eB hc hj
        conv => whnf
        try (refine ⟨by kernel_rfl, ?_⟩; conv => whnf)
        refine gen_ex (roF A C) fun B eB => ?_
        rw [← eB] at hB hstep ⊢
        clear eB
        refine vloop_invK G0ok [(0, some 0), (1, some 1), (2, some 3)] 3 (X := Nat) (fun j => [(72, nI .i64 j), (17, nI .i64 i), (16, .agg (words kRounds)), (8, .ptr 2 0), (4, nI .u64 K), (2, .ptr 1 0), (1, .ptr 0 0)])
          (fun j => [(0, some (words (chA A B j))), (1, some (List.replicate 25 (nI .u64 0))), (2, some (words B))]) (fun j => j ≤ 25) (fun j => 25 - j) 0 rfl ⟨⟨_, rfl, conv_nI (rfl)⟩, ⟨_, rfl, conv_nI (rfl)⟩, ⟨_, rfl, .same (words_noHs _)⟩, ⟨_, rfl, .ptr rfl⟩, ⟨_, rfl, conv_nI (rfl)⟩, ⟨_, rfl, .ptr rfl⟩, ⟨_, rfl, .ptr rfl⟩, trivial⟩ ⟨.inr ⟨_, _, rfl, rfl, convs_eq rfl (words_noHs _)⟩, .inr ⟨_, _, rfl, rfl, convs_eq rfl (rfl)⟩, .inr ⟨_, _, rfl, rfl, convs_eq rfl (words_noHs _)⟩, trivial⟩ (Nat.zero_le _) ?_
        intro j hj
        (try dsimp only at hj); (try dsimp only)
        have hD := chA_ok hA hB j
        refine wpv_ok Γok (by kernel_rfl) _ _ _ ?_; conv => whnf
        refine bool_cases (fun hc => ?_) (fun hc => ?_)
        · have hc := of_decide_eq_true hc
          have h1 : wS .i64 ((wS .i64 (((j % 5 : Nat) : Int) + 1)).tmod 5 + wS .i64 (5 * ((j / 5 : Nat) : Int))) = (((j % 5 + 1) % 5 + 5 * (j / 5) : Nat) : Int) := by
            rw [ws_i64 (x := ((j % 5 : Nat) : Int) + 1) (by omega) (by omega), ws_i64 (x := 5 * ((j / 5 : Nat) : Int)) (by omega) (by omega), Int.tmod_eq_emod_of_nonneg (by omega), ws_i64 (by omega) (by omega)]
            omega
          have h2 : wS .i64 ((wS .i64 (((j % 5 : Nat) : Int) + 2)).tmod 5 + wS .i64 (5 * ((j / 5 : Nat) : Int))) = (((j % 5 + 2) % 5 + 5 * (j / 5) : Nat) : Int) := by
            rw [ws_i64 (x := ((j % 5 : Nat) : Int) + 2) (by omega) (by omega), ws_i64 (x := 5 * ((j / 5 : Nat) : Int)) (by omega) (by omega), Int.tmod_eq_emod_of_nonneg (by omega), ws_i64 (by omega) (by omega)]
            omega
          have lB := L64_get hB j
          have lB1 := L64_get hB ((j % 5 + 1) % 5 + 5 * (j / 5))
          have lB2 := L64_get hB ((j % 5 + 2) % 5 + 5 * (j / 5))
          have lM : W64 18446744073709551615 := by unfold W64; decide
          have ex := u64_xor lM lB1
          conv => whnf
          try (refine ⟨by kernel_rfl, ?_⟩; conv => whnf)
          rw [Int.tmod_eq_emod_of_nonneg (by omega), show (j : Int) % 5 = ((j % 5 : Nat) : Int) from by omega, Int.tdiv_eq_ediv_of_nonneg (by omega), ws_i64 (x := (j : Int) / 5) (by omega) (by omega), show (j : Int) / 5 = ((j / 5 : Nat) : Int) from by omega]
          conv => whnf
          try (refine ⟨by kernel_rfl, ?_⟩; conv => whnf)
          refine bindP_intro (if_pos (inB_ok (by omega) (by omega))) ?_; conv => whnf
          refine bindP_intro (words_ix (i := j) (by dsimp only; omega) (by rw [hB.1]; omega)) ?_
          conv => whnf
          try (refine ⟨by kernel_rfl, ?_⟩; conv => whnf)
          rw [h1]
          conv => whnf
          try (refine ⟨by kernel_rfl, ?_⟩; conv => whnf)
          refine bindP_intro (if_pos (inB_ok (by omega) (by omega))) ?_; conv => whnf
          refine bindP_intro (words_ix (i := (j % 5 + 1) % 5 + 5 * (j / 5)) (by dsimp only; omega) (by rw [hB.1]; omega)) ?_
          conv => whnf
          try (refine ⟨by kernel_rfl, ?_⟩; conv => whnf)
          rw [h2]
          conv => whnf
          try (refine ⟨by kernel_rfl, ?_⟩; conv => whnf)
          refine bindP_intro (if_pos (inB_ok (by omega) (by omega))) ?_; conv => whnf
          refine bindP_intro (words_ix (i := (j % 5 + 2) % 5 + 5 * (j / 5)) (by dsimp only; omega) (by rw [hB.1]; omega)) ?_
          conv => whnf
          try (refine ⟨by kernel_rfl, ?_⟩; conv => whnf)
          rw [show bitS .xor .u64 (if IntKind.u64.signed = true then -1 else IntKind.u64.max) ((B.getD ((j % 5 + 1) % 5 + 5 * (j / 5)) 0 : Nat) : Int) = ((18446744073709551615 ^^^ B.getD ((j % 5 + 1) % 5 + 5 * (j / 5)) 0 : Nat) : Int) from ex, ← xo_def, u64_and (xo_lt lM lB1) lB2, ← an_def, u64_xor lB (an_lt (xo_lt lM lB1)), ← xo_def]
          conv => whnf
          try (refine ⟨by kernel_rfl, ?_⟩; conv => whnf)
          refine bindP_intro (if_pos (inB_ok (by omega) (by omega))) ?_; conv => whnf
          refine onlyIf_intro (by simp [words_length, hD.1] <;> omega) ?_; (conv => whnf); (try (refine ⟨by kernel_rfl, ?_⟩; conv => whnf))
          refine next_round (y := j) G0ok (j + 1) [(0, some 0), (1, some 1), (2, some 2)] rfl ⟨⟨_, rfl, conv_nI (ws_i64 (by omega) (by omega))⟩, ⟨_, rfl, conv_nI (rfl)⟩, ⟨_, rfl, .same (words_noHs _)⟩, ⟨_, rfl, .ptr rfl⟩, ⟨_, rfl, conv_nI (rfl)⟩, ⟨_, rfl, .ptr rfl⟩, ⟨_, rfl, .ptr rfl⟩, trivial⟩ ⟨.inr ⟨_, _, rfl, rfl, convs_eq (splice_words (by dsimp only; omega) (by rw [hD.1]; omega)) (words_noHs _)⟩, .inr ⟨_, _, rfl, rfl, convs_eq rfl (rfl)⟩, .inr ⟨_, _, rfl, rfl, convs_eq rfl (words_noHs _)⟩, trivial⟩ (by omega) (by omega)
        · have eD : chA A B j = chF A B := by unfold chF; rw [hid_eq, show j = 25 by have := of_decide_eq_false hc; omega]
          rw [eD] at hD ⊢
          clear eD hc hj
          refine gen_ex (chF A B) fun D eD => ?_
          rw [← eD] at hD hstep ⊢
          clear eD
          have lD := L64_get hD 0
          conv => whnf
          try (refine ⟨by kernel_rfl, ?_⟩; conv => whnf)
          refine bindP_intro (words_ix (i := 0) (by rfl) (by rw [hD.1]; omega)) ?_
          conv => whnf
          try (refine ⟨by kernel_rfl, ?_⟩; conv => whnf)
          rw [u64_xor lD hk, ← xo_def]
          conv => whnf
          try (refine ⟨by kernel_rfl, ?_⟩; conv => whnf)
          refine onlyIf_intro (by simp [words_length, hD.1] <;> omega) ?_; (conv => whnf); (try (refine ⟨by kernel_rfl, ?_⟩; conv => whnf))
          refine next_round (y := i) G0ok (i + 1) [(0, some 0), (1, some 1)] rfl ⟨⟨_, rfl, conv_nI (ws_i64 (by omega) (by omega))⟩, ⟨_, rfl, .same (words_noHs _)⟩, ⟨_, rfl, .ptr rfl⟩, ⟨_, rfl, .ptr rfl⟩, trivial⟩ ⟨.inr ⟨_, _, rfl, rfl, convs_eq (by rw [hstep]; exact splice_words (by rfl) (by rw [hD.1]; omega)) (words_noHs _)⟩, .inr ⟨_, _, rfl, rfl, convs_eq rfl (rfl)⟩, trivial⟩ (by omega) (by omega)
  · have e24 : turnTo a i = turnS a := by rw [turnS_def, show i = 24 by have := of_decide_eq_false hc; omega]
    rw [e24] at hA ⊢
    conv => whnf
    try (refine ⟨by kernel_rfl, ?_⟩; conv => whnf)
    refine bindP_intro (load_agg rfl rfl (by rw [words_length]; exact hA.1)) ?_
    conv => whnf
    try (refine ⟨by kernel_rfl, ?_⟩; conv => whnf)
    refine onlyIf_intro (by simp [words_length, hA.1]) ?_
    conv => whnf
    try (refine ⟨by kernel_rfl, ?_⟩; conv => whnf)
    exact ⟨_, vres_one rfl (vres_cell rfl rfl (load_agg rfl rfl (by rw [words_length]; exact hA.1))), deepV_noH _ _ (words_noHs _)⟩
end Go.Proofs.YtidkdlaihmpjfaaDoor
namespace Go.Proofs.YtidkdlaihmpjfaaDoor
set_option linter.unusedVariables false
set_option linter.unusedSimpArgs false
set_option linter.unusedSectionVars false
open Go.ChangeShapes Go.WideShapes Go.ChangeAt Go.RowKit Go.Joins
set_option maxRecDepth 10000
/-- A sponge. -/
structure SpD where
  l : List Nat
  h : List Nat
  n : Nat
noncomputable def SpD.cells (s : SpD) : List VV := words s.l ++ (bts s.h ++ [nI .i64 (s.n : Int)])
noncomputable def SpD.v (s : SpD) : VV := .agg s.cells
def B8 (l : List Nat) (n : Nat) : Prop := l.length = n ∧ ∀ x ∈ l, x < 256
structure SpOk (s : SpD) : Prop where
  l : L64 s.l 25
  h : B8 s.h 136
  n : s.n < 136
  z : ∀ i, s.n ≤ i → i < 136 → s.h.getD i 0 = 0
theorem SpD.noHs (s : SpD) : Go.Proofs.YtidkdlaihmpjfaaDoor.noHs s.cells = true := noHs_app (words_noHs _) (noHs_app (bts_noHs _) rfl)
theorem SpD.len {s : SpD} (h : SpOk s) : s.cells.length = 162 := by
  unfold SpD.cells
  rw [List.length_append, List.length_append, words_length, bts_length, h.l.1, h.h.1]; rfl
theorem app_l {cs ds : List VV} {i : Nat} (h : i < cs.length) : (cs ++ ds)[i]? = cs[i]? := List.getElem?_append_left h
theorem app_r {cs ds : List VV} {i j : Nat} (h : j = cs.length + i) : (cs ++ ds)[j]? = ds[i]? := by
  subst h; rw [List.getElem?_append_right (by omega)]; congr 1; omega
theorem set_l {cs ds : List VV} {i : Nat} {x : VV} (h : i < cs.length) : (cs ++ ds).set i x = cs.set i x ++ ds := List.set_append_left _ _ h
theorem set_r {cs ds : List VV} {i j : Nat} {x : VV} (h : j = cs.length + i) : (cs ++ ds).set j x = cs ++ ds.set i x := by
  subst h; rw [List.set_append_right _ _ (by omega)]; congr 2; omega
theorem held_ix {l h : List Nat} {r : List VV} {i j : Nat} (hl : l.length = 25) (hj : j = 25 + i) (hi : i < h.length) : (words l ++ (bts h ++ r))[j]? = some (nI .u8 ((h.getD i 0 : Nat) : Int)) := by
  rw [app_r (cs := words l) (i := i) (by rw [words_length, hl]; exact hj), app_l (by rw [bts_length]; exact hi)]
  exact bts_ix rfl hi
theorem lane_ix {l : List Nat} {r : List VV} {i j : Nat} (hj : j = i) (hi : i < l.length) : (words l ++ r)[j]? = some (nI .u64 ((l.getD i 0 : Nat) : Int)) := by
  subst hj
  rw [app_l (by rw [words_length]; exact hi)]
  exact words_ix rfl hi
theorem getD_b {l : List Nat} {n : Nat} (h : B8 l n) (i : Nat) : l.getD i 0 < 256 := getD_lt (by decide) h.2 i
theorem B8_set {l : List Nat} {n : Nat} (h : B8 l n) (i : Nat) {x : Nat} (hx : x < 256) : B8 (l.set i x) n := by
  refine ⟨by rw [List.length_set]; exact h.1, fun y hy => ?_⟩
  rcases List.mem_or_eq_of_mem_set hy with h1 | h1
  · exact h.2 y h1
  · rw [h1]; exact hx
theorem n_ix {l h : List Nat} {x : VV} {j : Nat} (hl : l.length = 25) (hh : h.length = 136) (hj : j = 161) : (words l ++ (bts h ++ [x]))[j]? = some x := by
  rw [app_r (cs := words l) (i := 136) (by rw [words_length, hl]; exact hj), app_r (cs := bts h) (i := 0) (by rw [bts_length, hh])]
  rfl
theorem held_mid {l h : List Nat} {r : List VV} {n m : Nat} (hl : l.length = n) (hh : h.length = m) : ((words l ++ (bts h ++ r)).drop n).take m = bts h := by
  subst hl hh
  rw [List.drop_left' (words_length l), List.take_left' (bts_length h)]
theorem lane_mid {l : List Nat} {r : List VV} {m : Nat} (hl : l.length = m) : ((words l ++ r).drop 0).take m = words l := by
  subst hl
  rw [List.drop_zero, List.take_left' (words_length l)]
theorem conv_slE {ren : List (Nat × Option Nat)} {lkF : Nat → Option (List VV)} {h h' off off' n n' wd wd' : Nat} (hr : lkr ren h' = some (some h)) (e1 : off = off') (e2 : n = n') (e3 : wd = wd') : Conv ren lkF (.sl h off n wd) (.sl h' off' n' wd') := by subst e1 e2 e3; exact .sl hr
theorem lane_set {L : List Nat} {r : List VV} {i j x : Nat} (hj : j = i) (hi : i < L.length) : (words L ++ r).set j (VV.v (.int .u64 (x : Int))) = words (L.set i x) ++ r := by
  subst hj
  rw [set_l (by rw [words_length]; exact hi), splice_words rfl hi]
theorem held_set {l h : List Nat} {r : List VV} {i j x : Nat} (hl : l.length = 25) (hj : j = 25 + i) (hi : i < h.length) : (words l ++ (bts h ++ r)).set j (VV.v (.int .u8 (x : Int))) = words l ++ (bts (h.set i x) ++ r) := by
  rw [set_r (cs := words l) (i := i) (by rw [words_length, hl]; exact hj), set_l (by rw [bts_length]; exact hi), splice_bts rfl hi]
theorem vpure_build1 {t : TypeId} {x : Operand} {ev : Operand → VV} {r : TR} {fs : List (Nat × TypeId)} {pl : List (Nat × Nat)} {n : Nat} {new z0 rest : List VV} (ht : Γ t = some r) (hd : r.d = .struct fs) (hp : vplaces Γ fs = some pl) (h0 : pl[0]? = some (0, n))
    (hx : ev x = .agg new) (hn : new.length = n) (hz : r.zero = z0 ++ rest) (hz0 : z0.length = n) : vpure Γ (.build t #[(0, x)]) ev = some (.agg (new ++ rest)) := by
  show vbuild Γ t [(0, ev x)] = _
  unfold vbuild
  simp only [ht, hd, hp, hx, vfill, h0, cellsOf]
  rw [if_pos ⟨hn, by rw [hz, List.length_append]; omega⟩]
  simp only [splice, List.take_zero, List.nil_append, Nat.zero_add, hz]
  rw [List.drop_left' (by omega)]
theorem check_fn {s : SpD} (h : SpOk s) : FnV Tryd.prog G0 43 [s.v] (nI .i64 0) := by
  have hl := s.len h
  obtain ⟨h1, h2, h3, h4⟩ := h
  unfold SpD.v SpD.cells at *
  refine fn_of_vwp Γok Tryd.func43 (by kernel_rfl) rfl (by simp [Tryd.ntmps43]) (wpv_ok Γok (by kernel_rfl) _ _ _ ?_); conv => whnf
  refine bindP_intro (n_ix h1.1 h2.1 (by rfl)) ?_
  conv => whnf
  try (refine ⟨by kernel_rfl, ?_⟩; conv => whnf)
  rw [decide_eq_false (show ¬ (s.n : Int) < 0 by omega)]
  conv => whnf
  try (refine ⟨by kernel_rfl, ?_⟩; conv => whnf)
  refine bindP_intro (n_ix h1.1 h2.1 (by rfl)) ?_
  conv => whnf
  try (refine ⟨by kernel_rfl, ?_⟩; conv => whnf)
  rw [decide_eq_false (show ¬ (s.n : Int) ≥ 136 by omega)]
  conv => whnf
  try (refine ⟨by kernel_rfl, ?_⟩; conv => whnf)
  refine bindP_intro (n_ix h1.1 h2.1 (by rfl)) ?_
  conv => whnf
  try (refine ⟨by kernel_rfl, ?_⟩; conv => whnf)
  refine onlyIf_intro (by simp [words_length, bts_length, h1.1, h2.1, maxLen] <;> omega) ?_
  conv => whnf
  try (refine ⟨by kernel_rfl, ?_⟩; conv => whnf)
  refine vloop_invK G0ok [(0, some 0)] 1 (X := Nat) (fun j => [(18, nI .i64 j), (17, nI .i64 ((136 - s.n : Nat) : Int)), (16, .sl 0 (25 + s.n) (136 - s.n) 1), (2, nI .i64 0), (1, .ptr 0 0)])
    (fun j => [(0, some (words s.l ++ (bts s.h ++ [nI .i64 (s.n : Int)])))]) (fun j => j ≤ 136 - s.n) (fun j => 136 - s.n - j) 0 rfl ⟨⟨_, rfl, conv_nI (rfl)⟩, ⟨_, rfl, conv_nI (rfl)⟩, ⟨_, rfl, conv_slE rfl (by dsimp only; rw [if_neg (by omega)]; omega) (by dsimp only; omega) rfl⟩, ⟨_, rfl, conv_nI (rfl)⟩, ⟨_, rfl, .ptr rfl⟩, trivial⟩ ⟨.inr ⟨_, _, rfl, rfl, convs_eq rfl (SpD.noHs s)⟩, trivial⟩ (Nat.zero_le _) ?_
  intro j hj
  (try dsimp only at hj); (try dsimp only)
  refine wpv_ok Γok (by kernel_rfl) _ _ _ ?_; conv => whnf
  refine bool_cases (fun hc => ?_) (fun hc => ?_)
  · have hc := of_decide_eq_true hc
    conv => whnf
    try (refine ⟨by kernel_rfl, ?_⟩; conv => whnf)
    refine bindP_intro (if_pos (inB_ok (by omega) (by omega))) ?_; conv => whnf
    refine bindP_intro (held_ix (i := s.n + j) h1.1 (by dsimp only; omega) (by rw [h2.1]; omega)) ?_
    rw [h4 (s.n + j) (by omega) (by omega)]
    conv => whnf
    try (refine ⟨by kernel_rfl, ?_⟩; conv => whnf)
    refine next_round (y := j) G0ok (j + 1) [(0, some 0)] rfl ⟨⟨_, rfl, conv_nI (ws_i64 (by omega) (by omega))⟩, ⟨_, rfl, conv_nI (rfl)⟩, ⟨_, rfl, conv_slE rfl rfl rfl rfl⟩, ⟨_, rfl, conv_nI (rfl)⟩, ⟨_, rfl, .ptr rfl⟩, trivial⟩ ⟨.inr ⟨_, _, rfl, rfl, convs_eq rfl (SpD.noHs s)⟩, trivial⟩ (by omega) (by omega)
  · conv => whnf
    try (refine ⟨by kernel_rfl, ?_⟩; conv => whnf)
    exact ⟨_, rfl, rfl⟩
noncomputable def soTo (l h : List Nat) : Nat → List Nat
  | 0 => l
  | i + 1 => (soTo l h i).set (i / 8) (xo ((soTo l h i).getD (i / 8) 0) (h.getD i 0 * 2 ^ (8 * (i % 8))))
theorem soTo_ok {l h : List Nat} (hl : L64 l 25) (hh : B8 h 136) : ∀ i, L64 (soTo l h i) 25
  | 0 => hl
  | i + 1 => L64_set (soTo_ok hl hh i) _ (xo_lt (L64_get (soTo_ok hl hh i) _) (by
      have h1 := getD_b hh i
      have h2 : 2 ^ (8 * (i % 8)) ≤ 2 ^ 56 := Nat.pow_le_pow_right (by decide) (by omega)
      have h3 : h.getD i 0 * 2 ^ (8 * (i % 8)) ≤ 255 * 2 ^ 56 := Nat.mul_le_mul (by omega) h2
      unfold W64
      omega))
noncomputable def soF (l h : List Nat) : List Nat := hid (soTo l h 136)
theorem soF_ok {l h : List Nat} (hl : L64 l 25) (hh : B8 h 136) : L64 (soF l h) 25 := by unfold soF; rw [hid_eq]; exact soTo_ok hl hh 136
def zB (n : Nat) : List Nat := List.replicate n 0
noncomputable def soakS (l h : List Nat) : SpD := ⟨turnS (soF l h), zB 136, 0⟩
theorem soak_fn {l h : List Nat} {n : Nat} (hl : L64 l 25) (hh : B8 h 136) : FnV Tryd.prog G0 44 [(SpD.mk l h n).v] (soakS l h).v := by
  unfold soakS SpD.v SpD.cells
  dsimp only
  refine fn_of_vwp Γok Tryd.func44 (by kernel_rfl) rfl (by simp [Tryd.ntmps44]) (wpv_ok Γok (by kernel_rfl) _ _ _ ?_); conv => whnf
  refine bindP_intro (load_sub rfl rfl (by rw [List.length_append, List.length_append, words_length, bts_length, hl.1, hh.1]; exact (by decide : 25 + 136 ≤ 25 + (136 + 1))) (held_mid hl.1 hh.1)) ?_
  conv => whnf
  try (refine ⟨by kernel_rfl, ?_⟩; conv => whnf)
  refine vloop_invK G0ok [(0, some 0), (1, some 1)] 2 (X := Nat) (fun j => [(7, nI .i64 j), (6, .agg (bts h)), (2, .ptr 1 0), (1, .ptr 0 0)])
    (fun j => [(0, some (words (soTo l h j) ++ (bts h ++ [nI .i64 (n : Int)]))), (1, some (words (zB 25) ++ (bts (zB 136) ++ [nI .i64 0])))]) (fun j => j ≤ 136) (fun j => 136 - j) 0 rfl ⟨⟨_, rfl, conv_nI (rfl)⟩, ⟨_, rfl, .same (bts_noHs _)⟩, ⟨_, rfl, .ptr rfl⟩, ⟨_, rfl, .ptr rfl⟩, trivial⟩ ⟨.inr ⟨_, _, rfl, rfl, convs_eq rfl (SpD.noHs ⟨l, h, n⟩)⟩, .inr ⟨_, _, rfl, rfl, convs_eq rfl (SpD.noHs ⟨zB 25, zB 136, 0⟩)⟩, trivial⟩ (Nat.zero_le _) ?_
  intro j hj
  (try dsimp only at hj); (try dsimp only)
  have hS := soTo_ok hl hh j
  refine wpv_ok Γok (by kernel_rfl) _ _ _ ?_; conv => whnf
  refine bool_cases (fun hc => ?_) (fun hc => ?_)
  · have hc := of_decide_eq_true hc
    have hc8 := getD_b hh j
    have h2p : 2 ^ (8 * (j % 8)) ≤ 2 ^ 56 := Nat.pow_le_pow_right (by decide) (by omega)
    have h3p : h.getD j 0 * 2 ^ (8 * (j % 8)) ≤ 255 * 2 ^ 56 := Nat.mul_le_mul (by omega) h2p
    have e8 : wS .i64 (8 * (j : Int).tmod 8) = ((8 * (j % 8) : Nat) : Int) := by
      rw [Int.tmod_eq_emod_of_nonneg (by omega), ws_i64 (by omega) (by omega)]; omega
    have es : wS .u64 (((h.getD j 0 : Nat) : Int) * 2 ^ min ((8 * (j % 8) : Nat) : Int).toNat IntKind.u64.bits) = ((h.getD j 0 * 2 ^ (8 * (j % 8)) : Nat) : Int) := by
      rw [shl_val (k := .u64) (n := 8 * (j % 8)) (by simp only [IntKind.bits]; omega), ← Int.natCast_mul]
      exact u64_wrap (by omega)
    conv => whnf
    try (refine ⟨by kernel_rfl, ?_⟩; conv => whnf)
    refine bindP_intro (vpure_index (vindex_at (n := 136) (i := j) rfl rfl rfl rfl (by omega) (bts_ix rfl (by rw [hh.1]; omega)))) ?_
    conv => whnf
    try (refine ⟨by kernel_rfl, ?_⟩; conv => whnf)
    rw [Int.tdiv_eq_ediv_of_nonneg (by omega), ws_i64 (x := (j : Int) / 8) (by omega) (by omega), show (j : Int) / 8 = ((j / 8 : Nat) : Int) from by omega]
    conv => whnf
    try (refine ⟨by kernel_rfl, ?_⟩; conv => whnf)
    refine bindP_intro (if_pos (inB_ok (by omega) (by omega))) ?_; conv => whnf
    refine bindP_intro (lane_ix (i := j / 8) (by dsimp only; omega) (by rw [hS.1]; omega)) ?_
    conv => whnf
    try (refine ⟨by kernel_rfl, ?_⟩; conv => whnf)
    rw [e8, ws_u64n (x := ((h.getD j 0 : Nat) : Int)) (by omega) (by omega)]
    conv => whnf
    try (refine ⟨by kernel_rfl, ?_⟩; conv => whnf)
    rw [es, u64_xor (L64_get hS _) (by omega), ← xo_def]
    conv => whnf
    try (refine ⟨by kernel_rfl, ?_⟩; conv => whnf)
    refine bindP_intro (if_pos (inB_ok (by omega) (by omega))) ?_; conv => whnf
    refine onlyIf_intro (by simp [words_length, bts_length, hS.1, hh.1] <;> omega) ?_
    conv => whnf
    try (refine ⟨by kernel_rfl, ?_⟩; conv => whnf)
    refine next_round (y := j) G0ok (j + 1) [(0, some 0), (1, some 1)] rfl ⟨⟨_, rfl, conv_nI (ws_i64 (by omega) (by omega))⟩, ⟨_, rfl, .same (bts_noHs _)⟩, ⟨_, rfl, .ptr rfl⟩, ⟨_, rfl, .ptr rfl⟩, trivial⟩ ⟨.inr ⟨_, _, rfl, rfl, convs_eq (lane_set (by dsimp only; omega) (by rw [hS.1]; omega)) (SpD.noHs ⟨_, h, n⟩)⟩, .inr ⟨_, _, rfl, rfl, convs_eq rfl (SpD.noHs ⟨zB 25, zB 136, 0⟩)⟩, trivial⟩ (by omega) (by omega)
  · have eS : soTo l h j = soF l h := by unfold soF; rw [hid_eq, show j = 136 by have := of_decide_eq_false hc; omega]
    rw [eS] at hS ⊢
    clear eS hc hj
    refine gen_ex (soF l h) fun L eL => ?_
    rw [← eL] at hS ⊢
    have tf := turn_fn hS
    clear eL
    conv => whnf
    try (refine ⟨by kernel_rfl, ?_⟩; conv => whnf)
    refine bindP_intro (load_sub rfl rfl (by rw [List.length_append, List.length_append, words_length, bts_length, hS.1, hh.1]; exact (by decide : 0 + 25 ≤ 25 + (136 + 1))) (lane_mid hS.1)) ?_
    conv => whnf
    try (refine ⟨by kernel_rfl, ?_⟩; conv => whnf)
    refine ⟨_, ret_of_fn G0ok (tf) (by first | rfl | simp only [noHs, noH, nI, bI, Bool.and_self, Bool.and_true, Bool.true_and, words_noHs]) (by first | rfl | simp only [noHs, noH, nI, bI, Bool.and_self, Bool.and_true, Bool.true_and, words_noHs]), ?_⟩; (conv => whnf); (try (refine ⟨by kernel_rfl, ?_⟩; conv => whnf))
    refine bindP_intro (vpure_build1 (n := 25) (z0 := words (zB 25)) (rest := bts (zB 136) ++ [nI .i64 0]) rfl rfl rfl rfl rfl (by rw [words_length]; exact (turnS_ok hS).1) rfl rfl) ?_
    conv => whnf
    try (refine ⟨by kernel_rfl, ?_⟩; conv => whnf)
    have lT : (words (turnS L) ++ (bts (zB 136) ++ [nI .i64 0])).length = 162 := by rw [List.length_append, List.length_append, words_length, bts_length, (turnS_ok hS).1]; rfl
    refine onlyIf_intro (by rw [lT]; rfl) ?_
    conv => whnf
    try (refine ⟨by kernel_rfl, ?_⟩; conv => whnf)
    exact ⟨_, vres_one rfl (vres_cell rfl rfl (load_agg rfl rfl lT)), deepV_noH _ _ (SpD.noHs ⟨turnS L, zB 136, 0⟩)⟩
end Go.Proofs.YtidkdlaihmpjfaaDoor
namespace Go.Proofs.YtidkdlaihmpjfaaDoor
set_option linter.unusedVariables false
set_option linter.unusedSimpArgs false
set_option linter.unusedSectionVars false
open Go.ChangeShapes Go.WideShapes Go.ChangeAt Go.RowKit Go.Joins
set_option maxRecDepth 10000
theorem condP_t {b : Bool} {A B : Prop} (h : b = true) (k : A) : condP b A B := by subst h; exact k
theorem n_set {l h : List Nat} {x y : VV} {j : Nat} (hl : l.length = 25) (hh : h.length = 136) (hj : j = 161) : (words l ++ (bts h ++ [x])).set j y = words l ++ (bts h ++ [y]) := by
  rw [set_r (cs := words l) (i := 136) (by rw [words_length, hl]; exact hj), set_r (cs := bts h) (i := 0) (by rw [bts_length, hh])]
  rfl
noncomputable def spStep (s : SpD) (c : Nat) : SpD := if s.n + 1 = 136 then soakS s.l (s.h.set s.n c) else ⟨s.l, s.h.set s.n c, s.n + 1⟩
noncomputable def spAdd (s : SpD) (l : List Nat) : SpD := l.foldl spStep s
theorem zB_ok (n : Nat) : B8 (zB n) n := ⟨by simp [zB], fun x hx => by rw [List.eq_of_mem_replicate hx]; decide⟩
theorem zB_get (n i : Nat) : (zB n).getD i 0 = 0 := by
  unfold zB
  rw [List.getD_eq_getElem?_getD, List.getElem?_replicate]
  split <;> rfl
theorem soakS_ok {l h : List Nat} (hl : L64 l 25) (hh : B8 h 136) : SpOk (soakS l h) :=
  ⟨turnS_ok (soF_ok hl hh), zB_ok 136, by show 0 < 136; decide, fun i _ _ => zB_get 136 i⟩
theorem spStep_ok {s : SpD} (h : SpOk s) {c : Nat} (hc : c < 256) : SpOk (spStep s c) := by
  obtain ⟨h1, h2, h3, h4⟩ := h
  unfold spStep
  split
  · exact soakS_ok h1 (B8_set h2 _ hc)
  · refine ⟨h1, B8_set h2 _ hc, by show s.n + 1 < 136; omega, fun i hi hi2 => ?_⟩
    have hi : s.n + 1 ≤ i := hi
    have hg := h4 i (by omega) hi2
    show (s.h.set s.n c).getD i 0 = 0
    rw [List.getD_eq_getElem?_getD, List.getElem?_set_ne (by omega), ← List.getD_eq_getElem?_getD, hg]
theorem spAdd_ok {s : SpD} (h : SpOk s) : ∀ (l : List Nat), (∀ x ∈ l, x < 256) → SpOk (spAdd s l) := by
  intro l
  induction l generalizing s with
  | nil => intro _; exact h
  | cons c l ih => intro hl; exact ih (spStep_ok h (hl c (by simp))) (fun x hx => hl x (by simp [hx]))
theorem spAdd_snoc (s : SpD) (l : List Nat) (c : Nat) : spAdd s (l ++ [c]) = spStep (spAdd s l) c := by unfold spAdd; rw [List.foldl_append]; rfl
theorem spAdd_take {s : SpD} {l : List Nat} {j : Nat} (hj : j < l.length) : spAdd s (l.take (j + 1)) = spStep (spAdd s (l.take j)) (l.getD j 0) := by
  rw [List.take_succ_eq_append_getElem hj, spAdd_snoc]
  simp [List.getD, List.getElem?_eq_getElem hj]
set_option maxHeartbeats 4000000 in
theorem sadd_fn {s : SpD} (h : SpOk s) {l : List Nat} (hl : ∀ x ∈ l, x < 256) (hL : l.length ≤ 140737488355328) (f : Bool) : FnV Tryd.prog G0 16 [s.v, .ds f l.length (bts l)] (.tup [(spAdd s l).v, nI .i64 0]) := by
  have ck := check_fn h
  have hlen := s.len h
  have hz := s.noHs
  unfold SpD.v at *
  refine fn_of_vwp Γok Tryd.func16 (by kernel_rfl) rfl (by simp [Tryd.ntmps16]) (wpv_ok Γok (by kernel_rfl) _ _ _ ?_); conv => whnf
  refine bindP_intro (load_agg rfl rfl hlen) ?_
  conv => whnf
  try (refine ⟨by kernel_rfl, ?_⟩; conv => whnf)
  refine ⟨_, ret_of_fn G0ok (ck) (by first | rfl | simp only [noHs, noH, nI, bI, Bool.and_self, Bool.and_true, Bool.true_and, hz]) (by first | rfl | simp only [noHs, noH, nI, bI, Bool.and_self, Bool.and_true, Bool.true_and, hz]), ?_⟩; (conv => whnf); (try (refine ⟨by kernel_rfl, ?_⟩; conv => whnf))
  refine vloop_invK G0ok [(0, some 0), (1, some 1)] 2 (X := Nat) (fun j => [(17, nI .i64 j), (16, nI .i64 l.length), (15, .ds f l.length (bts l)), (5, nI .i64 0), (4, .ptr 1 0), (2, .ptr 0 0)])
    (fun j => [(0, some (spAdd s (l.take j)).cells), (1, some (words (zB 25) ++ (bts (zB 136) ++ [nI .i64 0])))]) (fun j => j ≤ l.length) (fun j => l.length - j) 0 rfl ⟨⟨_, rfl, conv_nI (rfl)⟩, ⟨_, rfl, conv_nI (rfl)⟩, ⟨_, rfl, .same (bts_noHs _)⟩, ⟨_, rfl, conv_nI (rfl)⟩, ⟨_, rfl, .ptr rfl⟩, ⟨_, rfl, .ptr rfl⟩, trivial⟩ ⟨.inr ⟨_, _, rfl, rfl, convs_eq rfl (hz)⟩, .inr ⟨_, _, rfl, rfl, convs_eq rfl (SpD.noHs ⟨zB 25, zB 136, 0⟩)⟩, trivial⟩ (Nat.zero_le _) ?_
  intro j hj
  (try dsimp only at hj); (try dsimp only)
  have hS := spAdd_ok h (l.take j) (fun x hx => hl x (List.mem_of_mem_take hx))
  refine wpv_ok Γok (by kernel_rfl) _ _ _ ?_; conv => whnf
  refine bool_cases (fun hc => ?_) (fun hc => ?_)
  · have hc := of_decide_eq_true hc
    have hstep := spAdd_take (s := s) (l := l) (j := j) (by omega)
    have hc8 : l.getD j 0 < 256 := getD_lt (by decide) hl j
    refine gen_ex (spAdd s (l.take j)) fun S eS => ?_
    rw [← eS] at hS hstep ⊢
    clear eS
    have hSn := SpD.noHs S
    have hSl := S.len hS
    obtain ⟨g1, g2, g3, g4⟩ := hS
    unfold SpD.cells at hSn hSl ⊢
    conv => whnf
    try (refine ⟨by kernel_rfl, ?_⟩; conv => whnf)
    refine bindP_intro (if_pos (inB_ok (by omega) (by omega))) ?_; conv => whnf
    refine bindP_intro (bts_ix (i := j) (by dsimp only; omega) (by omega)) ?_
    conv => whnf
    try (refine ⟨by kernel_rfl, ?_⟩; conv => whnf)
    refine bindP_intro (n_ix g1.1 g2.1 (by rfl)) ?_
    conv => whnf
    try (refine ⟨by kernel_rfl, ?_⟩; conv => whnf)
    refine bindP_intro (if_pos (inB_ok (by omega) (by omega))) ?_; conv => whnf
    refine onlyIf_intro (by simp [words_length, bts_length, g1.1, g2.1] <;> omega) ?_
    conv => whnf
    try (refine ⟨by kernel_rfl, ?_⟩; conv => whnf)
    rw [held_set (i := S.n) g1.1 (by dsimp only; omega) (by rw [g2.1]; omega)]
    have g5 := B8_set g2 S.n hc8
    refine bindP_intro (n_ix g1.1 g5.1 (by rfl)) ?_
    conv => whnf
    try (refine ⟨by kernel_rfl, ?_⟩; conv => whnf)
    rw [ws_i64 (x := (S.n : Int) + 1) (by omega) (by omega)]
    refine onlyIf_intro (by simp [words_length, bts_length, g1.1, g2.1] <;> omega) ?_
    conv => whnf
    try (refine ⟨by kernel_rfl, ?_⟩; conv => whnf)
    rw [n_set g1.1 g5.1 (by rfl)]
    refine bindP_intro (n_ix g1.1 g5.1 (by rfl)) ?_
    conv => whnf
    try (refine ⟨by kernel_rfl, ?_⟩; conv => whnf)
    unfold spStep at hstep
    by_cases hN : S.n + 1 = 136
    · rw [if_pos hN] at hstep
      rw [show ((S.n : Int) + 1 == 136) = true from by rw [show (S.n : Int) + 1 = 136 by omega]; rfl]
      conv => whnf
      try (refine ⟨by kernel_rfl, ?_⟩; conv => whnf)
      have lS2 : (words S.l ++ (bts (S.h.set S.n (l.getD j 0)) ++ [nI .i64 ((S.n : Int) + 1)])).length = 162 := by rw [List.length_append, List.length_append, words_length, bts_length, g1.1, g5.1]; rfl
      refine bindP_intro (load_agg rfl rfl lS2) ?_
      conv => whnf
      try (refine ⟨by kernel_rfl, ?_⟩; conv => whnf)
      have sk := soak_fn (n := S.n + 1) g1 g5
      unfold SpD.v SpD.cells at sk
      dsimp only at sk
      rw [show ((S.n + 1 : Nat) : Int) = (S.n : Int) + 1 from by omega] at sk
      refine ⟨_, ret_of_fn G0ok (sk) (by first | rfl | simp only [noHs, noH, nI, bI, Bool.and_self, Bool.and_true, Bool.true_and, noHs_app, words_noHs, bts_noHs]) (by first | rfl | simp only [noHs, noH, nI, bI, Bool.and_self, Bool.and_true, Bool.true_and, noHs_app, words_noHs, bts_noHs]), ?_⟩; (conv => whnf); (try (refine ⟨by kernel_rfl, ?_⟩; conv => whnf))
      have lK := (soakS S.l (S.h.set S.n (l.getD j 0))).len (soakS_ok g1 g5)
      unfold SpD.cells at lK
      refine onlyIf_intro (by rw [lK]; exact (congrArg (fun n => Nat.beq 162 162 && Nat.ble (0 + 162) n) lS2).trans rfl) ?_
      conv => whnf
      try (refine ⟨by kernel_rfl, ?_⟩; conv => whnf)
      refine condP_t ((congrArg (fun n => Nat.beq 0 0 && Nat.beq 162 n) lS2).trans rfl) ?_
      conv => whnf
      try (refine ⟨by kernel_rfl, ?_⟩; conv => whnf)
      refine next_round (y := j) G0ok (j + 1) [(0, some 0), (1, some 1)] rfl ⟨⟨_, rfl, conv_nI (ws_i64 (by omega) (by omega))⟩, ⟨_, rfl, conv_nI (rfl)⟩, ⟨_, rfl, .same (bts_noHs _)⟩, ⟨_, rfl, conv_nI (rfl)⟩, ⟨_, rfl, .ptr rfl⟩, ⟨_, rfl, .ptr rfl⟩, trivial⟩ ⟨.inr ⟨_, _, rfl, rfl, convs_eq (by rw [hstep] <;> rfl) (SpD.noHs _)⟩, .inr ⟨_, _, rfl, rfl, convs_eq rfl (SpD.noHs ⟨zB 25, zB 136, 0⟩)⟩, trivial⟩ (by omega) (by omega)
    · rw [if_neg hN] at hstep
      rw [show ((S.n : Int) + 1 == 136) = false from by simp; omega]
      conv => whnf
      try (refine ⟨by kernel_rfl, ?_⟩; conv => whnf)
      refine next_round (y := j) G0ok (j + 1) [(0, some 0), (1, some 1)] rfl ⟨⟨_, rfl, conv_nI (ws_i64 (by omega) (by omega))⟩, ⟨_, rfl, conv_nI (rfl)⟩, ⟨_, rfl, .same (bts_noHs _)⟩, ⟨_, rfl, conv_nI (rfl)⟩, ⟨_, rfl, .ptr rfl⟩, ⟨_, rfl, .ptr rfl⟩, trivial⟩ ⟨.inr ⟨_, _, rfl, rfl, convs_eq (by rw [hstep] <;> rfl) (SpD.noHs _)⟩, .inr ⟨_, _, rfl, rfl, convs_eq rfl (SpD.noHs ⟨zB 25, zB 136, 0⟩)⟩, trivial⟩ (by omega) (by omega)
  · rw [show l.take j = l from List.take_of_length_le (by have := of_decide_eq_false hc; omega)] at hS ⊢
    conv => whnf
    try (refine ⟨by kernel_rfl, ?_⟩; conv => whnf)
    refine bindP_intro (load_agg rfl rfl ((spAdd s l).len hS)) ?_
    conv => whnf
    try (refine ⟨by kernel_rfl, ?_⟩; conv => whnf)
    refine onlyIf_intro (by rw [(spAdd s l).len hS]; rfl) ?_
    conv => whnf
    try (refine ⟨by kernel_rfl, ?_⟩; conv => whnf)
    exact ⟨_, vres_two rfl (vres_cell rfl rfl (load_agg rfl rfl ((spAdd s l).len hS))) rfl, deepV_noH _ _ (by simp only [noH, Go.Proofs.YtidkdlaihmpjfaaDoor.noHs, SpD.noHs, Bool.and_true])⟩
/-- The sum's bytes out of the lanes. -/
def outB (l : List Nat) (i : Nat) : List Nat := (List.range 32).map fun j => if j < i then l.getD (j / 8) 0 / 2 ^ (8 * (j % 8)) % 256 else 0
theorem outB_len (l : List Nat) (i : Nat) : (outB l i).length = 32 := by simp [outB]
theorem outB_zero (l : List Nat) : bts (outB l 0) = List.replicate 32 (nI .u8 0) := by
  refine List.ext_getElem (by rw [bts_length, outB_len, List.length_replicate]) fun j h1 h2 => ?_
  rw [List.getElem_replicate]
  simp only [bts, outB, List.getElem_map, List.getElem_range]
  rw [if_neg (by omega)]
  rfl
theorem outB_step (l : List Nat) {i : Nat} (hi : i < 32) : (outB l i).set i (l.getD (i / 8) 0 / 2 ^ (8 * (i % 8)) % 256) = outB l (i + 1) := by
  refine List.ext_getElem (by simp [outB]) fun j h1 h2 => ?_
  have hj : j < 32 := by simpa [outB] using h2
  simp only [outB, List.getElem_set, List.getElem_map, List.getElem_range]
  by_cases e : i = j
  · subst e; rw [if_pos rfl, if_pos (by omega)]
  · rw [if_neg e]
    by_cases e2 : j < i
    · rw [if_pos e2, if_pos (by omega)]
    · rw [if_neg e2, if_neg (by omega)]
theorem outB_lt (l : List Nat) (i : Nat) : ∀ x ∈ outB l i, x < 256 := by
  intro x hx
  obtain ⟨j, _, rfl⟩ := List.mem_map.1 hx
  split <;> omega
/-- What is held at the end. -/
noncomputable def endH (s : SpD) : List Nat := (s.h.set s.n 1).set 135 (hid ((s.h.set s.n 1).getD 135 0 ||| 128))
noncomputable def spEnd (s : SpD) : List Nat := hid (outB (turnS (soF s.l (endH s))) 32)
/-- The sum of bytes. -/
noncomputable def kSum (l : List Nat) : List Nat := spEnd (spAdd ⟨zB 25, zB 136, 0⟩ l)
theorem endH_ok {s : SpD} (h : SpOk s) : B8 (endH s) 136 := by
  have h1 := B8_set h.h s.n (x := 1) (by decide)
  refine B8_set h1 _ ?_
  rw [hid_eq]
  exact Nat.or_lt_two_pow (n := 8) (getD_b h1 135) (by decide)
set_option maxHeartbeats 4000000 in
theorem send_fn {s : SpD} (h : SpOk s) : FnV Tryd.prog G0 17 [s.v] (.tup [.agg (bts (spEnd s)), nI .i64 0]) := by
  have ck := check_fn h
  have hlen := s.len h
  have hz := s.noHs
  have hE := endH_ok h
  obtain ⟨g1, g2, g3, g4⟩ := h
  have g5 := B8_set g2 s.n (x := 1) (by decide)
  unfold SpD.v at *
  refine fn_of_vwp Γok Tryd.func17 (by kernel_rfl) rfl (by simp [Tryd.ntmps17]) (wpv_ok Γok (by kernel_rfl) _ _ _ ?_); conv => whnf
  refine bindP_intro (load_agg rfl rfl hlen) ?_
  conv => whnf
  try (refine ⟨by kernel_rfl, ?_⟩; conv => whnf)
  refine ⟨_, ret_of_fn G0ok (ck) (by first | rfl | simp only [noHs, noH, nI, bI, Bool.and_self, Bool.and_true, Bool.true_and, hz]) (by first | rfl | simp only [noHs, noH, nI, bI, Bool.and_self, Bool.and_true, Bool.true_and, hz]), ?_⟩; (conv => whnf); (try (refine ⟨by kernel_rfl, ?_⟩; conv => whnf))
  unfold SpD.cells
  refine bindP_intro (n_ix g1.1 g2.1 (by rfl)) ?_
  conv => whnf
  try (refine ⟨by kernel_rfl, ?_⟩; conv => whnf)
  refine bindP_intro (if_pos (inB_ok (by omega) (by omega))) ?_; conv => whnf
  refine onlyIf_intro (by simp [words_length, bts_length, g1.1, g2.1] <;> omega) ?_
  conv => whnf
  try (refine ⟨by kernel_rfl, ?_⟩; conv => whnf)
  rw [show (VV.v (Value.int .u8 1)) = VV.v (Value.int .u8 ((1 : Nat) : Int)) from rfl, held_set (i := s.n) g1.1 (by dsimp only; omega) (by rw [g2.1]; omega)]
  have e8 : bitS .or .u8 (((s.h.set s.n 1).getD 135 0 : Nat) : Int) 128 = ((hid ((s.h.set s.n 1).getD 135 0 ||| 128) : Nat) : Int) := by
    have := bitS_or (k := .u8) (x := (s.h.set s.n 1).getD 135 0) (y := 128) (getD_b g5 135) (by decide)
    rw [hid_eq]
    refine this.trans ?_
    have hlt : (s.h.set s.n 1).getD 135 0 ||| 128 < 256 := Nat.or_lt_two_pow (n := 8) (getD_b g5 135) (by decide)
    rw [← wS_eq, ws_u8]
    omega
  have sk := soak_fn (n := s.n) g1 hE
  refine bindP_intro (held_ix (i := 135) g1.1 (by rfl) (by rw [g5.1]; omega)) ?_
  conv => whnf
  try (refine ⟨by kernel_rfl, ?_⟩; conv => whnf)
  rw [e8]
  refine onlyIf_intro (by simp [words_length, bts_length, g1.1, g2.1] <;> omega) ?_
  conv => whnf
  try (refine ⟨by kernel_rfl, ?_⟩; conv => whnf)
  rw [held_set (i := 135) g1.1 (by rfl) (by rw [g5.1]; omega)]
  have eE : (s.h.set s.n 1).set 135 (hid ((s.h.set s.n 1).getD 135 0 ||| 128)) = endH s := rfl
  rw [eE]
  unfold spEnd
  refine gen_ex (endH s) fun EH eEH => ?_
  rw [← eEH] at hE sk ⊢
  clear eEH eE e8
  have lE : (words s.l ++ (bts EH ++ [nI .i64 (s.n : Int)])).length = 162 := by rw [List.length_append, List.length_append, words_length, bts_length, g1.1, hE.1]; rfl
  refine bindP_intro (load_agg rfl rfl lE) ?_
  conv => whnf
  try (refine ⟨by kernel_rfl, ?_⟩; conv => whnf)
  unfold SpD.v SpD.cells at sk
  dsimp only at sk
  refine ⟨_, ret_of_fn G0ok (sk) (by first | rfl | simp only [noHs, noH, nI, bI, Bool.and_self, Bool.and_true, Bool.true_and, noHs_app, words_noHs, bts_noHs]) (by first | rfl | simp only [noHs, noH, nI, bI, Bool.and_self, Bool.and_true, Bool.true_and, noHs_app, words_noHs, bts_noHs]), ?_⟩; (conv => whnf); (try (refine ⟨by kernel_rfl, ?_⟩; conv => whnf))
  have lK := (soakS s.l EH).len (soakS_ok g1 hE)
  unfold SpD.cells at lK
  refine onlyIf_intro (by rw [lK]; exact (congrArg (fun n => Nat.beq 162 162 && Nat.ble (0 + 162) n) lE).trans rfl) ?_
  conv => whnf
  try (refine ⟨by kernel_rfl, ?_⟩; conv => whnf)
  refine condP_t ((congrArg (fun n => Nat.beq 0 0 && Nat.beq 162 n) lE).trans rfl) ?_
  conv => whnf
  try (refine ⟨by kernel_rfl, ?_⟩; conv => whnf)
  unfold soakS
  dsimp only
  have hT := turnS_ok (soF_ok g1 hE)
  refine gen_ex (turnS (soF s.l EH)) fun L eL => ?_
  rw [← eL] at hT ⊢
  clear eL
  refine vloop_invK G0ok [(0, some 0), (1, some 1), (2, some 2)] 3 (X := Nat) (fun j => [(25, nI .i64 j), (5, .ptr 2 0), (4, nI .i64 0), (3, nI .i64 0), (2, .ptr 1 0), (1, .ptr 0 0)])
    (fun j => [(0, some (words L ++ (bts (zB 136) ++ [nI .i64 ((0 : Nat) : Int)]))), (1, some (List.replicate 32 (nI .u8 0))), (2, some (bts (outB L j)))]) (fun j => j ≤ 32) (fun j => 32 - j) 0 rfl ⟨⟨_, rfl, conv_nI (rfl)⟩, ⟨_, rfl, .ptr rfl⟩, ⟨_, rfl, conv_nI (rfl)⟩, ⟨_, rfl, conv_nI (rfl)⟩, ⟨_, rfl, .ptr rfl⟩, ⟨_, rfl, .ptr rfl⟩, trivial⟩ ⟨.inr ⟨_, _, rfl, rfl, convs_eq rfl (SpD.noHs ⟨L, zB 136, 0⟩)⟩, .inr ⟨_, _, rfl, rfl, convs_eq rfl (rfl)⟩, .inr ⟨_, _, rfl, rfl, convs_eq ((outB_zero L).symm) (bts_noHs _)⟩, trivial⟩ (Nat.zero_le _) ?_
  intro j hj
  (try dsimp only at hj); (try dsimp only)
  refine wpv_ok Γok (by kernel_rfl) _ _ _ ?_; conv => whnf
  refine bool_cases (fun hc => ?_) (fun hc => ?_)
  · have hc := of_decide_eq_true hc
    have lx := L64_get hT (j / 8)
    have e8 : wS .i64 (8 * (j : Int).tmod 8) = ((8 * (j % 8) : Nat) : Int) := by
      rw [Int.tmod_eq_emod_of_nonneg (by omega), ws_i64 (by omega) (by omega)]; omega
    conv => whnf
    try (refine ⟨by kernel_rfl, ?_⟩; conv => whnf)
    rw [Int.tdiv_eq_ediv_of_nonneg (by omega), ws_i64 (x := (j : Int) / 8) (by omega) (by omega), show (j : Int) / 8 = ((j / 8 : Nat) : Int) from by omega]
    conv => whnf
    try (refine ⟨by kernel_rfl, ?_⟩; conv => whnf)
    refine bindP_intro (if_pos (inB_ok (by omega) (by omega))) ?_; conv => whnf
    refine bindP_intro (lane_ix (i := j / 8) (by dsimp only; omega) (by rw [hT.1]; omega)) ?_
    conv => whnf
    try (refine ⟨by kernel_rfl, ?_⟩; conv => whnf)
    rw [e8]
    conv => whnf
    try (refine ⟨by kernel_rfl, ?_⟩; conv => whnf)
    rw [shr_val (k := .u64) (n := 8 * (j % 8)) (by simp only [IntKind.bits]; omega), ws_u8, show ((L.getD (j / 8) 0 / 2 ^ (8 * (j % 8)) : Nat) : Int) % 256 = ((L.getD (j / 8) 0 / 2 ^ (8 * (j % 8)) % 256 : Nat) : Int) from by omega]
    conv => whnf
    try (refine ⟨by kernel_rfl, ?_⟩; conv => whnf)
    refine bindP_intro (if_pos (inB_ok (by omega) (by omega))) ?_; conv => whnf
    refine onlyIf_intro (by simp [bts_length, outB_len] <;> omega) ?_
    conv => whnf
    try (refine ⟨by kernel_rfl, ?_⟩; conv => whnf)
    refine next_round (y := j) G0ok (j + 1) [(0, some 0), (1, some 1), (2, some 2)] rfl ⟨⟨_, rfl, conv_nI (ws_i64 (by omega) (by omega))⟩, ⟨_, rfl, .ptr rfl⟩, ⟨_, rfl, conv_nI (rfl)⟩, ⟨_, rfl, conv_nI (rfl)⟩, ⟨_, rfl, .ptr rfl⟩, ⟨_, rfl, .ptr rfl⟩, trivial⟩ ⟨.inr ⟨_, _, rfl, rfl, convs_eq rfl (SpD.noHs ⟨L, zB 136, 0⟩)⟩, .inr ⟨_, _, rfl, rfl, convs_eq rfl (rfl)⟩, .inr ⟨_, _, rfl, rfl, convs_eq ((splice_bts (i := j) (by dsimp only; omega) (by rw [outB_len]; omega)).trans (congrArg bts (outB_step L (by omega)))) (bts_noHs _)⟩, trivial⟩ (by omega) (by omega)
  · have eO : outB L j = hid (outB L 32) := by rw [hid_eq, show j = 32 by have := of_decide_eq_false hc; omega]
    have lO : (bts (hid (outB L 32))).length = 32 := by rw [hid_eq, bts_length, outB_len]
    rw [eO]
    clear eO hc hj
    conv => whnf
    try (refine ⟨by kernel_rfl, ?_⟩; conv => whnf)
    refine bindP_intro (load_agg rfl rfl lO) ?_
    conv => whnf
    try (refine ⟨by kernel_rfl, ?_⟩; conv => whnf)
    refine onlyIf_intro (by rw [lO]; rfl) ?_
    conv => whnf
    try (refine ⟨by kernel_rfl, ?_⟩; conv => whnf)
    exact ⟨_, vres_two rfl (vres_cell rfl rfl (load_agg rfl rfl lO)) rfl, deepV_noH _ _ (by simp only [noH, noHs, bts_noHs, Bool.and_true])⟩
theorem begin_fn : FnV Tryd.prog G0 15 [] (SpD.mk (zB 25) (zB 136) 0).v := by
  unfold SpD.v SpD.cells
  refine fn_of_vwp Γok Tryd.func15 (by kernel_rfl) rfl (by simp [Tryd.ntmps15]) (wpv_ok Γok (by kernel_rfl) _ _ _ ?_); conv => whnf
  exact ⟨_, rfl, rfl⟩
theorem sum_fn {l : List Nat} (hl : ∀ x ∈ l, x < 256) (hL : l.length ≤ 140737488355328) (f : Bool) : FnV Tryd.prog G0 18 [.ds f l.length (bts l)] (.agg (bts (kSum l))) := by
  have hz : SpOk ⟨zB 25, zB 136, 0⟩ := ⟨⟨by decide, fun x hx => by rw [List.eq_of_mem_replicate hx]; unfold W64; decide⟩, zB_ok 136, by show 0 < 136; decide, fun i _ _ => zB_get 136 i⟩
  have a := sadd_fn hz hl hL f
  have hs := spAdd_ok hz l hl
  have e := send_fn hs
  have hn := SpD.noHs (spAdd ⟨zB 25, zB 136, 0⟩ l)
  unfold kSum
  unfold SpD.v at a e
  refine gen_ex (spAdd ⟨zB 25, zB 136, 0⟩ l) fun S eS => ?_
  rw [← eS] at a e hs hn ⊢
  clear eS
  have lS := S.len hs
  have lE : (bts (spEnd S)).length = 32 := by unfold spEnd; rw [hid_eq, bts_length, outB_len]
  have b := begin_fn
  unfold SpD.v at b
  have hn0 := SpD.noHs ⟨zB 25, zB 136, 0⟩
  refine fn_of_vwp Γok Tryd.func18 (by kernel_rfl) rfl (by simp [Tryd.ntmps18]) (wpv_ok Γok (by kernel_rfl) _ _ _ ?_); conv => whnf
  refine ⟨_, ret_of_fn G0ok (b) (by first | rfl | simp only [noHs, noH, nI, bI, Bool.and_self, Bool.and_true, Bool.true_and, ]) (by first | rfl | simp only [noHs, noH, nI, bI, Bool.and_self, Bool.and_true, Bool.true_and, ]), ?_⟩; (conv => whnf); (try (refine ⟨by kernel_rfl, ?_⟩; conv => whnf))
  refine ⟨_, ret_of_fn G0ok (a) (by first | rfl | simp only [noHs, noH, nI, bI, Bool.and_self, Bool.and_true, Bool.true_and, bts_noHs, hn0, hn]) (by first | rfl | simp only [noHs, noH, nI, bI, Bool.and_self, Bool.and_true, Bool.true_and, bts_noHs, hn0, hn]), ?_⟩; (conv => whnf); (try (refine ⟨by kernel_rfl, ?_⟩; conv => whnf))
  refine onlyIf_intro (by rw [lS]; rfl) ?_
  conv => whnf
  try (refine ⟨by kernel_rfl, ?_⟩; conv => whnf)
  refine bindP_intro (load_agg rfl rfl lS) ?_
  conv => whnf
  try (refine ⟨by kernel_rfl, ?_⟩; conv => whnf)
  refine ⟨_, ret_of_fn G0ok (e) (by first | rfl | simp only [noHs, noH, nI, bI, Bool.and_self, Bool.and_true, Bool.true_and, bts_noHs, hn]) (by first | rfl | simp only [noHs, noH, nI, bI, Bool.and_self, Bool.and_true, Bool.true_and, bts_noHs, hn]), ?_⟩; (conv => whnf); (try (refine ⟨by kernel_rfl, ?_⟩; conv => whnf))
  refine onlyIf_intro (by rw [lE]; rfl) ?_
  conv => whnf
  try (refine ⟨by kernel_rfl, ?_⟩; conv => whnf)
  refine bindP_intro (load_agg rfl rfl lE) ?_
  conv => whnf
  try (refine ⟨by kernel_rfl, ?_⟩; conv => whnf)
  refine onlyIf_intro (by rw [lE]; rfl) ?_
  conv => whnf
  try (refine ⟨by kernel_rfl, ?_⟩; conv => whnf)
  exact ⟨_, vres_one rfl (vres_cell rfl rfl (load_agg rfl rfl lE)), deepV_noH _ _ (bts_noHs _)⟩
end Go.Proofs.YtidkdlaihmpjfaaDoor
namespace Go.Proofs.YtidkdlaihmpjfaaDoor
set_option linter.unusedVariables false
set_option linter.unusedSimpArgs false
set_option linter.unusedSectionVars false
open Go.ChangeShapes Go.WideShapes Go.ChangeAt Go.RowKit Go.Joins
set_option maxRecDepth 10000
/-- The bytes of a number, the highest one first. -/
noncomputable def nB (n : Nat) : List Nat := hid (btsTo [lim n 0, lim n 1, lim n 2, lim n 3] 32)
theorem nB_len (n : Nat) : (nB n).length = 32 := by unfold nB; rw [hid_eq, btsTo_length]
theorem nB_lt (n : Nat) : ∀ x ∈ nB n, x < 256 := by
  intro x hx
  unfold nB at hx
  rw [hid_eq] at hx
  obtain ⟨j, _, rfl⟩ := List.mem_map.1 hx
  split
  · unfold bt; omega
  · decide
theorem nbytes_fn (n : Nat) : FnV Tryd.prog G0 52 [uV n] (.agg (bts (nB n))) := by
  have := bytes_fn [lim n 0, lim n 1, lim n 2, lim n 3] rfl (by
    intro x hx
    have h := fun i => lim_lt n i
    rw [B64_eq] at h
    simp only [List.mem_cons, List.not_mem_nil, or_false] at hx
    rcases hx with rfl | rfl | rfl | rfl <;> exact h _)
  unfold nB
  rw [hid_eq]
  exact this
/-- The key of a point. -/
noncomputable def keyB (p : PtD) : List Nat := (kSum (nB p.x ++ nB p.y)).drop 12
theorem kS_len (l : List Nat) : (kSum l).length = 32 := by unfold kSum spEnd; rw [hid_eq, outB_len]
theorem keyB_len (p : PtD) : (keyB p).length = 20 := by unfold keyB; rw [List.length_drop, kS_len]
theorem keyOf_fn (p : PtD) : FnV Tryd.prog G0 26 [p.v] (.agg (bts (keyB p))) := by
  have b1 := nbytes_fn p.x
  have b2 := nbytes_fn p.y
  have l1 := nB_len p.x
  have l2 := nB_len p.y
  have s := sum_fn (l := nB p.x ++ nB p.y) (fun x hx => (List.mem_append.1 hx).elim (nB_lt _ x) (nB_lt _ x)) (by rw [List.length_append, l1, l2]; decide) false
  have lK : (bts (kSum (nB p.x ++ nB p.y))).length = 32 := by rw [bts_length, kS_len]
  unfold PtD.v PtD.cells
  refine fn_of_vwp Γok Tryd.func26 (by kernel_rfl) rfl (by simp [Tryd.ntmps26]) (wpv_ok Γok (by kernel_rfl) _ _ _ ?_); conv => whnf
  refine ⟨_, ret_of_fn G0ok (b1) (by first | rfl | simp only [noHs, noH, nI, bI, Bool.and_self, Bool.and_true, Bool.true_and, bts_noHs]) (by first | rfl | simp only [noHs, noH, nI, bI, Bool.and_self, Bool.and_true, Bool.true_and, bts_noHs]), ?_⟩; (conv => whnf); (try (refine ⟨by kernel_rfl, ?_⟩; conv => whnf))
  refine ⟨_, ret_of_fn G0ok (b2) (by first | rfl | simp only [noHs, noH, nI, bI, Bool.and_self, Bool.and_true, Bool.true_and, bts_noHs]) (by first | rfl | simp only [noHs, noH, nI, bI, Bool.and_self, Bool.and_true, Bool.true_and, bts_noHs]), ?_⟩; (conv => whnf); (try (refine ⟨by kernel_rfl, ?_⟩; conv => whnf))
  have m1 : (bts (nB p.x)).length = 32 := by rw [bts_length, l1]
  have m2 : (bts (nB p.y)).length = 32 := by rw [bts_length, l2]
  refine onlyIf_intro (by rw [m1]; rfl) ?_
  conv => whnf
  try (refine ⟨by kernel_rfl, ?_⟩; conv => whnf)
  refine onlyIf_intro (by rw [m2]; rfl) ?_
  conv => whnf
  try (refine ⟨by kernel_rfl, ?_⟩; conv => whnf)
  refine onlyIf_intro (by simp [m1, maxLen]) ?_
  conv => whnf
  try (refine ⟨by kernel_rfl, ?_⟩; conv => whnf)
  refine onlyIf_intro (by simp [m2, maxLen]) ?_
  conv => whnf
  try (refine ⟨by kernel_rfl, ?_⟩; conv => whnf)
  refine bindP_intro (view_whole rfl (by rw [m2]; rfl)) ?_
  conv => whnf
  try (refine ⟨by kernel_rfl, ?_⟩; conv => whnf)
  refine onlyIf_intro (by rw [m2]; rfl) ?_
  conv => whnf
  try (refine ⟨by kernel_rfl, ?_⟩; conv => whnf)
  refine onlyIf_intro (by rw [m1]; rfl) ?_
  refine .read (nB p.x ++ nB p.y).length (bts (nB p.x ++ nB p.y)) (by rw [List.length_append, l1, l2]; rfl) (by simp [bts]) (by rw [bts_length]; exact (Nat.mul_one _).symm) (bts_noHs _) ?_
  conv => whnf
  try (refine ⟨by kernel_rfl, ?_⟩; conv => whnf)
  refine ⟨_, ret_of_fn G0ok (s) (by first | rfl | simp only [noHs, noH, nI, bI, Bool.and_self, Bool.and_true, Bool.true_and, bts_noHs]) (by first | rfl | simp only [noHs, noH, nI, bI, Bool.and_self, Bool.and_true, Bool.true_and, bts_noHs]), ?_⟩; (conv => whnf); (try (refine ⟨by kernel_rfl, ?_⟩; conv => whnf))
  refine onlyIf_intro (by rw [lK]; rfl) ?_
  conv => whnf
  try (refine ⟨by kernel_rfl, ?_⟩; conv => whnf)
  refine onlyIf_intro (by simp [lK, maxLen]) ?_
  conv => whnf
  try (refine ⟨by kernel_rfl, ?_⟩; conv => whnf)
  have hk : ((bts (kSum (nB p.x ++ nB p.y))).drop 12).take (20 * 1) = bts (keyB p) := by
    unfold keyB bts
    rw [← List.map_drop, ← List.map_take, List.take_of_length_le (by rw [List.length_drop, kS_len]; decide)]
  refine bindP_intro (view_sub rfl (by rw [lK]; decide) hk) ?_
  conv => whnf
  try (refine ⟨by kernel_rfl, ?_⟩; conv => whnf)
  have lk : (bts (keyB p)).length = 20 := by rw [bts_length, keyB_len]
  refine onlyIf_intro (by rw [lk]; rfl) ?_
  conv => whnf
  try (refine ⟨by kernel_rfl, ?_⟩; conv => whnf)
  have hs : splice (List.replicate 20 (nI .u8 0)) 0 ((bts (keyB p)).take 20) = bts (keyB p) := by
    rw [List.take_of_length_le (by omega)]
    exact splice_whole (by rw [lk]; rfl)
  refine bindP_intro (load_agg' hs rfl rfl lk) ?_
  conv => whnf
  try (refine ⟨by kernel_rfl, ?_⟩; conv => whnf)
  refine onlyIf_intro (by rw [lk]; rfl) ?_
  conv => whnf
  try (refine ⟨by kernel_rfl, ?_⟩; conv => whnf)
  exact ⟨_, vres_one rfl (vres_cell rfl rfl (load_agg rfl rfl lk)), deepV_noH _ _ (bts_noHs _)⟩
end Go.Proofs.YtidkdlaihmpjfaaDoor
namespace Go.Proofs.YtidkdlaihmpjfaaDoor
set_option linter.unusedVariables false
set_option linter.unusedSimpArgs false
set_option linter.unusedSectionVars false
open Go.ChangeShapes Go.WideShapes Go.ChangeAt Go.RowKit Go.Joins
set_option maxRecDepth 10000
/-- The nonces: those that come of sums, and the plain ones. -/
noncomputable def nonceN (c : CvD) (d : Nat) (h : List Nat) (i : Nat) : Nat := modN (if i < 256 then fromV (kSum (nB d ++ h ++ [i])) 32 else i - 255) c.N
theorem kS_lt (l : List Nat) : ∀ x ∈ kSum l, x < 256 := by unfold kSum spEnd; rw [hid_eq]; exact outB_lt _ _
theorem nonce_fn {c : CvD} {d i : Nat} {h : List Nat} (hN : c.N < T256) (hN0 : 0 < c.N) (lh : h.length = 32) (hh : ∀ x ∈ h, x < 256) (hi : i < 272) : FnV Tryd.prog G0 56 [c.v, uV d, .agg (bts h), nI .i64 i] (uV (nonceN c d h i)) := by
  have b1 := nbytes_fn d
  have l1 := nB_len d
  have m1 : (bts (nB d)).length = 32 := by rw [bts_length, l1]
  have m2 : (bts h).length = 32 := by rw [bts_length, lh]
  by_cases hp : i < 256
  · have s := sum_fn (l := nB d ++ h ++ [i]) (fun x hx => (List.mem_append.1 hx).elim (fun hx => (List.mem_append.1 hx).elim (nB_lt _ x) (hh x)) (fun hx => by rw [List.mem_singleton.1 hx]; exact hp)) (by rw [List.length_append, List.length_append, l1, lh]; exact of_decide_eq_true rfl) false
    have f := from_fn (kSum (nB d ++ h ++ [i])) (kS_len _) (kS_lt _)
    have r := rest_fn (fromV_lt (kSum (nB d ++ h ++ [i])) (kS_lt _)) hN hN0
    have e : nonceN c d h i = modN (fromV (kSum (nB d ++ h ++ [i])) 32) c.N := by unfold nonceN; rw [if_pos hp]
    rw [e]
    unfold CvD.v CvD.cells
    refine fn_of_vwp Γok Tryd.func56 (by kernel_rfl) rfl (by simp [Tryd.ntmps56]) (wpv_ok Γok (by kernel_rfl) _ _ _ ?_); conv => whnf
    rw [decide_eq_false (show ¬ (256 : Int) ≤ (i : Int) by omega)]
    conv => whnf
    try (refine ⟨by kernel_rfl, ?_⟩; conv => whnf)
    refine ⟨_, ret_of_fn G0ok (b1) (by first | rfl | simp only [noHs, noH, nI, bI, Bool.and_self, Bool.and_true, Bool.true_and, bts_noHs]) (by first | rfl | simp only [noHs, noH, nI, bI, Bool.and_self, Bool.and_true, Bool.true_and, bts_noHs]), ?_⟩; (conv => whnf); (try (refine ⟨by kernel_rfl, ?_⟩; conv => whnf))
    refine onlyIf_intro (by rw [m1]; rfl) ?_
    conv => whnf
    try (refine ⟨by kernel_rfl, ?_⟩; conv => whnf)
    refine onlyIf_intro (by simp [m1, m2, maxLen]) ?_
    conv => whnf
    try (refine ⟨by kernel_rfl, ?_⟩; conv => whnf)
    refine onlyIf_intro (by simp [m1, m2, maxLen]) ?_
    conv => whnf
    try (refine ⟨by kernel_rfl, ?_⟩; conv => whnf)
    refine bindP_intro (view_whole rfl (by rw [m2]; rfl)) ?_
    conv => whnf
    try (refine ⟨by kernel_rfl, ?_⟩; conv => whnf)
    refine onlyIf_intro (by rw [m2]; rfl) ?_
    conv => whnf
    try (refine ⟨by kernel_rfl, ?_⟩; conv => whnf)
    refine onlyIf_intro (by rw [m1]; rfl) ?_
    refine .ownAs 64 (bts (nB d ++ h)) (by rfl) (by simp [bts]) ?_
    conv => whnf
    try (refine ⟨by kernel_rfl, ?_⟩; conv => whnf)
    have hw : wS .u8 (i : Int) = i := by rw [ws_u8]; omega
    have m3 : (bts (nB d ++ h)).length = 64 := by rw [bts_length, List.length_append, l1, lh]
    refine .read 1 (bts [i]) (by rfl) (by show [nI .u8 (wS .u8 (i : Int))] = _; rw [hw]; rfl) (by rfl) (bts_noHs _) ?_
    conv => whnf
    try (refine ⟨by kernel_rfl, ?_⟩; conv => whnf)
    refine onlyIf_intro (by rw [m3]; rfl) ?_
    refine .read (nB d ++ h ++ [i]).length (bts (nB d ++ h ++ [i])) (by rw [List.length_append, List.length_append, l1, lh]; rfl) (by simp [bts]) (by rw [bts_length]; exact (Nat.mul_one _).symm) (bts_noHs _) ?_
    conv => whnf
    try (refine ⟨by kernel_rfl, ?_⟩; conv => whnf)
    refine ⟨_, ret_of_fn G0ok (s) (by first | rfl | simp only [noHs, noH, nI, bI, Bool.and_self, Bool.and_true, Bool.true_and, bts_noHs]) (by first | rfl | simp only [noHs, noH, nI, bI, Bool.and_self, Bool.and_true, Bool.true_and, bts_noHs]), ?_⟩; (conv => whnf); (try (refine ⟨by kernel_rfl, ?_⟩; conv => whnf))
    have lK : (bts (kSum (nB d ++ h ++ [i]))).length = 32 := by rw [bts_length, kS_len]
    refine onlyIf_intro (by rw [lK]; rfl) ?_
    conv => whnf
    try (refine ⟨by kernel_rfl, ?_⟩; conv => whnf)
    refine bindP_intro (load_agg rfl rfl lK) ?_
    conv => whnf
    try (refine ⟨by kernel_rfl, ?_⟩; conv => whnf)
    refine ⟨_, ret_of_fn G0ok (f) (by first | rfl | simp only [noHs, noH, nI, bI, Bool.and_self, Bool.and_true, Bool.true_and, bts_noHs]) (by first | rfl | simp only [noHs, noH, nI, bI, Bool.and_self, Bool.and_true, Bool.true_and, bts_noHs]), ?_⟩; (conv => whnf); (try (refine ⟨by kernel_rfl, ?_⟩; conv => whnf))
    refine ⟨_, ret_of_fn G0ok (r) (by first | rfl | simp only [noHs, noH, nI, bI, Bool.and_self, Bool.and_true, Bool.true_and, ]) (by first | rfl | simp only [noHs, noH, nI, bI, Bool.and_self, Bool.and_true, Bool.true_and, ]), ?_⟩; (conv => whnf); (try (refine ⟨by kernel_rfl, ?_⟩; conv => whnf))
    exact ⟨_, rfl, rfl⟩
  · have r := rest_fn (a := i - 255) (m := c.N) (by unfold T256; omega) hN hN0
    rw [show uV (i - 255) = .agg (words [i - 255, 0, 0, 0]) from congrArg VV.agg (uC_lit (by rw [B64_eq]; omega))] at r
    have e : nonceN c d h i = modN (i - 255) c.N := by unfold nonceN; rw [if_neg hp]
    rw [e]
    unfold CvD.v CvD.cells
    refine fn_of_vwp Γok Tryd.func56 (by kernel_rfl) rfl (by simp [Tryd.ntmps56]) (wpv_ok Γok (by kernel_rfl) _ _ _ ?_); conv => whnf
    rw [decide_eq_true (show (256 : Int) ≤ (i : Int) by omega)]
    conv => whnf
    try (refine ⟨by kernel_rfl, ?_⟩; conv => whnf)
    rw [ws_i64 (x := (i : Int) - 256) (by omega) (by omega), ws_i64 (x := (i : Int) - 256 + 1) (by omega) (by omega), show (i : Int) - 256 + 1 = ((i - 255 : Nat) : Int) from by omega, ws_u64n (x := ((i - 255 : Nat) : Int)) (by omega) (by omega)]
    refine ⟨_, ret_of_fn G0ok (r) (by first | rfl | simp only [noHs, noH, nI, bI, Bool.and_self, Bool.and_true, Bool.true_and, ]) (by first | rfl | simp only [noHs, noH, nI, bI, Bool.and_self, Bool.and_true, Bool.true_and, ]), ?_⟩; (conv => whnf); (try (refine ⟨by kernel_rfl, ?_⟩; conv => whnf))
    exact ⟨_, rfl, rfl⟩
end Go.Proofs.YtidkdlaihmpjfaaDoor
namespace Go.Proofs.YtidkdlaihmpjfaaDoor
set_option linter.unusedVariables false
set_option linter.unusedSimpArgs false
set_option linter.unusedSectionVars false
open Go.ChangeShapes Go.WideShapes Go.ChangeAt Go.RowKit Go.Joins
set_option maxRecDepth 10000
theorem try_zero {c : CvD} {d z : Nat} : FnV Tryd.prog G0 55 [c.v, uV d, uV z, uV 0] (.tup [.agg (words [0, 0, 0, 0, 0, 0, 0, 0] ++ [nI .i64 0]), bI false, nI .i64 0]) := by
  have ez := eq_zero (a := 0) (by decide)
  rw [decide_eq_true (show (0 : Nat) = 0 from rfl)] at ez
  unfold CvD.v CvD.cells
  refine fn_of_vwp Γok Tryd.func55 (by kernel_rfl) rfl (by simp [Tryd.ntmps55]) (wpv_ok Γok (by kernel_rfl) _ _ _ ?_); conv => whnf
  refine ⟨_, ez, ?_⟩
  conv => whnf
  try (refine ⟨by kernel_rfl, ?_⟩; conv => whnf)
  exact ⟨_, rfl, rfl⟩
noncomputable def tryR (c : CvD) (p : PtD) : Nat := modN p.x c.N
noncomputable def tryT (c : CvD) (p : PtD) (d z k : Nat) : Nat := mulM c.N (invM c.N k) (addM c.N z (mulM c.N (tryR c p) d))
/-- Without the nonce's point's number there is no signature. -/
theorem try_r0 {c : CvD} (g : Good c) (hb : OnP c c.base) {d z k : Nat} (h0 : 0 < k) (hk : k < c.N) {e : Nat → PtD} (he : Steps2 c c.base k e) {p : PtD} (ep : e k = p) (hx : p.x < T256) (hf : p.far = false) (hr : tryR c p = 0) : FnV Tryd.prog G0 55 [c.v, uV d, uV z, uV k] (.tup [.agg (words [0, 0, 0, 0, 0, 0, 0, 0] ++ [nI .i64 0]), bI false, nI .i64 0]) := by
  have hN := g.N
  have n1 := g.n1
  have ez := eq_zero (a := k) (by omega)
  rw [decide_eq_false (show ¬ k = 0 by omega)] at ez
  have m := mult_ok g hb (k := k) (by omega) he
  rw [ep] at m
  have r := rest_fn hx hN (by omega)
  rw [show modN p.x c.N = 0 from hr] at r
  have ez2 := eq_zero (a := 0) (by decide)
  rw [decide_eq_true (show (0 : Nat) = 0 from rfl)] at ez2
  unfold CvD.base at m
  unfold CvD.v CvD.cells PtD.v PtD.cells at *
  dsimp only at *
  rw [hf] at m
  refine fn_of_vwp Γok Tryd.func55 (by kernel_rfl) rfl (by simp [Tryd.ntmps55]) (wpv_ok Γok (by kernel_rfl) _ _ _ ?_); conv => whnf
  refine ⟨_, ez, ?_⟩
  conv => whnf
  try (refine ⟨by kernel_rfl, ?_⟩; conv => whnf)
  refine ⟨_, ret_of_fn G0ok (m) (by first | rfl | simp only [noHs, noH, nI, bI, Bool.and_self, Bool.and_true, Bool.true_and, ]) (by first | rfl | simp only [noHs, noH, nI, bI, Bool.and_self, Bool.and_true, Bool.true_and, ]), ?_⟩; (conv => whnf); (try (refine ⟨by kernel_rfl, ?_⟩; conv => whnf))
  refine ⟨_, ret_of_fn G0ok (r) (by first | rfl | simp only [noHs, noH, nI, bI, Bool.and_self, Bool.and_true, Bool.true_and, ]) (by first | rfl | simp only [noHs, noH, nI, bI, Bool.and_self, Bool.and_true, Bool.true_and, ]), ?_⟩; (conv => whnf); (try (refine ⟨by kernel_rfl, ?_⟩; conv => whnf))
  refine ⟨_, ez2, ?_⟩
  conv => whnf
  try (refine ⟨by kernel_rfl, ?_⟩; conv => whnf)
  exact ⟨_, rfl, rfl⟩
/-- The sum of nothing is no signature. -/
theorem try_s0 {c : CvD} (g : Good c) (hb : OnP c c.base) {d z k : Nat} (h0 : 0 < k) (hk : k < c.N) (hd : d < c.N) (hz : z < c.N) (hg : Nat.gcd k c.N = 1) {e : Nat → PtD} (he : Steps2 c c.base k e) {p : PtD} (ep : e k = p) (hx : p.x < T256) (hf : p.far = false) (hr : tryR c p ≠ 0) (hs : tryT c p d z k = 0) : FnV Tryd.prog G0 55 [c.v, uV d, uV z, uV k] (.tup [.agg (words [0, 0, 0, 0, 0, 0, 0, 0] ++ [nI .i64 0]), bI false, nI .i64 0]) := by
  have hN := g.N
  have n1 := g.n1
  have ez := eq_zero (a := k) (by omega)
  rw [decide_eq_false (show ¬ k = 0 by omega)] at ez
  have m := mult_ok g hb (k := k) (by omega) he
  rw [ep] at m
  have r := rest_fn hx hN (by omega)
  have hR : tryR c p < c.N := by unfold tryR; rw [modN_def]; exact Nat.mod_lt _ (by omega)
  rw [show modN p.x c.N = tryR c p from rfl] at r
  have ez2 := eq_zero (a := tryR c p) (by omega)
  rw [decide_eq_false hr] at ez2
  have cm := cmp_fn hx hN
  have ce : decide (0 ≤ cmpN p.x c.N) = decide (c.N ≤ p.x) := decide_eq_decide.2 cmpN_ge
  have iv := inv_all hk hN
  have hi : invR k c.N = invM c.N k := by unfold invR; rw [if_pos hg]
  have hi2 : invE k c.N = 0 := by unfold invE; rw [if_pos hg]
  have li : invM c.N k < c.N := (invM_ok hk hg).1
  rw [hi, hi2] at iv
  have rd := mul_by hR hd hN
  have sm := add_by (b := mulM c.N (tryR c p) d) hz (mulM_lt (by omega)) hN
  have st := mul_by (b := addM c.N z (mulM c.N (tryR c p) d)) li (addM_lt (by omega)) hN
  rw [show mulM c.N (invM c.N k) (addM c.N z (mulM c.N (tryR c p) d)) = 0 from hs] at st
  have ez3 := eq_zero (a := 0) (by decide)
  rw [decide_eq_true (show (0 : Nat) = 0 from rfl)] at ez3
  unfold CvD.base at m
  unfold CvD.v CvD.cells PtD.v PtD.cells at *
  dsimp only at *
  rw [hf] at m
  refine fn_of_vwp Γok Tryd.func55 (by kernel_rfl) rfl (by simp [Tryd.ntmps55]) (wpv_ok Γok (by kernel_rfl) _ _ _ ?_); conv => whnf
  refine ⟨_, ez, ?_⟩
  conv => whnf
  try (refine ⟨by kernel_rfl, ?_⟩; conv => whnf)
  refine ⟨_, ret_of_fn G0ok (m) (by first | rfl | simp only [noHs, noH, nI, bI, Bool.and_self, Bool.and_true, Bool.true_and, ]) (by first | rfl | simp only [noHs, noH, nI, bI, Bool.and_self, Bool.and_true, Bool.true_and, ]), ?_⟩; (conv => whnf); (try (refine ⟨by kernel_rfl, ?_⟩; conv => whnf))
  refine ⟨_, ret_of_fn G0ok (r) (by first | rfl | simp only [noHs, noH, nI, bI, Bool.and_self, Bool.and_true, Bool.true_and, ]) (by first | rfl | simp only [noHs, noH, nI, bI, Bool.and_self, Bool.and_true, Bool.true_and, ]), ?_⟩; (conv => whnf); (try (refine ⟨by kernel_rfl, ?_⟩; conv => whnf))
  refine ⟨_, ez2, ?_⟩
  conv => whnf
  try (refine ⟨by kernel_rfl, ?_⟩; conv => whnf)
  refine ⟨_, ret_of_fn G0ok (cm) (by first | rfl | simp only [noHs, noH, nI, bI, Bool.and_self, Bool.and_true, Bool.true_and, ]) (by first | rfl | simp only [noHs, noH, nI, bI, Bool.and_self, Bool.and_true, Bool.true_and, ]), ?_⟩; (conv => whnf); (try (refine ⟨by kernel_rfl, ?_⟩; conv => whnf))
  rw [ce]
  by_cases h : c.N ≤ p.x
  · rw [decide_eq_true h]
    conv => whnf
    try (refine ⟨by kernel_rfl, ?_⟩; conv => whnf)
    refine ⟨_, ret_of_fn G0ok (iv) (by first | rfl | simp only [noHs, noH, nI, bI, Bool.and_self, Bool.and_true, Bool.true_and, ]) (by first | rfl | simp only [noHs, noH, nI, bI, Bool.and_self, Bool.and_true, Bool.true_and, ]), ?_⟩; (conv => whnf); (try (refine ⟨by kernel_rfl, ?_⟩; conv => whnf))
    refine ⟨_, ret_of_fn G0ok (rd) (by first | rfl | simp only [noHs, noH, nI, bI, Bool.and_self, Bool.and_true, Bool.true_and, ]) (by first | rfl | simp only [noHs, noH, nI, bI, Bool.and_self, Bool.and_true, Bool.true_and, ]), ?_⟩; (conv => whnf); (try (refine ⟨by kernel_rfl, ?_⟩; conv => whnf))
    refine ⟨_, ret_of_fn G0ok (sm) (by first | rfl | simp only [noHs, noH, nI, bI, Bool.and_self, Bool.and_true, Bool.true_and, ]) (by first | rfl | simp only [noHs, noH, nI, bI, Bool.and_self, Bool.and_true, Bool.true_and, ]), ?_⟩; (conv => whnf); (try (refine ⟨by kernel_rfl, ?_⟩; conv => whnf))
    refine ⟨_, ret_of_fn G0ok (st) (by first | rfl | simp only [noHs, noH, nI, bI, Bool.and_self, Bool.and_true, Bool.true_and, ]) (by first | rfl | simp only [noHs, noH, nI, bI, Bool.and_self, Bool.and_true, Bool.true_and, ]), ?_⟩; (conv => whnf); (try (refine ⟨by kernel_rfl, ?_⟩; conv => whnf))
    refine ⟨_, ez3, ?_⟩
    conv => whnf
    try (refine ⟨by kernel_rfl, ?_⟩; conv => whnf)
    exact ⟨_, rfl, rfl⟩
  · rw [decide_eq_false h]
    conv => whnf
    try (refine ⟨by kernel_rfl, ?_⟩; conv => whnf)
    refine ⟨_, ret_of_fn G0ok (iv) (by first | rfl | simp only [noHs, noH, nI, bI, Bool.and_self, Bool.and_true, Bool.true_and, ]) (by first | rfl | simp only [noHs, noH, nI, bI, Bool.and_self, Bool.and_true, Bool.true_and, ]), ?_⟩; (conv => whnf); (try (refine ⟨by kernel_rfl, ?_⟩; conv => whnf))
    refine ⟨_, ret_of_fn G0ok (rd) (by first | rfl | simp only [noHs, noH, nI, bI, Bool.and_self, Bool.and_true, Bool.true_and, ]) (by first | rfl | simp only [noHs, noH, nI, bI, Bool.and_self, Bool.and_true, Bool.true_and, ]), ?_⟩; (conv => whnf); (try (refine ⟨by kernel_rfl, ?_⟩; conv => whnf))
    refine ⟨_, ret_of_fn G0ok (sm) (by first | rfl | simp only [noHs, noH, nI, bI, Bool.and_self, Bool.and_true, Bool.true_and, ]) (by first | rfl | simp only [noHs, noH, nI, bI, Bool.and_self, Bool.and_true, Bool.true_and, ]), ?_⟩; (conv => whnf); (try (refine ⟨by kernel_rfl, ?_⟩; conv => whnf))
    refine ⟨_, ret_of_fn G0ok (st) (by first | rfl | simp only [noHs, noH, nI, bI, Bool.and_self, Bool.and_true, Bool.true_and, ]) (by first | rfl | simp only [noHs, noH, nI, bI, Bool.and_self, Bool.and_true, Bool.true_and, ]), ?_⟩; (conv => whnf); (try (refine ⟨by kernel_rfl, ?_⟩; conv => whnf))
    refine ⟨_, ez3, ?_⟩
    conv => whnf
    try (refine ⟨by kernel_rfl, ?_⟩; conv => whnf)
    exact ⟨_, rfl, rfl⟩
/-- The signature that a nonce makes. -/
noncomputable def tryS (c : CvD) (p : PtD) (d z k : Nat) : SgD := if tryT c p d z k ≤ c.N / 2 then ⟨tryR c p, tryT c p d z k, (oddN c p : Nat)⟩ else ⟨tryR c p, c.N - tryT c p d z k, (flip1 (oddN c p) : Nat)⟩
theorem xor1 (n : Nat) (h : n < 4) : bitS .xor .i64 (n : Int) 1 = ((flip1 n : Nat) : Int) := by
  have : n = 0 ∨ n = 1 ∨ n = 2 ∨ n = 3 := by omega
  rw [bitS_eq]
  rcases this with rfl | rfl | rfl | rfl <;> rfl
theorem par_lim (a : Nat) : ((lim a 0 : Nat) : Int).tmod 2 = ((a % 2 : Nat) : Int) := by
  have h := lim0_mod (a := a) 1
  rw [if_pos (by decide)] at h
  have h4 : lim a 0 % 2 = a % 2 := h
  rw [Int.tmod_eq_emod_of_nonneg (by omega)]
  omega
/-- Else there is one. -/
theorem try_yes {c : CvD} (g : Good c) (hb : OnP c c.base) {d z k : Nat} (h0 : 0 < k) (hk : k < c.N) (hd : d < c.N) (hz : z < c.N) (hg : Nat.gcd k c.N = 1) {e : Nat → PtD} (he : Steps2 c c.base k e) {p : PtD} (ep : e k = p) (hx : p.x < T256) (hf : p.far = false) (hr : tryR c p ≠ 0) (hs : tryT c p d z k ≠ 0) : FnV Tryd.prog G0 55 [c.v, uV d, uV z, uV k] (.tup [(tryS c p d z k).v, bI true, nI .i64 0]) := by
  have hN := g.N
  have n1 := g.n1
  have ez := eq_zero (a := k) (by omega)
  rw [decide_eq_false (show ¬ k = 0 by omega)] at ez
  have m := mult_ok g hb (k := k) (by omega) he
  rw [ep] at m
  have r := rest_fn hx hN (by omega)
  have hR : tryR c p < c.N := by unfold tryR; rw [modN_def]; exact Nat.mod_lt _ (by omega)
  rw [show modN p.x c.N = tryR c p from rfl] at r
  have ez2 := eq_zero (a := tryR c p) (by omega)
  rw [decide_eq_false hr] at ez2
  have cm := cmp_fn hx hN
  have ce : decide (0 ≤ cmpN p.x c.N) = decide (c.N ≤ p.x) := decide_eq_decide.2 cmpN_ge
  have iv := inv_all hk hN
  have hi : invR k c.N = invM c.N k := by unfold invR; rw [if_pos hg]
  have hi2 : invE k c.N = 0 := by unfold invE; rw [if_pos hg]
  have li : invM c.N k < c.N := (invM_ok hk hg).1
  rw [hi, hi2] at iv
  have rd := mul_by hR hd hN
  have sm := add_by (b := mulM c.N (tryR c p) d) hz (mulM_lt (by omega)) hN
  have st := mul_by (b := addM c.N z (mulM c.N (tryR c p) d)) li (addM_lt (by omega)) hN
  rw [show mulM c.N (invM c.N k) (addM c.N z (mulM c.N (tryR c p) d)) = tryT c p d z k from rfl] at st
  have lt : tryT c p d z k < c.N := mulM_lt (by omega)
  have ez3 := eq_zero (a := tryT c p d z k) (by omega)
  rw [decide_eq_false hs] at ez3
  have lo := low_fn (s := tryT c p d z k) hN (by omega)
  have sb := sub_fn (a := c.N) (b := tryT c p d z k) hN (by omega)
  unfold CvD.base at m
  unfold CvD.v CvD.cells PtD.v PtD.cells at *
  unfold SgD.v SgD.cells
  dsimp only at *
  rw [hf] at m
  refine fn_of_vwp Γok Tryd.func55 (by kernel_rfl) rfl (by simp [Tryd.ntmps55]) (wpv_ok Γok (by kernel_rfl) _ _ _ ?_); conv => whnf
  refine ⟨_, ez, ?_⟩
  conv => whnf
  try (refine ⟨by kernel_rfl, ?_⟩; conv => whnf)
  refine ⟨_, ret_of_fn G0ok (m) (by first | rfl | simp only [noHs, noH, nI, bI, Bool.and_self, Bool.and_true, Bool.true_and, ]) (by first | rfl | simp only [noHs, noH, nI, bI, Bool.and_self, Bool.and_true, Bool.true_and, ]), ?_⟩; (conv => whnf); (try (refine ⟨by kernel_rfl, ?_⟩; conv => whnf))
  refine ⟨_, ret_of_fn G0ok (r) (by first | rfl | simp only [noHs, noH, nI, bI, Bool.and_self, Bool.and_true, Bool.true_and, ]) (by first | rfl | simp only [noHs, noH, nI, bI, Bool.and_self, Bool.and_true, Bool.true_and, ]), ?_⟩; (conv => whnf); (try (refine ⟨by kernel_rfl, ?_⟩; conv => whnf))
  refine ⟨_, ez2, ?_⟩
  conv => whnf
  try (refine ⟨by kernel_rfl, ?_⟩; conv => whnf)
  refine ⟨_, ret_of_fn G0ok (cm) (by first | rfl | simp only [noHs, noH, nI, bI, Bool.and_self, Bool.and_true, Bool.true_and, ]) (by first | rfl | simp only [noHs, noH, nI, bI, Bool.and_self, Bool.and_true, Bool.true_and, ]), ?_⟩; (conv => whnf); (try (refine ⟨by kernel_rfl, ?_⟩; conv => whnf))
  rw [ce]
  have hsb : subS c.N (tryT c p d z k) = c.N - tryT c p d z k := by rw [subS_def, show c.N + T256 - tryT c p d z k = (c.N - tryT c p d z k) + T256 by omega, Nat.add_mod_right, Nat.mod_eq_of_lt (by omega)]
  by_cases h : c.N ≤ p.x
  · rw [decide_eq_true h]
    conv => whnf
    try (refine ⟨by kernel_rfl, ?_⟩; conv => whnf)
    refine ⟨_, ret_of_fn G0ok (iv) (by first | rfl | simp only [noHs, noH, nI, bI, Bool.and_self, Bool.and_true, Bool.true_and, ]) (by first | rfl | simp only [noHs, noH, nI, bI, Bool.and_self, Bool.and_true, Bool.true_and, ]), ?_⟩; (conv => whnf); (try (refine ⟨by kernel_rfl, ?_⟩; conv => whnf))
    refine ⟨_, ret_of_fn G0ok (rd) (by first | rfl | simp only [noHs, noH, nI, bI, Bool.and_self, Bool.and_true, Bool.true_and, ]) (by first | rfl | simp only [noHs, noH, nI, bI, Bool.and_self, Bool.and_true, Bool.true_and, ]), ?_⟩; (conv => whnf); (try (refine ⟨by kernel_rfl, ?_⟩; conv => whnf))
    refine ⟨_, ret_of_fn G0ok (sm) (by first | rfl | simp only [noHs, noH, nI, bI, Bool.and_self, Bool.and_true, Bool.true_and, ]) (by first | rfl | simp only [noHs, noH, nI, bI, Bool.and_self, Bool.and_true, Bool.true_and, ]), ?_⟩; (conv => whnf); (try (refine ⟨by kernel_rfl, ?_⟩; conv => whnf))
    refine ⟨_, ret_of_fn G0ok (st) (by first | rfl | simp only [noHs, noH, nI, bI, Bool.and_self, Bool.and_true, Bool.true_and, ]) (by first | rfl | simp only [noHs, noH, nI, bI, Bool.and_self, Bool.and_true, Bool.true_and, ]), ?_⟩; (conv => whnf); (try (refine ⟨by kernel_rfl, ?_⟩; conv => whnf))
    refine ⟨_, ez3, ?_⟩
    conv => whnf
    try (refine ⟨by kernel_rfl, ?_⟩; conv => whnf)
    refine ⟨_, ret_of_fn G0ok (lo) (by first | rfl | simp only [noHs, noH, nI, bI, Bool.and_self, Bool.and_true, Bool.true_and, ]) (by first | rfl | simp only [noHs, noH, nI, bI, Bool.and_self, Bool.and_true, Bool.true_and, ]), ?_⟩; (conv => whnf); (try (refine ⟨by kernel_rfl, ?_⟩; conv => whnf))
    have eo : oddN c p = p.y % 2 + 2 := by unfold oddN; rw [if_pos h]
    by_cases hl : tryT c p d z k ≤ c.N / 2
    · rw [decide_eq_true hl]
      have et : tryS c p d z k = ⟨tryR c p, tryT c p d z k, (oddN c p : Nat)⟩ := by unfold tryS; rw [if_pos hl]
      rw [et, eo]
      conv => whnf
      try (refine ⟨by kernel_rfl, ?_⟩; conv => whnf)
      rw [par_lim, ws_i64 (x := ((p.y % 2 : Nat) : Int)) (by omega) (by omega), ws_i64 (x := ((p.y % 2 : Nat) : Int) + 2) (by omega) (by omega), show ((p.y % 2 : Nat) : Int) + 2 = ((p.y % 2 + 2 : Nat) : Int) from by omega]
      exact ⟨_, rfl, rfl⟩
    · rw [decide_eq_false hl]
      have et : tryS c p d z k = ⟨tryR c p, c.N - tryT c p d z k, (flip1 (oddN c p) : Nat)⟩ := by unfold tryS; rw [if_neg hl]
      rw [et, eo]
      conv => whnf
      try (refine ⟨by kernel_rfl, ?_⟩; conv => whnf)
      refine ⟨_, ret_of_fn G0ok (sb) (by first | rfl | simp only [noHs, noH, nI, bI, Bool.and_self, Bool.and_true, Bool.true_and, ]) (by first | rfl | simp only [noHs, noH, nI, bI, Bool.and_self, Bool.and_true, Bool.true_and, ]), ?_⟩; (conv => whnf); (try (refine ⟨by kernel_rfl, ?_⟩; conv => whnf))
      rw [hsb, par_lim, ws_i64 (x := ((p.y % 2 : Nat) : Int)) (by omega) (by omega), ws_i64 (x := ((p.y % 2 : Nat) : Int) + 2) (by omega) (by omega), show ((p.y % 2 : Nat) : Int) + 2 = ((p.y % 2 + 2 : Nat) : Int) from by omega, xor1 _ (by omega)]
      exact ⟨_, rfl, rfl⟩
  · rw [decide_eq_false h]
    conv => whnf
    try (refine ⟨by kernel_rfl, ?_⟩; conv => whnf)
    refine ⟨_, ret_of_fn G0ok (iv) (by first | rfl | simp only [noHs, noH, nI, bI, Bool.and_self, Bool.and_true, Bool.true_and, ]) (by first | rfl | simp only [noHs, noH, nI, bI, Bool.and_self, Bool.and_true, Bool.true_and, ]), ?_⟩; (conv => whnf); (try (refine ⟨by kernel_rfl, ?_⟩; conv => whnf))
    refine ⟨_, ret_of_fn G0ok (rd) (by first | rfl | simp only [noHs, noH, nI, bI, Bool.and_self, Bool.and_true, Bool.true_and, ]) (by first | rfl | simp only [noHs, noH, nI, bI, Bool.and_self, Bool.and_true, Bool.true_and, ]), ?_⟩; (conv => whnf); (try (refine ⟨by kernel_rfl, ?_⟩; conv => whnf))
    refine ⟨_, ret_of_fn G0ok (sm) (by first | rfl | simp only [noHs, noH, nI, bI, Bool.and_self, Bool.and_true, Bool.true_and, ]) (by first | rfl | simp only [noHs, noH, nI, bI, Bool.and_self, Bool.and_true, Bool.true_and, ]), ?_⟩; (conv => whnf); (try (refine ⟨by kernel_rfl, ?_⟩; conv => whnf))
    refine ⟨_, ret_of_fn G0ok (st) (by first | rfl | simp only [noHs, noH, nI, bI, Bool.and_self, Bool.and_true, Bool.true_and, ]) (by first | rfl | simp only [noHs, noH, nI, bI, Bool.and_self, Bool.and_true, Bool.true_and, ]), ?_⟩; (conv => whnf); (try (refine ⟨by kernel_rfl, ?_⟩; conv => whnf))
    refine ⟨_, ez3, ?_⟩
    conv => whnf
    try (refine ⟨by kernel_rfl, ?_⟩; conv => whnf)
    refine ⟨_, ret_of_fn G0ok (lo) (by first | rfl | simp only [noHs, noH, nI, bI, Bool.and_self, Bool.and_true, Bool.true_and, ]) (by first | rfl | simp only [noHs, noH, nI, bI, Bool.and_self, Bool.and_true, Bool.true_and, ]), ?_⟩; (conv => whnf); (try (refine ⟨by kernel_rfl, ?_⟩; conv => whnf))
    have eo : oddN c p = p.y % 2 := by unfold oddN; rw [if_neg h, Nat.add_zero]
    by_cases hl : tryT c p d z k ≤ c.N / 2
    · rw [decide_eq_true hl]
      have et : tryS c p d z k = ⟨tryR c p, tryT c p d z k, (oddN c p : Nat)⟩ := by unfold tryS; rw [if_pos hl]
      rw [et, eo]
      conv => whnf
      try (refine ⟨by kernel_rfl, ?_⟩; conv => whnf)
      rw [par_lim, ws_i64 (x := ((p.y % 2 : Nat) : Int)) (by omega) (by omega)]
      exact ⟨_, rfl, rfl⟩
    · rw [decide_eq_false hl]
      have et : tryS c p d z k = ⟨tryR c p, c.N - tryT c p d z k, (flip1 (oddN c p) : Nat)⟩ := by unfold tryS; rw [if_neg hl]
      rw [et, eo]
      conv => whnf
      try (refine ⟨by kernel_rfl, ?_⟩; conv => whnf)
      refine ⟨_, ret_of_fn G0ok (sb) (by first | rfl | simp only [noHs, noH, nI, bI, Bool.and_self, Bool.and_true, Bool.true_and, ]) (by first | rfl | simp only [noHs, noH, nI, bI, Bool.and_self, Bool.and_true, Bool.true_and, ]), ?_⟩; (conv => whnf); (try (refine ⟨by kernel_rfl, ?_⟩; conv => whnf))
      rw [hsb, par_lim, ws_i64 (x := ((p.y % 2 : Nat) : Int)) (by omega) (by omega), xor1 _ (by omega)]
      exact ⟨_, rfl, rfl⟩
end Go.Proofs.YtidkdlaihmpjfaaDoor
namespace Go.Proofs.YtidkdlaihmpjfaaDoor
set_option linter.unusedVariables false
set_option linter.unusedSimpArgs false
set_option linter.unusedSectionVars false
open Go.ChangeShapes Go.WideShapes Go.ChangeAt Go.RowKit Go.Joins
set_option maxRecDepth 10000
theorem make_ok {c : CvD} (g : Good c) {d : Nat} {h : List Nat} (h0 : 0 < d) (hd : d < c.N) (lh : h.length = 32) (hh : ∀ x ∈ h, x < 256) {m : Nat} (hm : m < 272) {s : SgD}
    (no : ∀ j, j < m → FnV Tryd.prog G0 55 [c.v, uV d, uV (modN (fromV h 32) c.N), uV (nonceN c d h j)] (.tup [.agg (words [0, 0, 0, 0, 0, 0, 0, 0] ++ [nI .i64 0]), bI false, nI .i64 0]))
    (yes : FnV Tryd.prog G0 55 [c.v, uV d, uV (modN (fromV h 32) c.N), uV (nonceN c d h m)] (.tup [s.v, bI true, nI .i64 0])) : FnV Tryd.prog G0 29 [c.v, uV d, .agg (bts h)] (.tup [s.v, nI .i64 0]) := by
  have hN := g.N
  have n1 := g.n1
  have k := chk_ok g
  have sc := secret_ok hN h0 hd
  have f := from_fn h lh hh
  have r := rest_fn (fromV_lt h hh) hN (by omega)
  have nn := fun (i : Nat) (hi : i < 272) => nonce_fn (d := d) (i := i) (h := h) hN (by omega) lh hh hi
  refine gen_ex (modN (fromV h 32) c.N) fun z ez => ?_
  rw [← ez] at r
  have no2 : ∀ j, j < m → FnV Tryd.prog G0 55 [c.v, uV d, uV z, uV (nonceN c d h j)] (.tup [.agg (words [0, 0, 0, 0, 0, 0, 0, 0] ++ [nI .i64 0]), bI false, nI .i64 0]) := by rw [ez]; exact no
  rw [← ez] at yes
  clear no ez
  unfold CvD.v CvD.cells SgD.v SgD.cells at *
  have m2 : (bts h).length = 32 := by rw [bts_length, lh]
  refine fn_of_vwp Γok Tryd.func29 (by kernel_rfl) rfl (by simp [Tryd.ntmps29]) (wpv_ok Γok (by kernel_rfl) _ _ _ ?_); conv => whnf
  refine ⟨_, ret_of_fn G0ok (k) (by first | rfl | simp only [noHs, noH, nI, bI, Bool.and_self, Bool.and_true, Bool.true_and, ]) (by first | rfl | simp only [noHs, noH, nI, bI, Bool.and_self, Bool.and_true, Bool.true_and, ]), ?_⟩; (conv => whnf); (try (refine ⟨by kernel_rfl, ?_⟩; conv => whnf))
  refine ⟨_, ret_of_fn G0ok (sc) (by first | rfl | simp only [noHs, noH, nI, bI, Bool.and_self, Bool.and_true, Bool.true_and, ]) (by first | rfl | simp only [noHs, noH, nI, bI, Bool.and_self, Bool.and_true, Bool.true_and, ]), ?_⟩; (conv => whnf); (try (refine ⟨by kernel_rfl, ?_⟩; conv => whnf))
  refine bindP_intro (load_agg rfl rfl m2) ?_
  conv => whnf
  try (refine ⟨by kernel_rfl, ?_⟩; conv => whnf)
  refine ⟨_, ret_of_fn G0ok (f) (by first | rfl | simp only [noHs, noH, nI, bI, Bool.and_self, Bool.and_true, Bool.true_and, bts_noHs]) (by first | rfl | simp only [noHs, noH, nI, bI, Bool.and_self, Bool.and_true, Bool.true_and, bts_noHs]), ?_⟩; (conv => whnf); (try (refine ⟨by kernel_rfl, ?_⟩; conv => whnf))
  refine ⟨_, ret_of_fn G0ok (r) (by first | rfl | simp only [noHs, noH, nI, bI, Bool.and_self, Bool.and_true, Bool.true_and, ]) (by first | rfl | simp only [noHs, noH, nI, bI, Bool.and_self, Bool.and_true, Bool.true_and, ]), ?_⟩; (conv => whnf); (try (refine ⟨by kernel_rfl, ?_⟩; conv => whnf))
  refine vloop_invK G0ok [(0, some 0), (1, some 1), (2, some 2), (3, some 3), (4, some 4)] 5 (X := Nat)
    (fun j => [(30, nI .i64 j), (9, .ptr 4 0), (8, nI .i64 0), (7, nI .i64 0), (6, .ptr 3 0), (5, .ptr 2 0), (4, .ptr 1 0), (3, .ptr 0 0)])
    (fun j => [(0, some (uC c.P ++ (uC c.A ++ (uC c.B ++ (uC c.N ++ (uC c.X ++ (uC c.Y ++ [bI false]))))))), (1, some (uC d)), (2, some (bts h)), (3, some (words [0, 0, 0, 0, 0, 0, 0, 0] ++ [nI .i64 0])), (4, some (uC z))])
    (fun j => j ≤ m) (fun j => m - j) 0 rfl ⟨⟨_, rfl, conv_nI (rfl)⟩, ⟨_, rfl, .ptr rfl⟩, ⟨_, rfl, conv_nI (rfl)⟩, ⟨_, rfl, conv_nI (rfl)⟩, ⟨_, rfl, .ptr rfl⟩, ⟨_, rfl, .ptr rfl⟩, ⟨_, rfl, .ptr rfl⟩, ⟨_, rfl, .ptr rfl⟩, trivial⟩ ⟨.inr ⟨_, _, rfl, rfl, .same rfl⟩, .inr ⟨_, _, rfl, rfl, .same rfl⟩, .inr ⟨_, _, rfl, rfl, convs_eq rfl (bts_noHs _)⟩, .inr ⟨_, _, rfl, rfl, .same rfl⟩, .inr ⟨_, _, rfl, rfl, .same rfl⟩, trivial⟩ (Nat.zero_le _) ?_
  intro j hj
  dsimp only at hj ⊢
  refine wpv_ok Γok (by kernel_rfl) _ _ _ ?_; conv => whnf
  rw [decide_eq_true (by omega)]
  conv => whnf
  try (refine ⟨by kernel_rfl, ?_⟩; conv => whnf)
  refine bindP_intro (load_agg rfl rfl m2) ?_
  conv => whnf
  try (refine ⟨by kernel_rfl, ?_⟩; conv => whnf)
  have nj := nn j (by omega)
  refine ⟨_, ret_of_fn G0ok (nj) (by first | rfl | simp only [noHs, noH, nI, bI, Bool.and_self, Bool.and_true, Bool.true_and, noHs_append, words_noHs, bts_noHs, uC, uV, noHs, noH]) (by first | rfl | simp only [noHs, noH, nI, bI, Bool.and_self, Bool.and_true, Bool.true_and, noHs_append, words_noHs, bts_noHs, uC, uV, noHs, noH]), ?_⟩; (conv => whnf); (try (refine ⟨by kernel_rfl, ?_⟩; conv => whnf))
  by_cases hjm : j = m
  · subst hjm
    refine ⟨_, ret_of_fn G0ok (yes) (by first | rfl | simp only [noHs, noH, nI, bI, Bool.and_self, Bool.and_true, Bool.true_and, ]) (by first | rfl | simp only [noHs, noH, nI, bI, Bool.and_self, Bool.and_true, Bool.true_and, ]), ?_⟩; (conv => whnf); (try (refine ⟨by kernel_rfl, ?_⟩; conv => whnf))
    exact ⟨_, rfl, rfl⟩
  · have tj := no2 j (by omega)
    refine ⟨_, ret_of_fn G0ok (tj) (by first | rfl | simp only [noHs, noH, nI, bI, Bool.and_self, Bool.and_true, Bool.true_and, ]) (by first | rfl | simp only [noHs, noH, nI, bI, Bool.and_self, Bool.and_true, Bool.true_and, ]), ?_⟩; (conv => whnf); (try (refine ⟨by kernel_rfl, ?_⟩; conv => whnf))
    refine next_round (y := j) G0ok (j + 1) [(0, some 0), (1, some 1), (2, some 2), (3, some 3), (4, some 4)] rfl ⟨⟨_, rfl, conv_nI (ws_i64 (by omega) (by omega))⟩, ⟨_, rfl, .ptr rfl⟩, ⟨_, rfl, conv_nI (rfl)⟩, ⟨_, rfl, conv_nI (rfl)⟩, ⟨_, rfl, .ptr rfl⟩, ⟨_, rfl, .ptr rfl⟩, ⟨_, rfl, .ptr rfl⟩, ⟨_, rfl, .ptr rfl⟩, trivial⟩ ⟨.inr ⟨_, _, rfl, rfl, .same rfl⟩, .inr ⟨_, _, rfl, rfl, .same rfl⟩, .inr ⟨_, _, rfl, rfl, convs_eq rfl (bts_noHs _)⟩, .inr ⟨_, _, rfl, rfl, .same rfl⟩, .inr ⟨_, _, rfl, rfl, .same rfl⟩, trivial⟩ (by omega) (by omega)
end Go.Proofs.YtidkdlaihmpjfaaDoor
namespace Go.Proofs.YtidkdlaihmpjfaaDoor
set_option linter.unusedVariables false
set_option linter.unusedSimpArgs false
set_option linter.unusedSectionVars false
open Go.ChangeShapes Go.WideShapes Go.ChangeAt Go.RowKit Go.Joins
set_option maxRecDepth 10000
theorem least {Q : Nat → Prop} : ∀ n, Q n → ∃ m, m ≤ n ∧ Q m ∧ ∀ j, j < m → ¬ Q j := by
  intro n
  induction n using Nat.strongRecOn with
  | _ n ih =>
    intro hq
    by_cases e : ∃ j, j < n ∧ Q j
    · obtain ⟨j, hj, qj⟩ := e
      obtain ⟨m, h1, h2, h3⟩ := ih j hj qj
      exact ⟨m, by omega, h2, h3⟩
    · exact ⟨n, Nat.le_refl _, hq, fun j hj qj => e ⟨j, hj, qj⟩⟩
section
variable {k : Nat} (h : k < 8)
include h
theorem tryT_eq {d z n : Nat} (n0 : 0 < n) (n1 : n < (crv k).N) : cong (crv k).N ((tryT (crv k) (gk k n) d z n : Nat) * (n : Int)) ((z : Int) + (tryR (crv k) (gk k n) : Nat) * d) := by
  have v := cong_inv (cN_inv h n0 n1) (cN1 h)
  have a := cong_mul (m := (crv k).N) (tryR (crv k) (gk k n)) d
  have b := cong_add (m := (crv k).N) z (mulM (crv k).N (tryR (crv k) (gk k n)) d)
  have c := cong_mul (m := (crv k).N) (invM (crv k).N n) (addM (crv k).N z (mulM (crv k).N (tryR (crv k) (gk k n)) d))
  have e : tryT (crv k) (gk k n) d z n = mulM (crv k).N (invM (crv k).N n) (addM (crv k).N z (mulM (crv k).N (tryR (crv k) (gk k n)) d)) := rfl
  rw [e]
  have b2 := cong_trans b (cong_plus (cong_rfl _ (z : Int)) a)
  have c2 := cong_trans c (cong_times (cong_rfl _ ((invM (crv k).N n : Nat) : Int)) b2)
  have d2 := cong_times c2 (cong_rfl _ (n : Int))
  refine cong_trans d2 ?_
  have f := cong_times v (cong_rfl _ ((z : Int) + (tryR (crv k) (gk k n) : Nat) * d))
  rw [Int.one_mul] at f
  refine cong_trans ?_ f
  rw [show (invM (crv k).N n : Nat) * ((z : Int) + (tryR (crv k) (gk k n) : Nat) * d) * n = (invM (crv k).N n : Nat) * (n : Int) * ((z : Int) + (tryR (crv k) (gk k n) : Nat) * d) from by grind]
  exact cong_rfl _ _
theorem tryR_lt (n : Nat) : tryR (crv k) (gk k n) < (crv k).N := by unfold tryR; rw [modN_def]; exact Nat.mod_lt _ (by have := cN1 h; omega)
theorem tryT_lt (d z n : Nat) : tryT (crv k) (gk k n) d z n < (crv k).N := mulM_lt (by have := cN1 h; omega)
/-- What a nonce makes is a signature. -/
theorem try_sig {d z n : Nat} (n0 : 0 < n) (n1 : n < (crv k).N) (hr : tryR (crv k) (gk k n) ≠ 0) (ht : tryT (crv k) (gk k n) d z n ≠ 0) : ∃ i o, SigOf k z d (tryS (crv k) (gk k n) d z n) i o := by
  have lt := tryT_lt h d z n
  have eq := tryT_eq h (d := d) (z := z) n0 n1
  have hR : tryR (crv k) (gk k n) = (gk k n).x % (crv k).N := by unfold tryR; rw [modN_def]
  by_cases hl : tryT (crv k) (gk k n) d z n ≤ (crv k).N / 2
  · have et : tryS (crv k) (gk k n) d z n = ⟨tryR (crv k) (gk k n), tryT (crv k) (gk k n) d z n, (oddN (crv k) (gk k n) : Nat)⟩ := by unfold tryS; rw [if_pos hl]
    rw [et]
    exact ⟨n, oddN (crv k) (gk k n), ⟨n0, n1, hR, by show 0 < tryR (crv k) (gk k n); omega, by show 0 < tryT (crv k) (gk k n) d z n; omega, hl, rfl, rfl, eq⟩⟩
  · have et : tryS (crv k) (gk k n) d z n = ⟨tryR (crv k) (gk k n), (crv k).N - tryT (crv k) (gk k n) d z n, (flip1 (oddN (crv k) (gk k n)) : Nat)⟩ := by unfold tryS; rw [if_neg hl]
    rw [et]
    have ng := gk_ng h n0 n1
    have hodd := (tells h).odd
    have y0 := gk_y h n0 n1
    have yP := (gk_on h n).lt.2
    refine ⟨(crv k).N - n, flip1 (oddN (crv k) (gk k n)), ⟨by omega, by omega, by rw [ng]; exact hR, by show 0 < tryR (crv k) (gk k n); omega, by show 0 < (crv k).N - tryT (crv k) (gk k n) d z n; omega, ?_, rfl, ?_, ?_⟩⟩
    · show (crv k).N - tryT (crv k) (gk k n) d z n ≤ _
      omega
    · rw [ng]
      unfold oddN
      dsimp only
      have hp : ((crv k).P - (gk k n).y) % 2 = 1 - (gk k n).y % 2 := by omega
      rw [hp]
      unfold flip1
      split <;> split <;> omega
    · show cong (crv k).N (((((crv k).N - tryT (crv k) (gk k n) d z n : Nat)) : Int) * (((crv k).N - n : Nat) : Int)) ((z : Int) + (tryR (crv k) (gk k n) : Nat) * d)
      refine cong_trans ?_ eq
      rw [Int.ofNat_sub (Nat.le_of_lt lt), Int.ofNat_sub (Nat.le_of_lt n1)]
      exact ⟨((crv k).N : Int) - n - (tryT (crv k) (gk k n) d z n : Nat), by grind⟩
theorem try_gk {d z n : Nat} (hd : d < (crv k).N) (hz : z < (crv k).N) (n1 : n < (crv k).N) :
    ((0 < n ∧ tryR (crv k) (gk k n) ≠ 0 ∧ tryT (crv k) (gk k n) d z n ≠ 0) ∧ FnV Tryd.prog G0 55 [(crv k).v, uV d, uV z, uV n] (.tup [(tryS (crv k) (gk k n) d z n).v, bI true, nI .i64 0])) ∨
    (¬ (0 < n ∧ tryR (crv k) (gk k n) ≠ 0 ∧ tryT (crv k) (gk k n) d z n ≠ 0) ∧ FnV Tryd.prog G0 55 [(crv k).v, uV d, uV z, uV n] (.tup [.agg (words [0, 0, 0, 0, 0, 0, 0, 0] ++ [nI .i64 0]), bI false, nI .i64 0])) := by
  rcases Nat.eq_zero_or_pos n with h0 | h0
  · subst h0
    exact .inr ⟨fun e => absurd e.1 (by decide), try_zero⟩
  · have g := good_crv h
    have on : OnP (crv k) (crv k).base := by rw [← gk_base h]; exact gk_on h 1
    have st := gk_steps h 1 n
    rw [gk_base h] at st
    have ep : (fun v => gk k (v * 1)) n = gk k n := by show gk k (n * 1) = _; rw [Nat.mul_one]
    have hx := (gk_lt h n).1
    have hf : (gk k n).far = false := by rw [gk_far, Nat.mod_eq_of_lt n1]; exact decide_eq_false (by omega)
    have hg := cN_gcd h h0 n1
    by_cases hr : tryR (crv k) (gk k n) = 0
    · exact .inr ⟨fun e => e.2.1 hr, try_r0 g on h0 n1 st ep hx hf hr⟩
    · by_cases ht : tryT (crv k) (gk k n) d z n = 0
      · exact .inr ⟨fun e => e.2.2 ht, try_s0 g on h0 n1 hd hz hg st ep hx hf hr ht⟩
      · exact .inl ⟨⟨h0, hr, ht⟩, try_yes g on h0 n1 hd hz hg st ep hx hf hr ht⟩
theorem two_R : tryR (crv k) (gk k 1) ≠ 0 ∧ tryR (crv k) (gk k 2) ≠ 0 ∧ tryR (crv k) (gk k 1) ≠ tryR (crv k) (gk k 2) := by
  unfold tryR
  rw [modN_def, modN_def]
  refine crv_cases (Q := fun k => (gk k 1).x % (crv k).N ≠ 0 ∧ (gk k 2).x % (crv k).N ≠ 0 ∧ (gk k 1).x % (crv k).N ≠ (gk k 2).x % (crv k).N) h ?_ ?_ ?_ ?_ ?_ ?_ ?_ ?_ <;> decide +kernel
theorem some_nonce {d z : Nat} (d0 : 0 < d) (hd : d < (crv k).N) : tryT (crv k) (gk k 1) d z 1 ≠ 0 ∨ tryT (crv k) (gk k 2) d z 2 ≠ 0 := by
  obtain ⟨_, _, b3, _⟩ := crv_bounds h
  refine Classical.byContradiction fun hn => ?_
  have h1 : tryT (crv k) (gk k 1) d z 1 = 0 := Classical.byContradiction fun e => hn (.inl e)
  have h2 : tryT (crv k) (gk k 2) d z 2 = 0 := Classical.byContradiction fun e => hn (.inr e)
  have e1 := tryT_eq h (d := d) (z := z) (n := 1) (by decide) (by omega)
  have e2 := tryT_eq h (d := d) (z := z) (n := 2) (by decide) (by omega)
  rw [h1] at e1
  rw [h2] at e2
  obtain ⟨_, _, r3⟩ := two_R h
  have l1 := tryR_lt h 1
  have l2 := tryR_lt h 2
  refine gen_ex (tryR (crv k) (gk k 1)) fun a ea => ?_
  refine gen_ex (tryR (crv k) (gk k 2)) fun b eb => ?_
  rw [← ea] at e1 r3 l1
  rw [← eb] at e2 r3 l2
  have e3 := cong_trans (cong_symm e1) (show cong (crv k).N (((0 : Nat) : Int) * ((1 : Nat) : Int)) (((0 : Nat) : Int) * ((2 : Nat) : Int)) from cong_rfl _ _)
  have e4 := cong_trans e3 e2
  have e5 := cong_plus e4 (cong_rfl _ (-(z : Int)))
  rw [show (z : Int) + a * d + -(z : Int) = d * a from by grind, show (z : Int) + b * d + -(z : Int) = d * b from by grind] at e5
  exact r3 (cong_lt (cN_cancel h d0 hd e5) l1 l2)
theorem nonce_lt (d : Nat) (b : List Nat) (i : Nat) : nonceN (crv k) d b i < (crv k).N := by unfold nonceN; rw [modN_def]; exact Nat.mod_lt _ (by have := cN1 h; omega)
theorem nonce_plain (d : Nat) (b : List Nat) {a : Nat} (h0 : 0 < a) (h1 : a < 31) : nonceN (crv k) d b (255 + a) = a := by
  obtain ⟨_, _, b3, _⟩ := crv_bounds h
  unfold nonceN
  rw [if_neg (by omega), modN_def, show 255 + a - 255 = a by omega, Nat.mod_eq_of_lt (by omega)]
theorem make_gk {d : Nat} (d0 : 0 < d) (hd : d < (crv k).N) {b : List Nat} (lb : b.length = 32) (hb : ∀ x ∈ b, x < 256) : ∃ s i o, SigOf k (modN (fromV b 32) (crv k).N) d s i o ∧ FnV Tryd.prog G0 29 [(crv k).v, uV d, .agg (bts b)] (.tup [s.v, nI .i64 0]) := by
  have hz : modN (fromV b 32) (crv k).N < (crv k).N := by rw [modN_def]; exact Nat.mod_lt _ (by have := cN1 h; omega)
  refine gen_ex (modN (fromV b 32) (crv k).N) fun z ez => ?_
  rw [← ez] at hz ⊢
  obtain ⟨_, _, b3, _⟩ := crv_bounds h
  have hq : ∃ n, n < 272 ∧ (0 < nonceN (crv k) d b n ∧ tryR (crv k) (gk k (nonceN (crv k) d b n)) ≠ 0 ∧ tryT (crv k) (gk k (nonceN (crv k) d b n)) d z (nonceN (crv k) d b n) ≠ 0) := by
    obtain ⟨r1, r2, _⟩ := two_R h
    rcases some_nonce h (z := z) d0 hd with e | e
    · exact ⟨256, by decide, by rw [show 256 = 255 + 1 from rfl, nonce_plain h d b (by decide) (by decide)]; exact ⟨by decide, r1, e⟩⟩
    · exact ⟨257, by decide, by rw [show 257 = 255 + 2 from rfl, nonce_plain h d b (by decide) (by decide)]; exact ⟨by decide, r2, e⟩⟩
  obtain ⟨n, hn, qn⟩ := hq
  obtain ⟨m, hm, ⟨m0, mr, mt⟩, hj⟩ := least (Q := fun n => 0 < nonceN (crv k) d b n ∧ tryR (crv k) (gk k (nonceN (crv k) d b n)) ≠ 0 ∧ tryT (crv k) (gk k (nonceN (crv k) d b n)) d z (nonceN (crv k) d b n) ≠ 0) n qn
  obtain ⟨i, o, sg⟩ := try_sig h (d := d) (z := z) m0 (nonce_lt h d b m) mr mt
  refine ⟨_, i, o, sg, make_ok (m := m) (good_crv h) d0 hd lb hb (by omega) ?_ ?_⟩
  · intro j hjm
    rw [← ez]
    rcases try_gk h hd hz (nonce_lt h d b j) with e | e
    · exact absurd e.1 (hj j hjm)
    · exact e.2
  · rw [← ez]
    rcases try_gk h hd hz (nonce_lt h d b m) with e | e
    · exact e.2
    · exact absurd ⟨m0, mr, mt⟩ e.1
end
end Go.Proofs.YtidkdlaihmpjfaaDoor
namespace Go.Proofs.YtidkdlaihmpjfaaDoor
set_option linter.unusedVariables false
set_option linter.unusedSimpArgs false
set_option linter.unusedSectionVars false
open Go.ChangeShapes Go.WideShapes Go.ChangeAt Go.RowKit Go.Joins
set_option maxRecDepth 10000
theorem secret_ex {k : Nat} (h : k < 8) (d : Int) : ∃ D : Nat, 0 < D ∧ D < (crv k).N ∧ FnV Tryd.prog G0 28 [(crv k).v, nI .i64 d] (uV D) := by
  obtain ⟨_, _, b3, _⟩ := crv_bounds h
  exact ⟨_, by omega, by have := Int.emod_nonneg d (show ((crv k).N - 1 : Int) ≠ 0 by omega); have := Int.emod_lt_of_pos d (show 0 < ((crv k).N - 1 : Int) by omega); omega, bsecret_fn h d⟩
section
variable {k : Nat} (h : k < 8) {z d i o : Nat} {s : SgD} (g : SigOf k z d s i o)
include h g
theorem SigOf.recover_at {b : List Nat} (lb : b.length = 32) (hb : ∀ x ∈ b, x < 256) : FnV Tryd.prog G0 33 [(crv k).v, .agg (bts b), s.v] (.tup [if recI k (modN (fromV b 32) (crv k).N) s.R s.S i % (crv k).N = 0 then nilP.v else (gk k (recI k (modN (fromV b 32) (crv k).N) s.R s.S i)).v, nI .i64 (if recI k (modN (fromV b 32) (crv k).N) s.R s.S i % (crv k).N = 0 then 10 else 0)]) :=
  rec_gk h g.i0 g.i1 lb hb g.odd (g.o3 h) (g.form h) g.R0 (g.Rl h) (g.Sl h) (g.x h) (g.par h)
theorem SigOf.recover (d1 : d < (crv k).N) (d0 : 0 < d) {b : List Nat} (lb : b.length = 32) (hb : ∀ x ∈ b, x < 256) (hz : z = modN (fromV b 32) (crv k).N) : FnV Tryd.prog G0 33 [(crv k).v, .agg (bts b), s.v] (.tup [(gk k d).v, nI .i64 0]) := by
  have r := g.recover_at h lb hb
  have e := g.rec_eq h
  rw [← hz] at r
  have e2 := cong_emod e
  rw [gk_cong h e, if_neg (by rw [e2, Nat.mod_eq_of_lt d1]; omega), if_neg (by rw [e2, Nat.mod_eq_of_lt d1]; omega)] at r
  exact r
theorem SigOf.check (d1 : d < (crv k).N) (d0 : 0 < d) {b : List Nat} (lb : b.length = 32) (hb : ∀ x ∈ b, x < 256) (hz : z = modN (fromV b 32) (crv k).N) : FnV Tryd.prog G0 35 [(crv k).v, (gk k d).v, .agg (bts b), s.v] (nI .i64 0) := by
  have r := check_gk h (j := d) (by rw [Nat.mod_eq_of_lt d1]; omega) lb hb (g.form h) g.R0 (g.Rl h) g.S0 (g.Sl h)
  rw [← hz, gk_cong h (g.chk_eq h)] at r
  have hc : chkE (crv k) (gk k i) s.R = true := by
    have := g.i0
    unfold chkE
    rw [gk_far, Nat.mod_eq_of_lt g.i1, decide_eq_false (by omega), modN_def, decide_eq_true g.R.symm]
    rfl
  rw [hc, if_pos rfl] at r
  exact r
end
end Go.Proofs.YtidkdlaihmpjfaaDoor
