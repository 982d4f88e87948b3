/- CurveBack: a point and its opposite are the far one, which changes nothing. -/
import Derived.Test.YtdicmddedcfhaaaVCurveT
namespace Go.Proofs.Ytdicmddedcfhaaa
set_option linter.unusedVariables false
set_option linter.unusedSimpArgs false
set_option linter.unusedSectionVars false
open Go.ChangeShapes Go.WideShapes Go.ChangeAt Go.RowKit Go.Joins
set_option maxRecDepth 10000
theorem gk_neg {k a : Nat} (h : k < 8) (ha : 0 < a) (ha2 : a < (crv k).N) : gk k ((crv k).N - a) = ⟨(gk k a).x, subM (crv k).P 0 (gk k a).y, false⟩ := by
  have t := tells h
  obtain ⟨h1, h2, _, h4, _⟩ := one_at t ha ha2
  have h5 := h1.2
  have h6 := t.p3
  have e1 : gk k a = pt (tbl k) a := by unfold gk gpt; rw [Nat.mod_eq_of_lt ha2, if_neg (by omega)]
  have e2 : gk k ((crv k).N - a) = pt (tbl k) ((crv k).N - a) := by unfold gk gpt; rw [Nat.mod_eq_of_lt (by omega), if_neg (by omega)]
  rw [e1, e2, h4, subM_def, Nat.zero_add, Nat.mod_eq_of_lt (by omega)]
  rfl
theorem fnCurveBack (n i : Int) (_ : I64 n) (_ : I64 i) : FnV Try.prog G0 10 [nI .i64 n, nI .i64 i] (bI true) := by
  obtain ⟨c, hc, cv⟩ := law_curve n
  obtain ⟨b1, b2, b3, b4, _⟩ := crv_bounds hc
  obtain ⟨l1, l2⟩ := crv_B64 hc
  have tT : B64 < T256 := by decide
  have pi := point_fn hc i
  obtain ⟨a, ea, la⟩ : ∃ a : Nat, (i % ((crv c).N : Int)).toNat = a ∧ a < (crv c).N := ⟨_, rfl, by have := Int.emod_lt_of_pos i (show 0 < ((crv c).N : Int) by omega); omega⟩
  rw [ea] at pi
  clear ea
  have m := mult_gk hc a (n := (crv c).N - 1) (by omega)
  have hmod : ((crv c).N - 1) * a % (crv c).N = ((crv c).N - a) % (crv c).N := by
    have e : ((crv c).N - 1) * a + (crv c).N = (crv c).N * a + ((crv c).N - a) := by
      have := Nat.sub_mul (crv c).N 1 a
      have h2 : 1 * a ≤ (crv c).N * a := Nat.mul_le_mul_right _ (by omega)
      rw [Nat.one_mul] at *
      omega
    rw [← Nat.add_mod_right, e, Nat.mul_add_mod]
  rw [gk_mod hmod, uV_w4 (n := (crv c).N - 1) (by omega)] at m
  have s1 := add_gk hc a ((crv c).N - a)
  rw [show a + ((crv c).N - a) = (crv c).N by omega, gk_zero (Nat.mod_self _)] at s1
  have s2 := add_gk hc a 0
  rw [Nat.add_zero, gk_zero (k := c) (i := 0) (Nat.zero_mod _)] at s2
  have zx : uC 0 = words [0, 0, 0, 0] := uC_lit (n := 0) (by decide)
  have ef : EqAgg Try.prog .eql 60 farP.cells farP.cells true := eq_pt_self ⟨by decide, by decide⟩
  have fc : farP.cells = words [0, 0, 0, 0, 0, 0, 0, 0] ++ [bI true] := by unfold PtD.cells farP; rw [zx]; rfl
  have e2 := eq_pt_self (gk_lt hc a)
  have e3 := eq_pt_self (gk_lt hc ((crv c).N - a))
  have w1 : wS .u64 (((crv c).N : Int) - 1) = (((crv c).N - 1 : Nat) : Int) := by rw [ws_u64n (by omega) (by omega)]; omega
  have uN : uC (crv c).N = words [(crv c).N, 0, 0, 0] := uC_lit l1
  by_cases h0 : a = 0
  · subst h0
    have g0 : gk c 0 = farP := gk_zero (Nat.zero_mod _)
    have gN : gk c ((crv c).N - 0) = farP := gk_zero (by rw [Nat.sub_zero, Nat.mod_self])
    rw [gN] at m s1 e3
    rw [g0] at pi m s1 s2 e2
    clear g0 gN
    unfold PtD.v at pi m s1 s2
    rw [fc] at pi m s1 s2 ef
    unfold CvD.v CvD.cells at cv pi m s1 s2
    rw [uN] at cv pi m s1 s2
    refine fn_of_vwp Γok Try.func10 (by kernel_rfl) rfl (by simp [Try.ntmps10]) (wpv_ok Γok (by kernel_rfl) _ _ _ ?_); conv => whnf
    refine ⟨_, ret_of_fn G0ok (cv) (by first | rfl | simp only [noHs, noH, nI, bI, Bool.and_self, Bool.and_true, Bool.true_and, ]) (by first | rfl | simp only [noHs, noH, nI, bI, Bool.and_self, Bool.and_true, Bool.true_and, ]), ?_⟩; (conv => whnf); (try (refine ⟨by kernel_rfl, ?_⟩; conv => whnf))
    refine ⟨_, ret_of_fn G0ok (pi) (by first | rfl | simp only [noHs, noH, nI, bI, Bool.and_self, Bool.and_true, Bool.true_and, ]) (by first | rfl | simp only [noHs, noH, nI, bI, Bool.and_self, Bool.and_true, Bool.true_and, ]), ?_⟩; (conv => whnf); (try (refine ⟨by kernel_rfl, ?_⟩; conv => whnf))
    refine ⟨_, ret_of_fn G0ok (s2) (by first | rfl | simp only [noHs, noH, nI, bI, Bool.and_self, Bool.and_true, Bool.true_and, ]) (by first | rfl | simp only [noHs, noH, nI, bI, Bool.and_self, Bool.and_true, Bool.true_and, ]), ?_⟩; (conv => whnf); (try (refine ⟨by kernel_rfl, ?_⟩; conv => whnf))
    refine ⟨_, ret_of_fn G0ok (s2) (by first | rfl | simp only [noHs, noH, nI, bI, Bool.and_self, Bool.and_true, Bool.true_and, ]) (by first | rfl | simp only [noHs, noH, nI, bI, Bool.and_self, Bool.and_true, Bool.true_and, ]), ?_⟩; (conv => whnf); (try (refine ⟨by kernel_rfl, ?_⟩; conv => whnf))
    rw [w1]
    conv => whnf
    try (refine ⟨by kernel_rfl, ?_⟩; conv => whnf)
    refine ⟨_, ret_of_fn G0ok (m) (by first | rfl | simp only [noHs, noH, nI, bI, Bool.and_self, Bool.and_true, Bool.true_and, ]) (by first | rfl | simp only [noHs, noH, nI, bI, Bool.and_self, Bool.and_true, Bool.true_and, ]), ?_⟩; (conv => whnf); (try (refine ⟨by kernel_rfl, ?_⟩; conv => whnf))
    refine ⟨_, ret_of_fn G0ok (ctells_fn) (by first | rfl | simp only [noHs, noH, nI, bI, Bool.and_self, Bool.and_true, Bool.true_and, ]) (by first | rfl | simp only [noHs, noH, nI, bI, Bool.and_self, Bool.and_true, Bool.true_and, ]), ?_⟩; (conv => whnf); (try (refine ⟨by kernel_rfl, ?_⟩; conv => whnf))
    refine ⟨_, ef, ?_⟩
    conv => whnf
    try (refine ⟨by kernel_rfl, ?_⟩; conv => whnf)
    refine ⟨_, ef, ?_⟩
    conv => whnf
    try (refine ⟨by kernel_rfl, ?_⟩; conv => whnf)
    refine ⟨_, ef, ?_⟩
    conv => whnf
    try (refine ⟨by kernel_rfl, ?_⟩; conv => whnf)
    exact ⟨_, rfl, rfl⟩
  · have gn := gk_neg hc (show 0 < a by omega) la
    have lt := (gk_on hc a).lt
    have sb := sub_by (a := 0) (b := (gk c a).y) (m := (crv c).P) (by omega) lt.2 (by omega)
    have gf : (gk c a).far = false := by rw [gk_far]; exact decide_eq_false (by rw [Nat.mod_eq_of_lt la]; exact h0)
    rw [gn] at s1 m e3
    clear gn
    unfold PtD.v at pi m s1 s2
    rw [fc] at s1 s2 ef
    unfold PtD.cells at pi m s1 s2 e2 e3
    dsimp only at m s1 e3
    rw [gf] at pi m s1 s2 e2
    rw [show uV 0 = .agg (words [0, 0, 0, 0]) from congrArg VV.agg zx] at sb
    refine gen_ex (subM (crv c).P 0 (gk c a).y) fun y2 ey2 => ?_
    rw [← ey2] at sb s1 m e3
    clear ey2
    refine gen_ex (gk c a) fun A eA => ?_
    rw [← eA] at pi m s1 s2 e2 e3 sb
    clear eA
    unfold CvD.v CvD.cells at cv pi m s1 s2
    rw [uN] at cv pi m s1 s2
    refine fn_of_vwp Γok Try.func10 (by kernel_rfl) rfl (by simp [Try.ntmps10]) (wpv_ok Γok (by kernel_rfl) _ _ _ ?_); conv => whnf
    refine ⟨_, ret_of_fn G0ok (cv) (by first | rfl | simp only [noHs, noH, nI, bI, Bool.and_self, Bool.and_true, Bool.true_and, ]) (by first | rfl | simp only [noHs, noH, nI, bI, Bool.and_self, Bool.and_true, Bool.true_and, ]), ?_⟩; (conv => whnf); (try (refine ⟨by kernel_rfl, ?_⟩; conv => whnf))
    refine ⟨_, ret_of_fn G0ok (pi) (by first | rfl | simp only [noHs, noH, nI, bI, Bool.and_self, Bool.and_true, Bool.true_and, ]) (by first | rfl | simp only [noHs, noH, nI, bI, Bool.and_self, Bool.and_true, Bool.true_and, ]), ?_⟩; (conv => whnf); (try (refine ⟨by kernel_rfl, ?_⟩; conv => whnf))
    refine ⟨_, ret_of_fn G0ok (sb) (by first | rfl | simp only [noHs, noH, nI, bI, Bool.and_self, Bool.and_true, Bool.true_and, ]) (by first | rfl | simp only [noHs, noH, nI, bI, Bool.and_self, Bool.and_true, Bool.true_and, ]), ?_⟩; (conv => whnf); (try (refine ⟨by kernel_rfl, ?_⟩; conv => whnf))
    refine ⟨_, ret_of_fn G0ok (s1) (by first | rfl | simp only [noHs, noH, nI, bI, Bool.and_self, Bool.and_true, Bool.true_and, ]) (by first | rfl | simp only [noHs, noH, nI, bI, Bool.and_self, Bool.and_true, Bool.true_and, ]), ?_⟩; (conv => whnf); (try (refine ⟨by kernel_rfl, ?_⟩; conv => whnf))
    refine ⟨_, ret_of_fn G0ok (s2) (by first | rfl | simp only [noHs, noH, nI, bI, Bool.and_self, Bool.and_true, Bool.true_and, ]) (by first | rfl | simp only [noHs, noH, nI, bI, Bool.and_self, Bool.and_true, Bool.true_and, ]), ?_⟩; (conv => whnf); (try (refine ⟨by kernel_rfl, ?_⟩; conv => whnf))
    rw [w1]
    conv => whnf
    try (refine ⟨by kernel_rfl, ?_⟩; conv => whnf)
    refine ⟨_, ret_of_fn G0ok (m) (by first | rfl | simp only [noHs, noH, nI, bI, Bool.and_self, Bool.and_true, Bool.true_and, ]) (by first | rfl | simp only [noHs, noH, nI, bI, Bool.and_self, Bool.and_true, Bool.true_and, ]), ?_⟩; (conv => whnf); (try (refine ⟨by kernel_rfl, ?_⟩; conv => whnf))
    refine ⟨_, ret_of_fn G0ok (ctells_fn) (by first | rfl | simp only [noHs, noH, nI, bI, Bool.and_self, Bool.and_true, Bool.true_and, ]) (by first | rfl | simp only [noHs, noH, nI, bI, Bool.and_self, Bool.and_true, Bool.true_and, ]), ?_⟩; (conv => whnf); (try (refine ⟨by kernel_rfl, ?_⟩; conv => whnf))
    refine ⟨_, ef, ?_⟩
    conv => whnf
    try (refine ⟨by kernel_rfl, ?_⟩; conv => whnf)
    refine ⟨_, e2, ?_⟩
    conv => whnf
    try (refine ⟨by kernel_rfl, ?_⟩; conv => whnf)
    refine ⟨_, e3, ?_⟩
    conv => whnf
    try (refine ⟨by kernel_rfl, ?_⟩; conv => whnf)
    exact ⟨_, rfl, rfl⟩
namespace lawCurveBack
set_option linter.unusedVariables false
set_option maxRecDepth 100000 in
theorem lifted (os : Os) (started : os.Started) (H : Type) (enc : TypeId × Value → H) :
    ReturnsInHanded {} Try.checked os 10 .any (Rows.curveBackSpec.pre6 enc Try.prog Try.f10 Rows.curveBackRow.domain false) (Rows.curveBackSpec.post enc Try.prog Try.f10 false true false false) := by
  refine returnsInHanded_of_change (C := Try.checked) rowOwn started (by kernel_rfl) Try.func10
    (ChangeSpec.witness6 (enc := enc) (C := Try.checked) false ⟨#[], #[.int .i64 0, .int .i64 0], []⟩ 8 (by kernel_rfl) (by kernel_rfl) (by kernel_rfl) (by kernel_rfl)) ?_
  intro W base args ds gs before hval0 hW hcnd _
  have hval : ∀ (j : Nat) t v, Try.f10.params[j]? = some t → args[j]? = some v → Value.okWide Try.prog W .any base t v := hval0
  have hW' := hW
  obtain ⟨p, q, hA0, hV, rfl, hfz, hnd⟩ := hW
  have hA : DataW.TrodAll enc Try.prog W 0 (fun _ => true) true Try.f10.params.toList args.toList ds p := hA0
  rw [Try.params10] at hA hval
  obtain ⟨v0, vs0, d0, ds0, p0, q0, hargs, rfl, rfl, h0, r0⟩ := trodAll_cons hA
  obtain ⟨v1, vs1, d1, ds1, p1, q1, rfl, rfl, rfl, h1, r1⟩ := trodAll_cons r0
  obtain ⟨rfl, rfl, rfl⟩ := trodAll_nil r1
  obtain rfl : args = #[v0, v1] := by cases args; simp_all
  obtain ⟨rfl, rfl⟩ := trodVars_none hV
  obtain ⟨a0, rfl, rfl, rfl, w0⟩ := open_int Try.underlying3 (hval 0 3 v0 rfl rfl) h0
  obtain ⟨a1, rfl, rfl, rfl, w1⟩ := open_int Try.underlying3 (hval 1 3 v1 rfl rfl) h1
  clear hA0 hval0
  refine (calls_of_fn Try.func10 (by kernel_rfl) rfl (fnCurveBack a0 a1 (bounds_i64 w0) (bounds_i64 w1)) (fun _ _ h => by cases h) (VRs.cons rfl (VRs.cons rfl VRs.snoc_nil))).mono fun e W' ⟨he, bel⟩ => ?_
  subst he
  exact ⟨_, rfl, _, _, _, [], _, [], hW', trodAll_mk1 (shut_bool Try.underlying4 _), (trodAll_cons_mk (shut_int Try.underlying3 w0) (trodAll_cons_mk (shut_int Try.underlying3 w1) trodAll_mk0)), rfl, bel.frame _, fun h => by cases h⟩
theorem over : Rows.curveBackRow.holds Try.pinned (OpenSpec.ofChange Rows.curveBackSpec) :=
  OpenClaim.holds_of_wide 10 Try.f10 rfl rfl rfl rfl rfl rfl rfl ⟨rfl, rfl, rfl, rfl, rfl⟩ rfl rfl rfl rfl rfl (by kernel_rfl) Try.func10 (by kernel_rfl)
    (of_decide_eq_true (by kernel_rfl)) (by unfold Func.isWrapper; first | (rw [if_pos (by decide +kernel)]; kernel_rfl) | (rw [if_neg (by decide +kernel)]; exact ⟨rfl, rfl⟩))
    (fun os started H enc _ => lifted os started H enc)
theorem proved : Rows.CurveBackSaid := over
end lawCurveBack

end Go.Proofs.Ytdicmddedcfhaaa
