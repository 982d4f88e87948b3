/- LiftBack: a point is found by its first number, and by whether its second one is odd. -/
import Derived.Test.YtdicmddedcfhaaaVCurveT
import Derived.Test.YtdicmddedcfhaaaVLift
namespace Go.Proofs.Ytdicmddedcfhaaa
set_option linter.unusedVariables false
set_option linter.unusedSimpArgs false
set_option linter.unusedSectionVars false
open Go.ChangeShapes Go.WideShapes Go.ChangeAt Go.RowKit Go.Joins
set_option maxRecDepth 10000
theorem fnLiftBack (n i : Int) (_ : I64 n) (_ : I64 i) : FnV Try.prog G0 12 [nI .i64 n, nI .i64 i] (bI true) := by
  obtain ⟨c, hc, cv⟩ := law_curve n
  obtain ⟨b1, b2, b3, b4, _⟩ := crv_bounds hc
  obtain ⟨l1, l2⟩ := crv_B64 hc
  have tT : B64 < T256 := by decide
  have pk := picked_fn i ((crv c).N - 1 : Int) (by omega) (by omega)
  obtain ⟨I, hI, lI⟩ : ∃ j : Nat, i % ((crv c).N - 1 : Int) = (j : Int) ∧ j < (crv c).N - 1 := ⟨(i % ((crv c).N - 1 : Int)).toNat, by have := Int.emod_nonneg i (show ((crv c).N - 1 : Int) ≠ 0 by omega); omega, by have := Int.emod_nonneg i (show ((crv c).N - 1 : Int) ≠ 0 by omega); have := Int.emod_lt_of_pos i (show 0 < ((crv c).N - 1 : Int) by omega); omega⟩
  rw [hI] at pk
  clear hI
  have pi := point_fn hc (1 + (I : Int))
  rw [show ((1 + (I : Int)) % ((crv c).N : Int)).toNat = 1 + I from by rw [Int.emod_eq_of_lt (by omega) (by omega)]; omega] at pi
  have w1 : wS .i64 ((crv c).N : Int) = ((crv c).N : Int) := ws_i64 (by omega) (by omega)
  have w2 : wS .i64 (((crv c).N : Int) - 1) = ((crv c).N : Int) - 1 := ws_i64 (by omega) (by omega)
  have w3 : wS .i64 (1 + (I : Int)) = 1 + (I : Int) := ws_i64 (by omega) (by omega)
  have ff : (gk c (1 + I)).far = false := by rw [gk_far]; exact decide_eq_false (by rw [Nat.mod_eq_of_lt (by omega)]; omega)
  have on := gk_on hc (1 + I)
  have hy0 : 0 < (gk c (1 + I)).y := by
    have e1 : gk c (1 + I) = pt (tbl c) (1 + I) := by unfold gk gpt; rw [Nat.mod_eq_of_lt (by omega), if_neg (by omega)]
    rw [e1]
    exact (one_at (tells hc) (show 0 < 1 + I by omega) (by omega)).2.1
  have ef := eq_pt_self (gk_lt hc (1 + I))
  refine gen_ex (gk c (1 + I)) fun A eA => ?_
  rw [← eA] at pi ff on hy0 ef
  clear eA
  obtain ⟨x, y, far⟩ := A
  dsimp only at ff hy0
  subst ff
  have lf := lift_ok (good_crv hc) (crv_fermat hc) on hy0
  have lb := lift_bad (good_crv hc) (x := (crv c).P) false (by omega) (Nat.le_refl _)
  have oy := odd_lim y
  have zx : uC 0 = words [0, 0, 0, 0] := uC_lit (n := 0) (by decide)
  have uN : uC (crv c).N = words [(crv c).N, 0, 0, 0] := uC_lit l1
  refine gen_ex (decide (y % 2 = 1)) fun b eb => ?_
  rw [← eb] at lf oy
  clear eb
  unfold PtD.v PtD.cells at pi lf lb
  unfold PtD.cells at ef
  unfold nilP at lb
  dsimp only at pi lf lb ef
  unfold CvD.v CvD.cells at cv pi lf lb
  rw [uN] at cv pi lf lb
  refine gen_ex (crv c) fun C eC => ?_
  rw [← eC] at cv pk pi lf lb w1 w2
  clear eC on
  refine fn_of_vwp Γok Try.func12 (by kernel_rfl) rfl (by simp [Try.ntmps12]) (wpv_ok Γok (by kernel_rfl) _ _ _ ?_); conv => whnf
  refine ⟨_, ret_of_fn G0ok (cv) (by first | rfl | simp only [noHs, noH, nI, bI, Bool.and_self, Bool.and_true, Bool.true_and, ]) (by first | rfl | simp only [noHs, noH, nI, bI, Bool.and_self, Bool.and_true, Bool.true_and, ]), ?_⟩; (conv => whnf); (try (refine ⟨by kernel_rfl, ?_⟩; conv => whnf))
  rw [w1, w2]
  conv => whnf
  try (refine ⟨by kernel_rfl, ?_⟩; conv => whnf)
  refine ⟨_, ret_of_fn G0ok (pk) (by first | rfl | simp only [noHs, noH, nI, bI, Bool.and_self, Bool.and_true, Bool.true_and, ]) (by first | rfl | simp only [noHs, noH, nI, bI, Bool.and_self, Bool.and_true, Bool.true_and, ]), ?_⟩; (conv => whnf); (try (refine ⟨by kernel_rfl, ?_⟩; conv => whnf))
  rw [w3]
  conv => whnf
  try (refine ⟨by kernel_rfl, ?_⟩; conv => whnf)
  refine ⟨_, ret_of_fn G0ok (pi) (by first | rfl | simp only [noHs, noH, nI, bI, Bool.and_self, Bool.and_true, Bool.true_and, ]) (by first | rfl | simp only [noHs, noH, nI, bI, Bool.and_self, Bool.and_true, Bool.true_and, ]), ?_⟩; (conv => whnf); (try (refine ⟨by kernel_rfl, ?_⟩; conv => whnf))
  rw [oy]
  conv => whnf
  try (refine ⟨by kernel_rfl, ?_⟩; conv => whnf)
  refine ⟨_, ret_of_fn G0ok (lf) (by first | rfl | simp only [noHs, noH, nI, bI, Bool.and_self, Bool.and_true, Bool.true_and, ]) (by first | rfl | simp only [noHs, noH, nI, bI, Bool.and_self, Bool.and_true, Bool.true_and, ]), ?_⟩; (conv => whnf); (try (refine ⟨by kernel_rfl, ?_⟩; conv => whnf))
  refine ⟨_, ret_of_fn G0ok (lb) (by first | rfl | simp only [noHs, noH, nI, bI, Bool.and_self, Bool.and_true, Bool.true_and, ]) (by first | rfl | simp only [noHs, noH, nI, bI, Bool.and_self, Bool.and_true, Bool.true_and, ]), ?_⟩; (conv => whnf); (try (refine ⟨by kernel_rfl, ?_⟩; conv => whnf))
  refine ⟨_, ret_of_fn G0ok (ctells_fn) (by first | rfl | simp only [noHs, noH, nI, bI, Bool.and_self, Bool.and_true, Bool.true_and, ]) (by first | rfl | simp only [noHs, noH, nI, bI, Bool.and_self, Bool.and_true, Bool.true_and, ]), ?_⟩; (conv => whnf); (try (refine ⟨by kernel_rfl, ?_⟩; conv => whnf))
  refine ⟨_, ef, ?_⟩
  conv => whnf
  try (refine ⟨by kernel_rfl, ?_⟩; conv => whnf)
  exact ⟨_, rfl, rfl⟩
namespace lawLiftBack
set_option linter.unusedVariables false
set_option maxRecDepth 100000 in
theorem lifted (os : Os) (started : os.Started) (H : Type) (enc : TypeId × Value → H) :
    ReturnsInHanded {} Try.checked os 12 .any (Rows.liftBackSpec.pre6 enc Try.prog Try.f12 Rows.liftBackRow.domain false) (Rows.liftBackSpec.post enc Try.prog Try.f12 false true false false) := by
  refine returnsInHanded_of_change (C := Try.checked) rowOwn started (by kernel_rfl) Try.func12
    (ChangeSpec.witness6 (enc := enc) (C := Try.checked) false ⟨#[], #[.int .i64 0, .int .i64 0], []⟩ 8 (by kernel_rfl) (by kernel_rfl) (by kernel_rfl) (by kernel_rfl)) ?_
  intro W base args ds gs before hval0 hW hcnd _
  have hval : ∀ (j : Nat) t v, Try.f12.params[j]? = some t → args[j]? = some v → Value.okWide Try.prog W .any base t v := hval0
  have hW' := hW
  obtain ⟨p, q, hA0, hV, rfl, hfz, hnd⟩ := hW
  have hA : DataW.TrodAll enc Try.prog W 0 (fun _ => true) true Try.f12.params.toList args.toList ds p := hA0
  rw [Try.params12] at hA hval
  obtain ⟨v0, vs0, d0, ds0, p0, q0, hargs, rfl, rfl, h0, r0⟩ := trodAll_cons hA
  obtain ⟨v1, vs1, d1, ds1, p1, q1, rfl, rfl, rfl, h1, r1⟩ := trodAll_cons r0
  obtain ⟨rfl, rfl, rfl⟩ := trodAll_nil r1
  obtain rfl : args = #[v0, v1] := by cases args; simp_all
  obtain ⟨rfl, rfl⟩ := trodVars_none hV
  obtain ⟨a0, rfl, rfl, rfl, w0⟩ := open_int Try.underlying3 (hval 0 3 v0 rfl rfl) h0
  obtain ⟨a1, rfl, rfl, rfl, w1⟩ := open_int Try.underlying3 (hval 1 3 v1 rfl rfl) h1
  clear hA0 hval0
  refine (calls_of_fn Try.func12 (by kernel_rfl) rfl (fnLiftBack a0 a1 (bounds_i64 w0) (bounds_i64 w1)) (fun _ _ h => by cases h) (VRs.cons rfl (VRs.cons rfl VRs.snoc_nil))).mono fun e W' ⟨he, bel⟩ => ?_
  subst he
  exact ⟨_, rfl, _, _, _, [], _, [], hW', trodAll_mk1 (shut_bool Try.underlying4 _), (trodAll_cons_mk (shut_int Try.underlying3 w0) (trodAll_cons_mk (shut_int Try.underlying3 w1) trodAll_mk0)), rfl, bel.frame _, fun h => by cases h⟩
theorem over : Rows.liftBackRow.holds Try.pinned (OpenSpec.ofChange Rows.liftBackSpec) :=
  OpenClaim.holds_of_wide 12 Try.f12 rfl rfl rfl rfl rfl rfl rfl ⟨rfl, rfl, rfl, rfl, rfl⟩ rfl rfl rfl rfl rfl (by kernel_rfl) Try.func12 (by kernel_rfl)
    (of_decide_eq_true (by kernel_rfl)) (by unfold Func.isWrapper; first | (rw [if_pos (by decide +kernel)]; kernel_rfl) | (rw [if_neg (by decide +kernel)]; exact ⟨rfl, rfl⟩))
    (fun os started H enc _ => lifted os started H enc)
theorem proved : Rows.LiftBackSaid := over
end lawLiftBack

end Go.Proofs.Ytdicmddedcfhaaa
