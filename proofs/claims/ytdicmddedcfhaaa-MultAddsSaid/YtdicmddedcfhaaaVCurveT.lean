/- basculekeep.curveTells, Secret, by the engine. -/
import Derived.Test.YtdicmddedcfhaaaVCurveL
namespace Go.Proofs.Ytdicmddedcfhaaa
set_option linter.unusedVariables false
set_option linter.unusedSimpArgs false
set_option linter.unusedSectionVars false
open Go.ChangeShapes Go.WideShapes Go.ChangeAt Go.RowKit Go.Joins
set_option maxRecDepth 10000
theorem ctells_fn : FnV Try.prog G0 27 [] (bI true) := by
  have h : 0 < 8 := by decide
  have cv := curve_fn 0
  rw [show ((0 : Int) % 8).toNat = 0 from rfl] at cv
  have o1 := con_ok (good_crv h) (gk_on h 1)
  have o2 := con_bad (c := crv 0) (good_crv h) (p := ⟨1, 1, false⟩) ⟨by decide, by decide⟩ (by unfold onB; rw [if_neg Bool.false_ne_true]; unfold sideM; simp only [addM_def, mulM_def]; decide)
  have p1 := point_fn h 1
  rw [show ((1 : Int) % ((crv 0).N : Int)).toNat = 1 from by decide] at p1
  have ef : (gk 0 1).far = false := by rw [gk_far]; exact decide_eq_false (by decide)
  have e1 := eq_pt_self (gk_lt h 1)
  rw [gk_base h] at o1 p1 ef e1
  unfold CvD.base at o1 p1 ef e1
  have u1 : uC 1 = words [1, 0, 0, 0] := uC_lit (by decide)
  unfold CvD.v CvD.cells PtD.v PtD.cells at *
  dsimp only at *
  rw [u1] at o2
  refine fn_of_vwp Γok Try.func27 (by kernel_rfl) rfl (by simp [Try.ntmps27]) (wpv_ok Γok (by kernel_rfl) _ _ _ ?_); conv => whnf
  refine ⟨_, ret_of_fn G0ok (cv) (by first | rfl | simp only [noHs, noH, nI, bI, Bool.and_self, Bool.and_true, Bool.true_and, ]) (by first | rfl | simp only [noHs, noH, nI, bI, Bool.and_self, Bool.and_true, Bool.true_and, ]), ?_⟩; (conv => whnf); (try (refine ⟨by kernel_rfl, ?_⟩; conv => whnf))
  refine ⟨_, ret_of_fn G0ok (o1) (by first | rfl | simp only [noHs, noH, nI, bI, Bool.and_self, Bool.and_true, Bool.true_and, ]) (by first | rfl | simp only [noHs, noH, nI, bI, Bool.and_self, Bool.and_true, Bool.true_and, ]), ?_⟩; (conv => whnf); (try (refine ⟨by kernel_rfl, ?_⟩; conv => whnf))
  refine ⟨_, ret_of_fn G0ok (o2) (by first | rfl | simp only [noHs, noH, nI, bI, Bool.and_self, Bool.and_true, Bool.true_and, ]) (by first | rfl | simp only [noHs, noH, nI, bI, Bool.and_self, Bool.and_true, Bool.true_and, ]), ?_⟩; (conv => whnf); (try (refine ⟨by kernel_rfl, ?_⟩; conv => whnf))
  refine ⟨_, ret_of_fn G0ok (p1) (by first | rfl | simp only [noHs, noH, nI, bI, Bool.and_self, Bool.and_true, Bool.true_and, ]) (by first | rfl | simp only [noHs, noH, nI, bI, Bool.and_self, Bool.and_true, Bool.true_and, ]), ?_⟩; (conv => whnf); (try (refine ⟨by kernel_rfl, ?_⟩; conv => whnf))
  refine ⟨_, ret_of_fn G0ok (p1) (by first | rfl | simp only [noHs, noH, nI, bI, Bool.and_self, Bool.and_true, Bool.true_and, ]) (by first | rfl | simp only [noHs, noH, nI, bI, Bool.and_self, Bool.and_true, Bool.true_and, ]), ?_⟩; (conv => whnf); (try (refine ⟨by kernel_rfl, ?_⟩; conv => whnf))
  refine ⟨_, e1, ?_⟩
  conv => whnf
  try (refine ⟨by kernel_rfl, ?_⟩; conv => whnf)
  exact ⟨_, rfl, rfl⟩
theorem secret_fn {k : Nat} (h : k < 8) (n : Int) : FnV Try.prog G0 26 [(crv k).v, nI .i64 n] (uV (1 + (n % ((crv k).N - 1 : Int)).toNat)) := by
  obtain ⟨b1, b2, b3, b4, _⟩ := crv_bounds h
  obtain ⟨l1, l2⟩ := crv_B64 h
  have tT : B64 < T256 := by decide
  have pk := picked_fn n ((crv k).N - 1 : Int) (by omega) (by omega)
  obtain ⟨j, hj, lj⟩ : ∃ j : Nat, n % ((crv k).N - 1 : Int) = (j : Int) ∧ j < (crv k).N - 1 := ⟨(n % ((crv k).N - 1 : Int)).toNat, by have := Int.emod_nonneg n (show ((crv k).N - 1 : Int) ≠ 0 by omega); omega, by have := Int.emod_nonneg n (show ((crv k).N - 1 : Int) ≠ 0 by omega); have := Int.emod_lt_of_pos n (show 0 < ((crv k).N - 1 : Int) by omega); omega⟩
  rw [hj] at pk ⊢
  rw [show ((j : Int)).toNat = j from rfl, uV_w4 (n := 1 + j) (by omega)]
  have w1 : wS .i64 ((crv k).N : Int) = ((crv k).N : Int) := ws_i64 (by omega) (by omega)
  have w2 : wS .i64 (((crv k).N : Int) - 1) = ((crv k).N : Int) - 1 := ws_i64 (by omega) (by omega)
  have w3 : wS .u64 (j : Int) = (j : Int) := ws_u64n (by omega) (by omega)
  have w4 : wS .u64 (1 + (j : Int)) = ((1 + j : Nat) : Int) := by rw [ws_u64n (by omega) (by omega)]; omega
  unfold CvD.v CvD.cells at *
  refine gen_ex (crv k) fun c ec => ?_
  rw [← ec] at pk l1 w1 w2 ⊢
  clear ec hj
  obtain ⟨P, A, B, N, X, Y⟩ := c
  dsimp only at *
  rw [uC_lit (n := N) l1]
  refine fn_of_vwp Γok Try.func26 (by kernel_rfl) rfl (by simp [Try.ntmps26]) (wpv_ok Γok (by kernel_rfl) _ _ _ ?_); conv => whnf
  rw [w1, w2]
  conv => whnf
  try (refine ⟨by kernel_rfl, ?_⟩; conv => whnf)
  refine ⟨_, ret_of_fn G0ok (pk) (by first | rfl | simp only [noHs, noH, nI, bI, Bool.and_self, Bool.and_true, Bool.true_and, ]) (by first | rfl | simp only [noHs, noH, nI, bI, Bool.and_self, Bool.and_true, Bool.true_and, ]), ?_⟩; (conv => whnf); (try (refine ⟨by kernel_rfl, ?_⟩; conv => whnf))
  rw [w3, w4]
  exact ⟨_, rfl, rfl⟩
theorem law_curve (n : Int) : ∃ k, k < 8 ∧ FnV Try.prog G0 23 [nI .i64 n] (crv k).v := ⟨(n % 8).toNat, by omega, curve_fn n⟩
end Go.Proofs.Ytdicmddedcfhaaa
