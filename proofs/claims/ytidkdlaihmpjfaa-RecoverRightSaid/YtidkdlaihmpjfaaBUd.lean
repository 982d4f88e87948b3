/- sign.Point by a small curve, and signTells, by the engine. -/
import Derived.Test.YtidkdlaihmpjfaaBUc
namespace Go.Proofs.Ytidkdlaihmpjfaa
set_option linter.unusedVariables false
set_option linter.unusedSimpArgs false
set_option linter.unusedSectionVars false
open Go.ChangeShapes Go.WideShapes Go.ChangeAt Go.RowKit Go.Joins
set_option maxRecDepth 10000
theorem spoint_gk {k : Nat} (h : k < 8) {d : Nat} (d0 : 0 < d) (hd : d < (crv k).N) : FnV Try.prog G0 24 [(crv k).v, uV d] (.tup [(gk k d).v, nI .i64 0]) := by
  have on : OnP (crv k) (crv k).base := by rw [← gk_base h]; exact gk_on h 1
  have st := gk_steps h 1 d
  rw [gk_base h] at st
  have := spoint_ok (good_crv h) d0 hd on st
  rw [Nat.mul_one] at this
  exact this
theorem stells_fn : FnV Try.prog G0 9 [] (bI true) := by
  have h : 0 < 8 := by decide
  have cv := curve_fn 0
  rw [show ((0 : Int) % 8).toNat = 0 from rfl] at cv
  have sp := spoint_gk h (d := 1) (by decide) (by decide)
  have e1 := eq_pt_self (gk_lt h 1)
  rw [gk_base h] at sp e1
  unfold CvD.base at sp e1
  unfold CvD.v CvD.cells PtD.v PtD.cells at *
  rw [uV_w4 (n := 1) (by decide)] at sp
  dsimp only at *
  refine fn_of_vwp Γok Try.func9 (by kernel_rfl) rfl (by simp [Try.ntmps9]) (wpv_ok Γok (by kernel_rfl) _ _ _ ?_); conv => whnf
  refine ⟨_, ret_of_fn G0ok (cv) (by first | rfl | simp only [noHs, noH, nI, bI, Bool.and_self, Bool.and_true, Bool.true_and, ]) (by first | rfl | simp only [noHs, noH, nI, bI, Bool.and_self, Bool.and_true, Bool.true_and, ]), ?_⟩; (conv => whnf); (try (refine ⟨by kernel_rfl, ?_⟩; conv => whnf))
  refine ⟨_, ret_of_fn G0ok (sp) (by first | rfl | simp only [noHs, noH, nI, bI, Bool.and_self, Bool.and_true, Bool.true_and, ]) (by first | rfl | simp only [noHs, noH, nI, bI, Bool.and_self, Bool.and_true, Bool.true_and, ]), ?_⟩; (conv => whnf); (try (refine ⟨by kernel_rfl, ?_⟩; conv => whnf))
  refine ⟨_, e1, ?_⟩
  conv => whnf
  try (refine ⟨by kernel_rfl, ?_⟩; conv => whnf)
  exact ⟨_, rfl, rfl⟩
end Go.Proofs.Ytidkdlaihmpjfaa
