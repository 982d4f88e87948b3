/- picked: a number below another one. -/
import Derived.Test.YtidkdlaihmpjfaaDoorVLaw
import Derived.WalkArith
import Derived.IntWalk
namespace Go.Proofs.YtidkdlaihmpjfaaDoor
set_option linter.unusedVariables false
set_option linter.unusedSimpArgs false
set_option linter.unusedSectionVars false
open Go.ChangeShapes Go.WideShapes Go.ChangeAt Go.RowKit Go.Joins
set_option maxRecDepth 10000
theorem picked_fn (n m : Int) (hm : 0 < m) (hm2 : m ≤ 9223372036854775807) : FnV Tryd.prog G0 13 [nI .i64 n, nI .i64 m] (nI .i64 (n % m)) := by
  refine fn_of_vwp Γok Tryd.func13 (by kernel_rfl) rfl (by simp [Tryd.ntmps13]) (wpv_ok Γok (by kernel_rfl) _ _ _ ?_); conv => whnf
  refine bindP_intro (if_neg (by omega)) ?_
  conv => whnf
  refine bool_cases (fun h => ?_) (fun h => ?_)
  · conv => whnf
    refine ⟨_, rfl, congrArg (fun x => some (nI .i64 x)) ?_⟩
    have h := of_decide_eq_true h
    have h1 := Int.emod_nonneg n (show m ≠ 0 by omega)
    have h2 := Int.emod_lt_of_pos n hm
    have : n.tmod m + m = n % m := by
      rw [Int.tmod_eq_emod] at *
      split at h <;> rename_i hc
      · omega
      · rw [if_neg hc]; omega
    rw [this, ws_i64 (by omega) (by omega)]
  · conv => whnf
    refine ⟨_, rfl, congrArg (fun x => some (nI .i64 x)) ?_⟩
    have h := of_decide_eq_false h
    have h1 := Int.emod_nonneg n (show m ≠ 0 by omega)
    rw [Int.tmod_eq_emod] at *
    split at h <;> rename_i hc
    · rw [if_pos hc]; omega
    · have := Int.emod_lt_of_pos n hm
      rw [if_neg hc]; omega
end Go.Proofs.YtidkdlaihmpjfaaDoor
