/- One limb of a number changed. -/
import Derived.Test.YtidkdlaihmpjfaaDoorVWide
namespace Go.Proofs.YtidkdlaihmpjfaaDoor
set_option linter.unusedVariables false
set_option linter.unusedSimpArgs false
set_option linter.unusedSectionVars false
open Go.ChangeShapes Go.WideShapes Go.ChangeAt Go.RowKit Go.Joins
theorem lim_put {q p d : Nat} (hq : q < T256) (hd : d < 4) (h : lim q d + p < B64) : lim (q + B64 ^ d * p) d = lim q d + p ∧ (∀ e, e < 4 → e ≠ d → lim (q + B64 ^ d * p) e = lim q e) ∧ q + B64 ^ d * p < T256 := by
  obtain ⟨a0, a1, a2, a3, k0, k1, k2, k3, rfl⟩ := limbs hq
  obtain ⟨x0, x1, x2, x3⟩ := lim_val4 k0 k1 k2 k3
  have four : ∀ e, e < 4 → e = 0 ∨ e = 1 ∨ e = 2 ∨ e = 3 := by omega
  rcases four d hd with rfl | rfl | rfl | rfl
  · rw [x0] at h
    rw [show val4 a0 a1 a2 a3 + B64 ^ 0 * p = val4 (a0 + p) a1 a2 a3 by unfold val4; simp; omega]
    obtain ⟨y0, y1, y2, y3⟩ := lim_val4 h k1 k2 k3
    refine ⟨by rw [y0, x0], ?_, val4_lt h k1 k2 k3⟩
    intro e he hne
    rcases four e he with rfl | rfl | rfl | rfl <;> first | exact absurd rfl hne | rw [y1, x1] | rw [y2, x2] | rw [y3, x3]
  · rw [x1] at h
    rw [show val4 a0 a1 a2 a3 + B64 ^ 1 * p = val4 a0 (a1 + p) a2 a3 by unfold val4; simp only [Nat.mul_add, Nat.pow_one]; omega]
    obtain ⟨y0, y1, y2, y3⟩ := lim_val4 k0 h k2 k3
    refine ⟨by rw [y1, x1], ?_, val4_lt k0 h k2 k3⟩
    intro e he hne
    rcases four e he with rfl | rfl | rfl | rfl <;> first | exact absurd rfl hne | rw [y0, x0] | rw [y2, x2] | rw [y3, x3]
  · rw [x2] at h
    rw [show val4 a0 a1 a2 a3 + B64 ^ 2 * p = val4 a0 a1 (a2 + p) a3 by unfold val4; simp only [Nat.mul_add, Nat.pow_succ, Nat.pow_zero, Nat.one_mul]; omega]
    obtain ⟨y0, y1, y2, y3⟩ := lim_val4 k0 k1 h k3
    refine ⟨by rw [y2, x2], ?_, val4_lt k0 k1 h k3⟩
    intro e he hne
    rcases four e he with rfl | rfl | rfl | rfl <;> first | exact absurd rfl hne | rw [y0, x0] | rw [y1, x1] | rw [y3, x3]
  · rw [x3] at h
    rw [show val4 a0 a1 a2 a3 + B64 ^ 3 * p = val4 a0 a1 a2 (a3 + p) by unfold val4; simp only [Nat.mul_add, Nat.pow_succ, Nat.pow_zero, Nat.one_mul]; omega]
    obtain ⟨y0, y1, y2, y3⟩ := lim_val4 k0 k1 k2 h
    refine ⟨by rw [y3, x3], ?_, val4_lt k0 k1 k2 h⟩
    intro e he hne
    rcases four e he with rfl | rfl | rfl | rfl <;> first | exact absurd rfl hne | rw [y0, x0] | rw [y1, x1] | rw [y2, x2]

end Go.Proofs.YtidkdlaihmpjfaaDoor
