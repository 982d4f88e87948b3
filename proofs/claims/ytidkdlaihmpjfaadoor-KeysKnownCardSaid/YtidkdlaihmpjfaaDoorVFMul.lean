/- field.mul by the engine. -/
import Derived.Test.YtidkdlaihmpjfaaDoorVBits
namespace Go.Proofs.YtidkdlaihmpjfaaDoor
set_option linter.unusedVariables false
set_option linter.unusedSimpArgs false
set_option linter.unusedSectionVars false
open Go.ChangeShapes Go.WideShapes Go.ChangeAt Go.RowKit Go.Joins
set_option maxRecDepth 10000
theorem mulM_ex : ∃ f : Nat → Nat → Nat → Nat, ∀ m a b, f m a b = a * b % m := ⟨_, fun _ _ _ => rfl⟩
noncomputable def mulM : Nat → Nat → Nat → Nat := Classical.choose mulM_ex
theorem mulM_def (m a b : Nat) : mulM m a b = a * b % m := Classical.choose_spec mulM_ex m a b
theorem mulM_lt {m a b : Nat} (h : 0 < m) : mulM m a b < m := by rw [mulM_def]; exact Nat.mod_lt _ h
theorem mulM_step (m a v t : Nat) (ht : t ≤ 1) : (if decide (t = 1) then addM m (addM m (mulM m a v) (mulM m a v)) a else addM m (mulM m a v) (mulM m a v)) = mulM m a (2 * v + t) := by
  have h2 : addM m (mulM m a v) (mulM m a v) = (a * v + a * v) % m := by
    rw [addM_def, mulM_def, Nat.mod_add_mod, Nat.add_comm, Nat.mod_add_mod]
  rw [h2]
  by_cases h : t = 1
  · rw [decide_eq_true h, if_pos rfl, addM_def, Nat.mod_add_mod, mulM_def, h]
    congr 1
    rw [Nat.mul_add, Nat.mul_one, Nat.mul_left_comm, Nat.two_mul]
  · have h0 : t = 0 := by omega
    rw [decide_eq_false h, if_neg (by decide), mulM_def, h0]
    congr 1
    rw [Nat.add_zero, Nat.mul_left_comm, Nat.two_mul]
theorem fmul_fn {a b m : Nat} (ha : a < m) (hb : b < T256) (hm : m < T256) : FnV Tryd.prog G0 87 [uV a, uV b, uV m] (uV (mulM m a b)) := by
  have hbits := bits_fnH (g := 95) (f := mulM m a) (m := m) (a := a) hb (fun v t ht _ => by
    have := mul1_fnH ha (mulM_lt (m := m) (a := a) (b := v) (by omega)) hm (decide (t = 1))
    rw [mulM_step m a v t ht] at this
    exact this)
  have h0 : mulM m a 0 = 0 := by rw [mulM_def, Nat.mul_zero, Nat.zero_mod]
  rw [h0] at hbits
  unfold H3 at hbits
  rw [uC_lit (n := 0) (by decide)] at hbits
  refine fn_of_vwp Γok Tryd.func87 (by kernel_rfl) rfl (by simp [Tryd.ntmps87]) (wpv_ok Γok (by kernel_rfl) _ _ _ ?_); conv => whnf
  refine ⟨_, ret_fnH G0ok hbits [4, 2, 0] rfl rfl rfl rfl rfl ⟨⟨⟨trivial, _, rfl, rfl, rfl⟩, _, rfl, rfl, rfl⟩, _, rfl, rfl, rfl⟩ (outH3 _ _ _) rfl rfl (upd := [(4, some (uC (mulM m a b))), (2, some (uC m)), (0, some (uC a))]) (by rfl), ?_⟩
  conv => whnf
  try (refine ⟨by kernel_rfl, ?_⟩; conv => whnf)
  exact ⟨_, rfl, rfl⟩
end Go.Proofs.YtidkdlaihmpjfaaDoor
