/- field.add, field.sub by the engine. -/
import Derived.Test.YtidkdlaihmpjfaaDoorVDiv
namespace Go.Proofs.YtidkdlaihmpjfaaDoor
set_option linter.unusedVariables false
set_option linter.unusedSimpArgs false
set_option linter.unusedSectionVars false
open Go.ChangeShapes Go.WideShapes Go.ChangeAt Go.RowKit Go.Joins
set_option maxRecDepth 10000
theorem addM_ex : ∃ f : Nat → Nat → Nat → Nat, ∀ m a b, f m a b = (a + b) % m := ⟨_, fun _ _ _ => rfl⟩
noncomputable def addM : Nat → Nat → Nat → Nat := Classical.choose addM_ex
theorem addM_def (m a b : Nat) : addM m a b = (a + b) % m := Classical.choose_spec addM_ex m a b
theorem subM_ex : ∃ f : Nat → Nat → Nat → Nat, ∀ m a b, f m a b = (a + (m - b)) % m := ⟨_, fun _ _ _ => rfl⟩
noncomputable def subM : Nat → Nat → Nat → Nat := Classical.choose subM_ex
theorem subM_def (m a b : Nat) : subM m a b = (a + (m - b)) % m := Classical.choose_spec subM_ex m a b
theorem addM_lt {m a b : Nat} (h : 0 < m) : addM m a b < m := by rw [addM_def]; exact Nat.mod_lt _ h
theorem subM_lt {m a b : Nat} (h : 0 < m) : subM m a b < m := by rw [subM_def]; exact Nat.mod_lt _ h
theorem mod_once {x m : Nat} (h1 : m ≤ x) (h2 : x < 2 * m) : x % m = x - m := by
  rw [Nat.mod_eq_sub_mod h1, Nat.mod_eq_of_lt (by omega)]
theorem fadd_fn {a b m : Nat} (ha : a < m) (hb : b < m) (hm : m < T256) : FnV Tryd.prog G0 92 [uV a, uV b, uV m] (uV (addM m a b)) := by
  have h1 := add_fn (a := a) (b := b) (by omega) (by omega)
  have hs := addS_lt a b
  have h2 := cmp_fn hs hm
  have h3 := sub_fn hs hm
  have e1 : addO a b = true ∨ m ≤ addS a b → subS (addS a b) m = addM m a b := by
    intro h
    rw [addO_def, addS_def] at h
    rw [subS_def, addS_def, addM_def]
    rw [T256_lit] at *
    simp only [decide_eq_true_eq] at h
    rw [mod_once (x := a + b) (m := m) (by omega) (by omega)]
    omega
  have e2 : addO a b = false → addS a b < m → addS a b = addM m a b := by
    intro h h'
    rw [addO_def] at h
    rw [addS_def] at h' ⊢
    rw [addM_def]
    rw [T256_lit] at *
    simp only [decide_eq_false_iff_not] at h
    have h2 : (a + b) % 115792089237316195423570985008687907853269984665640564039457584007913129639936 = a + b := Nat.mod_eq_of_lt (by omega)
    rw [h2] at h' ⊢
    rw [Nat.mod_eq_of_lt h']
  refine gen_ex (addM m a b) fun r hr => ?_
  rw [← hr] at e1 e2 ⊢
  clear hr
  refine gen_ex (addS a b) fun s hs' => ?_
  rw [← hs'] at h1 h2 h3 e1 e2 hs
  clear hs'
  refine gen_ex (addO a b) fun o ho' => ?_
  rw [← ho'] at h1 e1 e2
  clear ho' ha hb
  refine fn_of_vwp Γok Tryd.func92 (by kernel_rfl) rfl (by simp [Tryd.ntmps92]) (wpv_ok Γok (by kernel_rfl) _ _ _ ?_); conv => whnf
  refine ⟨_, ret_of_fn G0ok (h1) (by first | rfl | simp only [noHs, noH, nI, bI, Bool.and_self, Bool.and_true, Bool.true_and, ]) (by first | rfl | simp only [noHs, noH, nI, bI, Bool.and_self, Bool.and_true, Bool.true_and, ]), ?_⟩; (conv => whnf); (try (refine ⟨by kernel_rfl, ?_⟩; conv => whnf))
  cases o
  · conv => whnf
    try (refine ⟨by kernel_rfl, ?_⟩; conv => whnf)
    refine ⟨_, ret_of_fn G0ok (h2) (by first | rfl | simp only [noHs, noH, nI, bI, Bool.and_self, Bool.and_true, Bool.true_and, ]) (by first | rfl | simp only [noHs, noH, nI, bI, Bool.and_self, Bool.and_true, Bool.true_and, ]), ?_⟩; (conv => whnf); (try (refine ⟨by kernel_rfl, ?_⟩; conv => whnf))
    by_cases hc : cmpN s m ≥ 0
    · rw [decide_eq_true hc]
      conv => whnf
      try (refine ⟨by kernel_rfl, ?_⟩; conv => whnf)
      refine ⟨_, ret_of_fn G0ok (h3) (by first | rfl | simp only [noHs, noH, nI, bI, Bool.and_self, Bool.and_true, Bool.true_and, ]) (by first | rfl | simp only [noHs, noH, nI, bI, Bool.and_self, Bool.and_true, Bool.true_and, ]), ?_⟩; (conv => whnf); (try (refine ⟨by kernel_rfl, ?_⟩; conv => whnf))
      rw [e1 (.inr (cmpN_ge.1 hc))]
      exact ⟨_, rfl, rfl⟩
    · rw [decide_eq_false hc]
      conv => whnf
      try (refine ⟨by kernel_rfl, ?_⟩; conv => whnf)
      rw [e2 rfl (by have := (not_congr cmpN_ge).1 hc; omega)]
      exact ⟨_, rfl, rfl⟩
  · conv => whnf
    try (refine ⟨by kernel_rfl, ?_⟩; conv => whnf)
    refine ⟨_, ret_of_fn G0ok (h3) (by first | rfl | simp only [noHs, noH, nI, bI, Bool.and_self, Bool.and_true, Bool.true_and, ]) (by first | rfl | simp only [noHs, noH, nI, bI, Bool.and_self, Bool.and_true, Bool.true_and, ]), ?_⟩; (conv => whnf); (try (refine ⟨by kernel_rfl, ?_⟩; conv => whnf))
    rw [e1 (.inl rfl)]
    exact ⟨_, rfl, rfl⟩
theorem fsub_fn {a b m : Nat} (ha : a < m) (hb : b < m) (hm : m < T256) : FnV Tryd.prog G0 86 [uV a, uV b, uV m] (uV (subM m a b)) := by
  have h1 := sub_fn (a := a) (b := b) (by omega) (by omega)
  have hs := subS_lt a b
  have h2 := add_fn hs hm
  have e1 : subO a b = true → addS (subS a b) m = subM m a b := by
    intro h
    rw [subO_def] at h
    rw [subS_def, addS_def, subM_def]
    rw [T256_lit] at *
    simp only [decide_eq_true_eq] at h
    rw [Nat.mod_eq_of_lt (a := a + (m - b)) (by omega)]
    omega
  have e2 : subO a b = false → subS a b = subM m a b := by
    intro h
    rw [subO_def] at h
    rw [subS_def, subM_def]
    rw [T256_lit] at *
    simp only [decide_eq_false_iff_not] at h
    rw [mod_once (x := a + (m - b)) (m := m) (by omega) (by omega)]
    omega
  refine gen_ex (subM m a b) fun r hr => ?_
  rw [← hr] at e1 e2 ⊢
  clear hr
  refine gen_ex (subS a b) fun s hs' => ?_
  rw [← hs'] at h1 h2 e1 e2 hs
  clear hs'
  refine gen_ex (subO a b) fun o ho' => ?_
  rw [← ho'] at h1 e1 e2
  clear ho' ha hb
  refine fn_of_vwp Γok Tryd.func86 (by kernel_rfl) rfl (by simp [Tryd.ntmps86]) (wpv_ok Γok (by kernel_rfl) _ _ _ ?_); conv => whnf
  refine ⟨_, ret_of_fn G0ok (h1) (by first | rfl | simp only [noHs, noH, nI, bI, Bool.and_self, Bool.and_true, Bool.true_and, ]) (by first | rfl | simp only [noHs, noH, nI, bI, Bool.and_self, Bool.and_true, Bool.true_and, ]), ?_⟩; (conv => whnf); (try (refine ⟨by kernel_rfl, ?_⟩; conv => whnf))
  cases o
  · conv => whnf
    try (refine ⟨by kernel_rfl, ?_⟩; conv => whnf)
    rw [e2 rfl]
    exact ⟨_, rfl, rfl⟩
  · conv => whnf
    try (refine ⟨by kernel_rfl, ?_⟩; conv => whnf)
    refine ⟨_, ret_of_fn G0ok (h2) (by first | rfl | simp only [noHs, noH, nI, bI, Bool.and_self, Bool.and_true, Bool.true_and, ]) (by first | rfl | simp only [noHs, noH, nI, bI, Bool.and_self, Bool.and_true, Bool.true_and, ]), ?_⟩; (conv => whnf); (try (refine ⟨by kernel_rfl, ?_⟩; conv => whnf))
    rw [e1 rfl]
    exact ⟨_, rfl, rfl⟩
end Go.Proofs.YtidkdlaihmpjfaaDoor
