/- field.fault, by, Add, Sub, Mul by the engine. -/
import Derived.Test.YtidkdlaihmpjfaaDoorVFMul
namespace Go.Proofs.YtidkdlaihmpjfaaDoor
set_option linter.unusedVariables false
set_option linter.unusedSimpArgs false
set_option linter.unusedSectionVars false
open Go.ChangeShapes Go.WideShapes Go.ChangeAt Go.RowKit Go.Joins
set_option maxRecDepth 10000
theorem fault2_fn {a b m : Nat} (ha : a < m) (hb : b < m) (hm : m < T256) : FnV Tryd.prog G0 85 [uV m, .ds false 2 (uC a ++ uC b)] (nI .i64 0) := by
  have c1 := cmp_fn (a := a) (b := m) (by omega) hm
  have c2 := cmp_fn (a := b) (b := m) (by omega) hm
  rw [cmpN_lt ha] at c1
  rw [cmpN_lt hb] at c2
  refine fn_of_vwp Γok Tryd.func85 (by kernel_rfl) rfl (by simp [Tryd.ntmps85]) (wpv_ok Γok (by kernel_rfl) _ _ _ ?_); conv => whnf
  refine ⟨_, eq_zero hm, ?_⟩
  rw [decide_eq_false (by omega)]
  conv => whnf
  try (refine ⟨by kernel_rfl, ?_⟩; conv => whnf)
  refine vloop_unroll ?_
  refine wpv_ok Γok (by kernel_rfl) _ _ _ ?_; conv => whnf
  conv => whnf
  try (refine ⟨by kernel_rfl, ?_⟩; conv => whnf)
  refine ⟨_, ret_of_fn G0ok (c1) (by first | rfl | simp only [noHs, noH, nI, bI, Bool.and_self, Bool.and_true, Bool.true_and, ]) (by first | rfl | simp only [noHs, noH, nI, bI, Bool.and_self, Bool.and_true, Bool.true_and, ]), ?_⟩; (conv => whnf); (try (refine ⟨by kernel_rfl, ?_⟩; conv => whnf))
  rw [ws_i64 (by decide) (by decide)]
  conv => whnf
  try (refine ⟨by kernel_rfl, ?_⟩; conv => whnf)
  refine vloop_unroll ?_
  refine wpv_ok Γok (by kernel_rfl) _ _ _ ?_; conv => whnf
  conv => whnf
  try (refine ⟨by kernel_rfl, ?_⟩; conv => whnf)
  refine ⟨_, ret_of_fn G0ok (c2) (by first | rfl | simp only [noHs, noH, nI, bI, Bool.and_self, Bool.and_true, Bool.true_and, ]) (by first | rfl | simp only [noHs, noH, nI, bI, Bool.and_self, Bool.and_true, Bool.true_and, ]), ?_⟩; (conv => whnf); (try (refine ⟨by kernel_rfl, ?_⟩; conv => whnf))
  rw [ws_i64 (by decide) (by decide)]
  conv => whnf
  try (refine ⟨by kernel_rfl, ?_⟩; conv => whnf)
  refine vloop_unroll ?_
  refine wpv_ok Γok (by kernel_rfl) _ _ _ ?_; conv => whnf
  conv => whnf
  try (refine ⟨by kernel_rfl, ?_⟩; conv => whnf)
  exact ⟨_, rfl, rfl⟩
theorem add_by {a b m : Nat} (ha : a < m) (hb : b < m) (hm : m < T256) : FnV Tryd.prog G0 78 [uV a, uV b, uV m] (.tup [uV (addM m a b), nI .i64 0]) := by
  have hby : FnV Tryd.prog G0 88 [.fn (.func 92) [], uV a, uV b, uV m] (.tup [uV (addM m a b), nI .i64 0]) := by
    refine fn_of_vwp Γok Tryd.func88 (by kernel_rfl) rfl (by simp [Tryd.ntmps88]) (wpv_ok Γok (by kernel_rfl) _ _ _ ?_); conv => whnf
    refine .read 2 (uC a ++ uC b) rfl rfl ?_ ?_ ?_
    · rfl
    · rfl
    conv => whnf
    try (refine ⟨by kernel_rfl, ?_⟩; conv => whnf)
    refine ⟨_, ret_of_fn G0ok (fault2_fn ha hb hm) (by first | rfl | simp only [noHs, noH, nI, bI, Bool.and_self, Bool.and_true, Bool.true_and, ]) (by first | rfl | simp only [noHs, noH, nI, bI, Bool.and_self, Bool.and_true, Bool.true_and, ]), ?_⟩; (conv => whnf); (try (refine ⟨by kernel_rfl, ?_⟩; conv => whnf))
    refine ⟨_, ret_of_fn G0ok (fadd_fn ha hb hm) (by first | rfl | simp only [noHs, noH, nI, bI, Bool.and_self, Bool.and_true, Bool.true_and, ]) (by first | rfl | simp only [noHs, noH, nI, bI, Bool.and_self, Bool.and_true, Bool.true_and, ]), ?_⟩; (conv => whnf); (try (refine ⟨by kernel_rfl, ?_⟩; conv => whnf))
    exact ⟨_, rfl, rfl⟩
  refine fn_of_vwp Γok Tryd.func78 (by kernel_rfl) rfl (by simp [Tryd.ntmps78]) (wpv_ok Γok (by kernel_rfl) _ _ _ ?_); conv => whnf
  refine ⟨_, ret_of_fn G0ok (hby) (by first | rfl | simp only [noHs, noH, nI, bI, Bool.and_self, Bool.and_true, Bool.true_and, ]) (by first | rfl | simp only [noHs, noH, nI, bI, Bool.and_self, Bool.and_true, Bool.true_and, ]), ?_⟩; (conv => whnf); (try (refine ⟨by kernel_rfl, ?_⟩; conv => whnf))
  exact ⟨_, rfl, rfl⟩
theorem sub_by {a b m : Nat} (ha : a < m) (hb : b < m) (hm : m < T256) : FnV Tryd.prog G0 64 [uV a, uV b, uV m] (.tup [uV (subM m a b), nI .i64 0]) := by
  have hby : FnV Tryd.prog G0 88 [.fn (.func 86) [], uV a, uV b, uV m] (.tup [uV (subM m a b), nI .i64 0]) := by
    refine fn_of_vwp Γok Tryd.func88 (by kernel_rfl) rfl (by simp [Tryd.ntmps88]) (wpv_ok Γok (by kernel_rfl) _ _ _ ?_); conv => whnf
    refine .read 2 (uC a ++ uC b) rfl rfl ?_ ?_ ?_
    · rfl
    · rfl
    conv => whnf
    try (refine ⟨by kernel_rfl, ?_⟩; conv => whnf)
    refine ⟨_, ret_of_fn G0ok (fault2_fn ha hb hm) (by first | rfl | simp only [noHs, noH, nI, bI, Bool.and_self, Bool.and_true, Bool.true_and, ]) (by first | rfl | simp only [noHs, noH, nI, bI, Bool.and_self, Bool.and_true, Bool.true_and, ]), ?_⟩; (conv => whnf); (try (refine ⟨by kernel_rfl, ?_⟩; conv => whnf))
    refine ⟨_, ret_of_fn G0ok (fsub_fn ha hb hm) (by first | rfl | simp only [noHs, noH, nI, bI, Bool.and_self, Bool.and_true, Bool.true_and, ]) (by first | rfl | simp only [noHs, noH, nI, bI, Bool.and_self, Bool.and_true, Bool.true_and, ]), ?_⟩; (conv => whnf); (try (refine ⟨by kernel_rfl, ?_⟩; conv => whnf))
    exact ⟨_, rfl, rfl⟩
  refine fn_of_vwp Γok Tryd.func64 (by kernel_rfl) rfl (by simp [Tryd.ntmps64]) (wpv_ok Γok (by kernel_rfl) _ _ _ ?_); conv => whnf
  refine ⟨_, ret_of_fn G0ok (hby) (by first | rfl | simp only [noHs, noH, nI, bI, Bool.and_self, Bool.and_true, Bool.true_and, ]) (by first | rfl | simp only [noHs, noH, nI, bI, Bool.and_self, Bool.and_true, Bool.true_and, ]), ?_⟩; (conv => whnf); (try (refine ⟨by kernel_rfl, ?_⟩; conv => whnf))
  exact ⟨_, rfl, rfl⟩
theorem mul_by {a b m : Nat} (ha : a < m) (hb : b < m) (hm : m < T256) : FnV Tryd.prog G0 63 [uV a, uV b, uV m] (.tup [uV (mulM m a b), nI .i64 0]) := by
  have hby : FnV Tryd.prog G0 88 [.fn (.func 87) [], uV a, uV b, uV m] (.tup [uV (mulM m a b), nI .i64 0]) := by
    refine fn_of_vwp Γok Tryd.func88 (by kernel_rfl) rfl (by simp [Tryd.ntmps88]) (wpv_ok Γok (by kernel_rfl) _ _ _ ?_); conv => whnf
    refine .read 2 (uC a ++ uC b) rfl rfl ?_ ?_ ?_
    · rfl
    · rfl
    conv => whnf
    try (refine ⟨by kernel_rfl, ?_⟩; conv => whnf)
    refine ⟨_, ret_of_fn G0ok (fault2_fn ha hb hm) (by first | rfl | simp only [noHs, noH, nI, bI, Bool.and_self, Bool.and_true, Bool.true_and, ]) (by first | rfl | simp only [noHs, noH, nI, bI, Bool.and_self, Bool.and_true, Bool.true_and, ]), ?_⟩; (conv => whnf); (try (refine ⟨by kernel_rfl, ?_⟩; conv => whnf))
    refine ⟨_, ret_of_fn G0ok (fmul_fn ha (by omega) hm) (by first | rfl | simp only [noHs, noH, nI, bI, Bool.and_self, Bool.and_true, Bool.true_and, ]) (by first | rfl | simp only [noHs, noH, nI, bI, Bool.and_self, Bool.and_true, Bool.true_and, ]), ?_⟩; (conv => whnf); (try (refine ⟨by kernel_rfl, ?_⟩; conv => whnf))
    exact ⟨_, rfl, rfl⟩
  refine fn_of_vwp Γok Tryd.func63 (by kernel_rfl) rfl (by simp [Tryd.ntmps63]) (wpv_ok Γok (by kernel_rfl) _ _ _ ?_); conv => whnf
  refine ⟨_, ret_of_fn G0ok (hby) (by first | rfl | simp only [noHs, noH, nI, bI, Bool.and_self, Bool.and_true, Bool.true_and, ]) (by first | rfl | simp only [noHs, noH, nI, bI, Bool.and_self, Bool.and_true, Bool.true_and, ]), ?_⟩; (conv => whnf); (try (refine ⟨by kernel_rfl, ?_⟩; conv => whnf))
  exact ⟨_, rfl, rfl⟩
end Go.Proofs.YtidkdlaihmpjfaaDoor
