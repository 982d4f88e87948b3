/- field.Pow by the engine. -/
import Derived.Test.YtidkdlaihmpjfaaDoorVFBy
namespace Go.Proofs.YtidkdlaihmpjfaaDoor
set_option linter.unusedVariables false
set_option linter.unusedSimpArgs false
set_option linter.unusedSectionVars false
open Go.ChangeShapes Go.WideShapes Go.ChangeAt Go.RowKit Go.Joins
set_option maxRecDepth 10000
theorem powM_ex : ∃ f : Nat → Nat → Nat → Nat, ∀ m a e, f m a e = a ^ e % m := ⟨_, fun _ _ _ => rfl⟩
noncomputable def powM : Nat → Nat → Nat → Nat := Classical.choose powM_ex
theorem powM_def (m a e : Nat) : powM m a e = a ^ e % m := Classical.choose_spec powM_ex m a e
theorem powM_lt {m a e : Nat} (h : 0 < m) : powM m a e < m := by rw [powM_def]; exact Nat.mod_lt _ h
theorem powM_step (m a v t : Nat) (ht : t ≤ 1) : (if decide (t = 1) then mulM m (mulM m (powM m a v) (powM m a v)) a else mulM m (powM m a v) (powM m a v)) = powM m a (2 * v + t) := by
  have h2 : mulM m (powM m a v) (powM m a v) = a ^ (2 * v) % m := by
    rw [mulM_def, powM_def, ← Nat.mul_mod, ← Nat.pow_add, Nat.two_mul]
  rw [h2]
  by_cases h : t = 1
  · rw [decide_eq_true h, if_pos rfl, mulM_def, powM_def, h, Nat.pow_succ, Nat.mul_mod, Nat.mod_mod, ← Nat.mul_mod]
  · have h0 : t = 0 := by omega
    rw [decide_eq_false h, if_neg (by decide), powM_def, h0, Nat.add_zero]
theorem pow1_fnH {a m x : Nat} (ha : a < m) (hx : x < m) (hm : m < T256) (one : Bool) : FnH Tryd.prog G0 94 [bI one, .ptr 0 0, .ptr 1 0, .ptr 2 0] [(0, some (uC x)), (1, some (uC m)), (2, some (uC a))] 3 (.tup [])
    [(0, some (uC (if one then mulM m (mulM m x x) a else mulM m x x))), (1, some (uC m)), (2, some (uC a))] 0 := by
  refine fnH_of_vwp Γok G0ok Tryd.func94 (by kernel_rfl) rfl (by simp [Tryd.ntmps94]) (wpv_ok Γok (by kernel_rfl) _ _ _ ?_); conv => whnf
  refine ⟨_, ret_of_fn G0ok (fmul_fn hx (b := x) (by omega) hm) (by first | rfl | simp only [noHs, noH, nI, bI, Bool.and_self, Bool.and_true, Bool.true_and, ]) (by first | rfl | simp only [noHs, noH, nI, bI, Bool.and_self, Bool.and_true, Bool.true_and, ]), ?_⟩; (conv => whnf); (try (refine ⟨by kernel_rfl, ?_⟩; conv => whnf))
  cases one
  · conv => whnf
    try (refine ⟨by kernel_rfl, ?_⟩; conv => whnf)
    exact ⟨_, rfl, [(0, some 0), (1, some 1), (2, some 2)], rfl, rfl, .same rfl, ⟨.inr ⟨_, _, rfl, rfl, convs_eq rfl (words_noHs _)⟩, .inr ⟨_, _, rfl, rfl, convs_eq rfl (words_noHs _)⟩, .inr ⟨_, _, rfl, rfl, convs_eq rfl (words_noHs _)⟩, trivial⟩⟩
  · conv => whnf
    try (refine ⟨by kernel_rfl, ?_⟩; conv => whnf)
    refine ⟨_, ret_of_fn G0ok (fmul_fn (mulM_lt (by omega)) (b := a) (by omega) hm) (by first | rfl | simp only [noHs, noH, nI, bI, Bool.and_self, Bool.and_true, Bool.true_and, ]) (by first | rfl | simp only [noHs, noH, nI, bI, Bool.and_self, Bool.and_true, Bool.true_and, ]), ?_⟩; (conv => whnf); (try (refine ⟨by kernel_rfl, ?_⟩; conv => whnf))
    exact ⟨_, rfl, [(0, some 0), (1, some 1), (2, some 2)], rfl, rfl, .same rfl, ⟨.inr ⟨_, _, rfl, rfl, convs_eq rfl (words_noHs _)⟩, .inr ⟨_, _, rfl, rfl, convs_eq rfl (words_noHs _)⟩, .inr ⟨_, _, rfl, rfl, convs_eq rfl (words_noHs _)⟩, trivial⟩⟩
theorem fault1_fn {a m : Nat} (ha : a < m) (hm : m < T256) : FnV Tryd.prog G0 85 [uV m, .ds false 1 (uC a)] (nI .i64 0) := by
  have c1 := cmp_fn (a := a) (b := m) (by omega) hm
  rw [cmpN_lt ha] at c1
  refine fn_of_vwp Γok Tryd.func85 (by kernel_rfl) rfl (by simp [Tryd.ntmps85]) (wpv_ok Γok (by kernel_rfl) _ _ _ ?_); conv => whnf
  refine ⟨_, eq_zero hm, ?_⟩
  rw [decide_eq_false (by omega)]
  conv => whnf
  try (refine ⟨by kernel_rfl, ?_⟩; conv => whnf)
  refine vloop_unroll ?_
  refine wpv_ok Γok (by kernel_rfl) _ _ _ ?_; conv => whnf
  conv => whnf
  try (refine ⟨by kernel_rfl, ?_⟩; conv => whnf)
  refine ⟨_, ret_of_fn G0ok (c1) (by first | rfl | simp only [noHs, noH, nI, bI, Bool.and_self, Bool.and_true, Bool.true_and, ]) (by first | rfl | simp only [noHs, noH, nI, bI, Bool.and_self, Bool.and_true, Bool.true_and, ]), ?_⟩; (conv => whnf); (try (refine ⟨by kernel_rfl, ?_⟩; conv => whnf))
  rw [ws_i64 (by decide) (by decide)]
  conv => whnf
  try (refine ⟨by kernel_rfl, ?_⟩; conv => whnf)
  refine vloop_unroll ?_
  refine wpv_ok Γok (by kernel_rfl) _ _ _ ?_; conv => whnf
  conv => whnf
  try (refine ⟨by kernel_rfl, ?_⟩; conv => whnf)
  exact ⟨_, rfl, rfl⟩
theorem pow_fn {a b m : Nat} (ha : a < m) (hb : b < T256) (hm : m < T256) : FnV Tryd.prog G0 83 [uV a, uV b, uV m] (.tup [uV (powM m a b), nI .i64 0]) := by
  have hbits := bits_fnH (g := 94) (f := powM m a) (m := m) (a := a) hb (fun v t ht _ => by
    have := pow1_fnH ha (powM_lt (m := m) (a := a) (e := v) (by omega)) hm (decide (t = 1))
    rw [powM_step m a v t ht] at this
    exact this)
  have d := div_pos (a := 1) (by decide) hm (show 0 < m by omega)
  rw [show modN 1 m = powM m a 0 from by rw [modN_def, powM_def, Nat.pow_zero], show uV 1 = .agg (words [1, 0, 0, 0]) from congrArg VV.agg (uC_lit (n := 1) (by decide))] at d
  unfold H3 at hbits
  refine fn_of_vwp Γok Tryd.func83 (by kernel_rfl) rfl (by simp [Tryd.ntmps83]) (wpv_ok Γok (by kernel_rfl) _ _ _ ?_); conv => whnf
  refine .read 1 (uC a) rfl rfl (by rfl) (by rfl) ?_
  conv => whnf
  try (refine ⟨by kernel_rfl, ?_⟩; conv => whnf)
  refine ⟨_, ret_of_fn G0ok (fault1_fn ha hm) (by first | rfl | simp only [noHs, noH, nI, bI, Bool.and_self, Bool.and_true, Bool.true_and, ]) (by first | rfl | simp only [noHs, noH, nI, bI, Bool.and_self, Bool.and_true, Bool.true_and, ]), ?_⟩; (conv => whnf); (try (refine ⟨by kernel_rfl, ?_⟩; conv => whnf))
  refine ⟨_, ret_of_fn G0ok (d) (by first | rfl | simp only [noHs, noH, nI, bI, Bool.and_self, Bool.and_true, Bool.true_and, ]) (by first | rfl | simp only [noHs, noH, nI, bI, Bool.and_self, Bool.and_true, Bool.true_and, ]), ?_⟩; (conv => whnf); (try (refine ⟨by kernel_rfl, ?_⟩; conv => whnf))
  refine ⟨_, ret_fnH G0ok hbits [6, 2, 0] rfl rfl rfl rfl rfl ⟨⟨⟨trivial, _, rfl, rfl, rfl⟩, _, rfl, rfl, rfl⟩, _, rfl, rfl, rfl⟩ (outH3 _ _ _) rfl rfl (upd := [(6, some (uC (powM m a b))), (2, some (uC m)), (0, some (uC a))]) (by rfl), ?_⟩
  conv => whnf
  try (refine ⟨by kernel_rfl, ?_⟩; conv => whnf)
  exact ⟨_, rfl, rfl⟩
end Go.Proofs.YtidkdlaihmpjfaaDoor
