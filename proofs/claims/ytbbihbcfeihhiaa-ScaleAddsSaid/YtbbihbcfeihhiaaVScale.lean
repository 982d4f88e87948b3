/- scale.factor, Down, Up by the engine. -/
import Derived.Test.YtbbihbcfeihhiaaVTen
import Derived.Test.YtbbihbcfeihhiaaVDiv
namespace Go.Proofs.Ytbbihbcfeihhiaa
set_option linter.unusedVariables false
set_option linter.unusedSimpArgs false
set_option linter.unusedSectionVars false
open Go.ChangeShapes Go.WideShapes Go.ChangeAt Go.RowKit Go.Joins
set_option maxRecDepth 10000
theorem factor_fn {n : Nat} (hn : n < 78) : FnV Try.prog G0 40 [nI .i64 n] (.tup [uV (ten (n - 8)), nI .i64 0]) := by
  refine fn_of_vwp Γok Try.func40 (by kernel_rfl) rfl (by simp [Try.ntmps40]) (wpv_ok Γok (by kernel_rfl) _ _ _ ?_); conv => whnf
  rw [decide_eq_false (by omega)]
  conv => whnf
  try (refine ⟨by kernel_rfl, ?_⟩; conv => whnf)
  rw [decide_eq_false (by omega)]
  conv => whnf
  try (refine ⟨by kernel_rfl, ?_⟩; conv => whnf)
  have e : (if (0 : Int) > (n : Int) - 8 then (0 : Int) else (n : Int) - 8) = ((n - 8 : Nat) : Int) := by split <;> omega
  rw [ws_i64 (x := (n : Int) - 8) (by omega) (by omega)]
  conv => (arg 1; intro e; arg 1; dsimp only)
  rw [e]
  conv => whnf
  try (refine ⟨by kernel_rfl, ?_⟩; conv => whnf)
  refine ⟨_, ret_of_fn G0ok (ten_fn (n := n - 8) (by omega)) (by first | rfl | simp only [noHs, noH, nI, bI, Bool.and_self, Bool.and_true, Bool.true_and, ]) (by first | rfl | simp only [noHs, noH, nI, bI, Bool.and_self, Bool.and_true, Bool.true_and, ]), ?_⟩; (conv => whnf); (try (refine ⟨by kernel_rfl, ?_⟩; conv => whnf))
  exact ⟨_, rfl, rfl⟩
theorem factor_bad {n : Int} (hn : n < 0 ∨ 78 ≤ n) : FnV Try.prog G0 40 [nI .i64 n] (.tup [.agg (words [0, 0, 0, 0]), nI .i64 6]) := by
  refine fn_of_vwp Γok Try.func40 (by kernel_rfl) rfl (by simp [Try.ntmps40]) (wpv_ok Γok (by kernel_rfl) _ _ _ ?_); conv => whnf
  by_cases h : n < 0
  · rw [decide_eq_true h]
    conv => whnf
    try (refine ⟨by kernel_rfl, ?_⟩; conv => whnf)
    exact ⟨_, rfl, rfl⟩
  · rw [decide_eq_false h]
    conv => whnf
    try (refine ⟨by kernel_rfl, ?_⟩; conv => whnf)
    rw [decide_eq_true (by omega)]
    conv => whnf
    try (refine ⟨by kernel_rfl, ?_⟩; conv => whnf)
    exact ⟨_, rfl, rfl⟩
theorem down_fn {a n : Nat} (ha : a < T256) (hn : n < 78) : FnV Try.prog G0 17 [uV a, nI .i64 n] (.tup [uV (divN a (ten (n - 8))), uV (modN a (ten (n - 8))), nI .i64 0]) := by
  have ht : 0 < ten (n - 8) := by rw [ten_def]; exact Nat.pow_pos (by decide)
  refine fn_of_vwp Γok Try.func17 (by kernel_rfl) rfl (by simp [Try.ntmps17]) (wpv_ok Γok (by kernel_rfl) _ _ _ ?_); conv => whnf
  refine ⟨_, ret_of_fn G0ok (factor_fn hn) (by first | rfl | simp only [noHs, noH, nI, bI, Bool.and_self, Bool.and_true, Bool.true_and, ]) (by first | rfl | simp only [noHs, noH, nI, bI, Bool.and_self, Bool.and_true, Bool.true_and, ]), ?_⟩; (conv => whnf); (try (refine ⟨by kernel_rfl, ?_⟩; conv => whnf))
  refine ⟨_, ret_of_fn G0ok (div_pos ha (ten_lt (by omega)) ht) (by first | rfl | simp only [noHs, noH, nI, bI, Bool.and_self, Bool.and_true, Bool.true_and, ]) (by first | rfl | simp only [noHs, noH, nI, bI, Bool.and_self, Bool.and_true, Bool.true_and, ]), ?_⟩; (conv => whnf); (try (refine ⟨by kernel_rfl, ?_⟩; conv => whnf))
  exact ⟨_, rfl, rfl⟩
theorem up_bad {x : Nat} {n : Int} (hn : n < 0 ∨ 78 ≤ n) : FnV Try.prog G0 18 [uV x, nI .i64 n] (.tup [.agg (words [0, 0, 0, 0]), nI .i64 6]) := by
  refine fn_of_vwp Γok Try.func18 (by kernel_rfl) rfl (by simp [Try.ntmps18]) (wpv_ok Γok (by kernel_rfl) _ _ _ ?_); conv => whnf
  refine ⟨_, ret_of_fn G0ok (factor_bad hn) (by first | rfl | simp only [noHs, noH, nI, bI, Bool.and_self, Bool.and_true, Bool.true_and, ]) (by first | rfl | simp only [noHs, noH, nI, bI, Bool.and_self, Bool.and_true, Bool.true_and, ]), ?_⟩; (conv => whnf); (try (refine ⟨by kernel_rfl, ?_⟩; conv => whnf))
  exact ⟨_, rfl, rfl⟩
theorem up_ok {x n : Nat} (hx : x < T256) (hn : n < 78) (hz : mulH x (ten (n - 8)) = 0) : FnV Try.prog G0 18 [uV x, nI .i64 n] (.tup [uV (mulL x (ten (n - 8))), nI .i64 0]) := by
  refine fn_of_vwp Γok Try.func18 (by kernel_rfl) rfl (by simp [Try.ntmps18]) (wpv_ok Γok (by kernel_rfl) _ _ _ ?_); conv => whnf
  refine ⟨_, ret_of_fn G0ok (factor_fn hn) (by first | rfl | simp only [noHs, noH, nI, bI, Bool.and_self, Bool.and_true, Bool.true_and, ]) (by first | rfl | simp only [noHs, noH, nI, bI, Bool.and_self, Bool.and_true, Bool.true_and, ]), ?_⟩; (conv => whnf); (try (refine ⟨by kernel_rfl, ?_⟩; conv => whnf))
  refine ⟨_, ret_of_fn G0ok (mul_fn hx (ten_lt (by omega))) (by first | rfl | simp only [noHs, noH, nI, bI, Bool.and_self, Bool.and_true, Bool.true_and, ]) (by first | rfl | simp only [noHs, noH, nI, bI, Bool.and_self, Bool.and_true, Bool.true_and, ]), ?_⟩; (conv => whnf); (try (refine ⟨by kernel_rfl, ?_⟩; conv => whnf))
  refine ⟨_, ne_zero (mulH_lt hx (ten_lt (by omega))), ?_⟩
  rw [decide_eq_true hz]
  conv => whnf
  try (refine ⟨by kernel_rfl, ?_⟩; conv => whnf)
  exact ⟨_, rfl, rfl⟩
theorem up_over {x n : Nat} (hx : x < T256) (hn : n < 78) (hz : mulH x (ten (n - 8)) ≠ 0) : FnV Try.prog G0 18 [uV x, nI .i64 n] (.tup [.agg (words [0, 0, 0, 0]), nI .i64 13]) := by
  refine fn_of_vwp Γok Try.func18 (by kernel_rfl) rfl (by simp [Try.ntmps18]) (wpv_ok Γok (by kernel_rfl) _ _ _ ?_); conv => whnf
  refine ⟨_, ret_of_fn G0ok (factor_fn hn) (by first | rfl | simp only [noHs, noH, nI, bI, Bool.and_self, Bool.and_true, Bool.true_and, ]) (by first | rfl | simp only [noHs, noH, nI, bI, Bool.and_self, Bool.and_true, Bool.true_and, ]), ?_⟩; (conv => whnf); (try (refine ⟨by kernel_rfl, ?_⟩; conv => whnf))
  refine ⟨_, ret_of_fn G0ok (mul_fn hx (ten_lt (by omega))) (by first | rfl | simp only [noHs, noH, nI, bI, Bool.and_self, Bool.and_true, Bool.true_and, ]) (by first | rfl | simp only [noHs, noH, nI, bI, Bool.and_self, Bool.and_true, Bool.true_and, ]), ?_⟩; (conv => whnf); (try (refine ⟨by kernel_rfl, ?_⟩; conv => whnf))
  refine ⟨_, ne_zero (mulH_lt hx (ten_lt (by omega))), ?_⟩
  rw [decide_eq_false hz]
  conv => whnf
  try (refine ⟨by kernel_rfl, ?_⟩; conv => whnf)
  exact ⟨_, rfl, rfl⟩
end Go.Proofs.Ytbbihbcfeihhiaa
