/- wide.Ten by the engine. -/
import Derived.Test.YtbbihbcfeihhiaaVMul
import Derived.Test.YtbbihbcfeihhiaaVEq
namespace Go.Proofs.Ytbbihbcfeihhiaa
set_option linter.unusedVariables false
set_option linter.unusedSimpArgs false
set_option linter.unusedSectionVars false
open Go.ChangeShapes Go.WideShapes Go.ChangeAt Go.RowKit Go.Joins
set_option maxRecDepth 10000
theorem ten_ex : ∃ f : Nat → Nat, ∀ k, f k = 10 ^ k := ⟨_, fun _ => rfl⟩
noncomputable def ten : Nat → Nat := Classical.choose ten_ex
theorem ten_def (k : Nat) : ten k = 10 ^ k := Classical.choose_spec ten_ex k
theorem ten_lt {k : Nat} (h : k < 78) : ten k < T256 := by
  rw [ten_def]
  exact Nat.lt_of_le_of_lt (Nat.pow_le_pow_right (by decide) (show k ≤ 77 by omega)) (by decide)
theorem ten_succ {k : Nat} (h : k + 1 < 78) : mulL (ten k) 10 = ten (k + 1) := by
  have := ten_lt h
  rw [mulL_def, ten_def, ← Nat.pow_succ, ← ten_def (k + 1), Nat.mod_eq_of_lt this]
theorem ten_fn {n : Nat} (hn : n < 78) : FnV Try.prog G0 59 [nI .i64 n] (.tup [uV (ten n), nI .i64 0]) := by
  refine fn_of_vwp Γok Try.func59 (by kernel_rfl) rfl (by simp [Try.ntmps59]) (wpv_ok Γok (by kernel_rfl) _ _ _ ?_); conv => whnf
  rw [decide_eq_false (by omega)]
  conv => whnf
  try (refine ⟨by kernel_rfl, ?_⟩; conv => whnf)
  rw [decide_eq_false (by omega)]
  conv => whnf
  try (refine ⟨by kernel_rfl, ?_⟩; conv => whnf)
  refine vloop_invK G0ok [(0, some 0), (1, some 1)] 2 (X := Nat) (fun i => [(14, nI .i64 i), (13, nI .i64 n), (4, .ptr 1 0), (2, .ptr 0 0)])
    (fun i => [(0, some (words [0, 0, 0, 0])), (1, some (uC (ten i)))]) (fun i => i ≤ n) (fun i => n - i) 0 rfl ⟨⟨_, rfl, conv_nI (rfl)⟩, ⟨_, rfl, conv_nI (rfl)⟩, ⟨_, rfl, .ptr rfl⟩, ⟨_, rfl, .ptr rfl⟩, trivial⟩
    ⟨.inr ⟨_, _, rfl, rfl, convs_eq rfl (words_noHs _)⟩, .inr ⟨_, _, rfl, rfl, convs_eq (by rw [ten_def, uC_lit (n := 10 ^ 0) (by decide)]; rfl) (words_noHs _)⟩, trivial⟩ (Nat.zero_le _) ?_
  intro i hi
  dsimp only at hi ⊢
  refine wpv_ok Γok (by kernel_rfl) _ _ _ ?_; conv => whnf
  refine bool_cases (fun hc => ?_) (fun hc => ?_)
  · have hc := of_decide_eq_true hc
    have hlt := ten_lt (k := i) (by omega)
    have hs := ten_succ (k := i) (by omega)
    have hm := mul_fn hlt (b := 10) (by decide)
    rw [show uV 10 = .agg (words [10, 0, 0, 0]) from congrArg VV.agg (uC_lit (n := 10) (by decide)), hs] at hm
    conv => whnf
    try (refine ⟨by kernel_rfl, ?_⟩; conv => whnf)
    refine ⟨_, ret_of_fn G0ok (hm) (by first | rfl | simp only [noHs, noH, nI, bI, Bool.and_self, Bool.and_true, Bool.true_and, ]) (by first | rfl | simp only [noHs, noH, nI, bI, Bool.and_self, Bool.and_true, Bool.true_and, ]), ?_⟩; (conv => whnf); (try (refine ⟨by kernel_rfl, ?_⟩; conv => whnf))
    rw [ws_i64 (by omega) (by omega)]
    conv => whnf
    try (refine ⟨by kernel_rfl, ?_⟩; conv => whnf)
    refine next_round (y := i) G0ok (i + 1) [(0, some 0), (1, some 1)] rfl ⟨⟨_, rfl, conv_nI (rfl)⟩, ⟨_, rfl, conv_nI (rfl)⟩, ⟨_, rfl, .ptr rfl⟩, ⟨_, rfl, .ptr rfl⟩, trivial⟩ ⟨.inr ⟨_, _, rfl, rfl, convs_eq rfl (words_noHs _)⟩, .inr ⟨_, _, rfl, rfl, convs_eq (rfl) (words_noHs _)⟩, trivial⟩ (by omega) (by omega)
  · have hc := of_decide_eq_false hc
    have : i = n := by omega
    subst this
    conv => whnf
    try (refine ⟨by kernel_rfl, ?_⟩; conv => whnf)
    exact ⟨_, rfl, rfl⟩
theorem ten_bad {n : Int} (hn : n < 0 ∨ 78 ≤ n) : FnV Try.prog G0 59 [nI .i64 n] (.tup [.agg (words [0, 0, 0, 0]), nI .i64 6]) := by
  refine fn_of_vwp Γok Try.func59 (by kernel_rfl) rfl (by simp [Try.ntmps59]) (wpv_ok Γok (by kernel_rfl) _ _ _ ?_); conv => whnf
  by_cases h : n < 0
  · rw [decide_eq_true h]
    conv => whnf
    try (refine ⟨by kernel_rfl, ?_⟩; conv => whnf)
    exact ⟨_, rfl, rfl⟩
  · rw [decide_eq_false h]
    conv => whnf
    try (refine ⟨by kernel_rfl, ?_⟩; conv => whnf)
    rw [decide_eq_true (by omega)]
    conv => whnf
    try (refine ⟨by kernel_rfl, ?_⟩; conv => whnf)
    exact ⟨_, rfl, rfl⟩
end Go.Proofs.Ytbbihbcfeihhiaa
