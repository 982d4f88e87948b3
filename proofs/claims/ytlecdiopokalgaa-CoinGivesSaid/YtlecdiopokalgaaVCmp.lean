/- wide.Cmp by the engine. -/
import Derived.Test.YtlecdiopokalgaaBUa
import Derived.WalkKit
import Derived.WalkSpells
import Derived.WalkLawsBesides
import Derived.Laws.Externs
namespace Go.Proofs.Ytlecdiopokalgaa
set_option linter.unusedVariables false
set_option linter.unusedSimpArgs false
set_option linter.unusedSectionVars false
open Go.ChangeShapes Go.WideShapes Go.ChangeAt Go.RowKit Go.Joins
set_option maxRecDepth 10000
theorem cmpN_ex : ∃ f : Nat → Nat → Int, ∀ a b, f a b = if a < b then -1 else if b < a then 1 else 0 := ⟨_, fun _ _ => rfl⟩
noncomputable def cmpN : Nat → Nat → Int := Classical.choose cmpN_ex
theorem cmpN_def (a b : Nat) : cmpN a b = if a < b then -1 else if b < a then 1 else 0 := Classical.choose_spec cmpN_ex a b
theorem cmpN_lt {a b : Nat} (h : a < b) : cmpN a b = -1 := by rw [cmpN_def]; rw [if_pos h]
theorem cmpN_gt {a b : Nat} (h : b < a) : cmpN a b = 1 := by rw [cmpN_def]; rw [if_neg (by omega), if_pos h]
theorem cmpN_eq {a b : Nat} (h : a = b) : cmpN a b = 0 := by rw [cmpN_def]; rw [if_neg (by omega), if_neg (by omega)]
theorem cmpN_neg {a b : Nat} : cmpN a b < 0 ↔ a < b := by rw [cmpN_def]; split <;> (try split) <;> omega
theorem cmpN_pos {a b : Nat} : 0 < cmpN a b ↔ b < a := by rw [cmpN_def]; split <;> (try split) <;> omega
theorem cmpN_zero {a b : Nat} : cmpN a b = 0 ↔ a = b := by rw [cmpN_def]; split <;> (try split) <;> omega
theorem cmpN_ge {a b : Nat} : 0 ≤ cmpN a b ↔ b ≤ a := by rw [cmpN_def]; split <;> (try split) <;> omega
theorem cmpN_le {a b : Nat} : cmpN a b ≤ 0 ↔ a ≤ b := by rw [cmpN_def]; split <;> (try split) <;> omega
theorem cmpN_swap (a b : Nat) : cmpN b a = -cmpN a b := by rw [cmpN_def, cmpN_def]; split <;> split <;> (try split) <;> omega
theorem v4lt3 {a0 a1 a2 a3 b0 b1 b2 b3 : Nat} (k0 : a0 < B64) (k1 : a1 < B64) (k2 : a2 < B64) (h : a3 < b3) : val4 a0 a1 a2 a3 < val4 b0 b1 b2 b3 := by
  unfold val4; simp only [B64] at *; omega
theorem v4lt2 {a0 a1 a2 a3 b0 b1 b2 b3 : Nat} (k0 : a0 < B64) (k1 : a1 < B64) (h3 : ¬ a3 < b3) (g3 : ¬ b3 < a3) (h : a2 < b2) : val4 a0 a1 a2 a3 < val4 b0 b1 b2 b3 := by
  unfold val4; simp only [B64] at *; omega
theorem v4lt1 {a0 a1 a2 a3 b0 b1 b2 b3 : Nat} (k0 : a0 < B64) (h3 : ¬ a3 < b3) (g3 : ¬ b3 < a3) (h2 : ¬ a2 < b2) (g2 : ¬ b2 < a2) (h : a1 < b1) : val4 a0 a1 a2 a3 < val4 b0 b1 b2 b3 := by
  unfold val4; simp only [B64] at *; omega
theorem v4lt0 {a0 a1 a2 a3 b0 b1 b2 b3 : Nat} (h3 : ¬ a3 < b3) (g3 : ¬ b3 < a3) (h2 : ¬ a2 < b2) (g2 : ¬ b2 < a2) (h1 : ¬ a1 < b1) (g1 : ¬ b1 < a1) (h : a0 < b0) : val4 a0 a1 a2 a3 < val4 b0 b1 b2 b3 := by
  unfold val4; simp only [B64] at *; omega
theorem v4eq {a0 a1 a2 a3 b0 b1 b2 b3 : Nat} (h3 : ¬ a3 < b3) (g3 : ¬ b3 < a3) (h2 : ¬ a2 < b2) (g2 : ¬ b2 < a2) (h1 : ¬ a1 < b1) (g1 : ¬ b1 < a1) (h0 : ¬ a0 < b0) (g0 : ¬ b0 < a0) : val4 a0 a1 a2 a3 = val4 b0 b1 b2 b3 := by
  obtain rfl : a0 = b0 := by omega
  obtain rfl : a1 = b1 := by omega
  obtain rfl : a2 = b2 := by omega
  obtain rfl : a3 = b3 := by omega
  rfl

theorem cmp_fn4 (a0 a1 a2 a3 b0 b1 b2 b3 : Nat) (k0 : a0 < B64) (k1 : a1 < B64) (k2 : a2 < B64) (m0 : b0 < B64) (m1 : b1 < B64) (m2 : b2 < B64) :
    FnV Try.prog G0 39 [.agg (words [a0, a1, a2, a3]), .agg (words [b0, b1, b2, b3])] (nI .i64 (cmpN (val4 a0 a1 a2 a3) (val4 b0 b1 b2 b3))) := by
  refine fn_of_vwp Γok Try.func39 (by kernel_rfl) rfl (by simp [Try.ntmps39]) (wpv_ok Γok (by kernel_rfl) _ _ _ ?_); conv => whnf
  refine vloop_unroll ?_
  refine wpv_ok Γok (by kernel_rfl) _ _ _ ?_; conv => whnf
  refine ⟨by kernel_rfl, ?_⟩
  conv => whnf
  refine bool_cases (fun h => ?_) (fun h => ?_)
  · conv => whnf
    have h : a3 < b3 := by have := of_decide_eq_true h; omega
    rw [cmpN_lt (v4lt3 k0 k1 k2  h)]
    exact ⟨_, rfl, rfl⟩
  have h3 : ¬ a3 < b3 := by have := of_decide_eq_false h; omega
  conv => whnf
  refine ⟨by kernel_rfl, ?_⟩
  conv => whnf
  refine bool_cases (fun g => ?_) (fun g => ?_)
  · conv => whnf
    have g : b3 < a3 := by have := of_decide_eq_true g; omega
    rw [cmpN_gt (v4lt3 m0 m1 m2  g)]
    exact ⟨_, rfl, rfl⟩
  have g3 : ¬ b3 < a3 := by have := of_decide_eq_false g; omega
  conv => whnf
  refine vloop_unroll ?_
  refine wpv_ok Γok (by kernel_rfl) _ _ _ ?_; conv => whnf
  rw [ws_i64 (by omega) (by omega)]
  conv => whnf
  refine ⟨by kernel_rfl, ?_⟩
  conv => whnf
  refine bool_cases (fun h => ?_) (fun h => ?_)
  · conv => whnf
    have h : a2 < b2 := by have := of_decide_eq_true h; omega
    rw [cmpN_lt (v4lt2 k0 k1 h3 g3 h)]
    exact ⟨_, rfl, rfl⟩
  have h2 : ¬ a2 < b2 := by have := of_decide_eq_false h; omega
  conv => whnf
  refine ⟨by kernel_rfl, ?_⟩
  conv => whnf
  refine bool_cases (fun g => ?_) (fun g => ?_)
  · conv => whnf
    have g : b2 < a2 := by have := of_decide_eq_true g; omega
    rw [cmpN_gt (v4lt2 m0 m1 g3 h3 g)]
    exact ⟨_, rfl, rfl⟩
  have g2 : ¬ b2 < a2 := by have := of_decide_eq_false g; omega
  conv => whnf
  refine vloop_unroll ?_
  refine wpv_ok Γok (by kernel_rfl) _ _ _ ?_; conv => whnf
  rw [ws_i64 (by omega) (by omega)]
  conv => whnf
  refine ⟨by kernel_rfl, ?_⟩
  conv => whnf
  refine bool_cases (fun h => ?_) (fun h => ?_)
  · conv => whnf
    have h : a1 < b1 := by have := of_decide_eq_true h; omega
    rw [cmpN_lt (v4lt1 k0 h3 g3 h2 g2 h)]
    exact ⟨_, rfl, rfl⟩
  have h1 : ¬ a1 < b1 := by have := of_decide_eq_false h; omega
  conv => whnf
  refine ⟨by kernel_rfl, ?_⟩
  conv => whnf
  refine bool_cases (fun g => ?_) (fun g => ?_)
  · conv => whnf
    have g : b1 < a1 := by have := of_decide_eq_true g; omega
    rw [cmpN_gt (v4lt1 m0 g3 h3 g2 h2 g)]
    exact ⟨_, rfl, rfl⟩
  have g1 : ¬ b1 < a1 := by have := of_decide_eq_false g; omega
  conv => whnf
  refine vloop_unroll ?_
  refine wpv_ok Γok (by kernel_rfl) _ _ _ ?_; conv => whnf
  rw [ws_i64 (by omega) (by omega)]
  conv => whnf
  refine ⟨by kernel_rfl, ?_⟩
  conv => whnf
  refine bool_cases (fun h => ?_) (fun h => ?_)
  · conv => whnf
    have h : a0 < b0 := by have := of_decide_eq_true h; omega
    rw [cmpN_lt (v4lt0  h3 g3 h2 g2 h1 g1 h)]
    exact ⟨_, rfl, rfl⟩
  have h0 : ¬ a0 < b0 := by have := of_decide_eq_false h; omega
  conv => whnf
  refine ⟨by kernel_rfl, ?_⟩
  conv => whnf
  refine bool_cases (fun g => ?_) (fun g => ?_)
  · conv => whnf
    have g : b0 < a0 := by have := of_decide_eq_true g; omega
    rw [cmpN_gt (v4lt0  g3 h3 g2 h2 g1 h1 g)]
    exact ⟨_, rfl, rfl⟩
  have g0 : ¬ b0 < a0 := by have := of_decide_eq_false g; omega
  conv => whnf
  refine vloop_unroll ?_
  refine wpv_ok Γok (by kernel_rfl) _ _ _ ?_; conv => whnf
  rw [ws_i64 (by omega) (by omega)]
  conv => whnf
  rw [cmpN_eq (v4eq h3 g3 h2 g2 h1 g1 h0 g0)]
  exact ⟨_, rfl, rfl⟩
theorem cmp_fn {a b : Nat} (ha : a < T256) (hb : b < T256) : FnV Try.prog G0 39 [uV a, uV b] (nI .i64 (cmpN a b)) := by
  obtain ⟨a0, a1, a2, a3, k0, k1, k2, k3, rfl⟩ := limbs ha
  obtain ⟨b0, b1, b2, b3, m0, m1, m2, m3, rfl⟩ := limbs hb
  rw [uV_val4 k0 k1 k2 k3, uV_val4 m0 m1 m2 m3]
  exact cmp_fn4 a0 a1 a2 a3 b0 b1 b2 b3 k0 k1 k2 m0 m1 m2
end Go.Proofs.Ytlecdiopokalgaa
