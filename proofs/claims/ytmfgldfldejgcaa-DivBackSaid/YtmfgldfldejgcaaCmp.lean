/- The contract of wide.Cmp: which of two numbers is greater. -/
import Derived.Test.YtmfgldfldejgcaaRows
import Derived.Test.YtmfgldfldejgcaaNum
import Derived.Test.YtmfgldfldejgcaaMem
import Derived.WalkKit
import Derived.WalkSpells
import Derived.WalkLawsBesides
namespace Go.Proofs.Ytmfgldfldejgcaa
set_option linter.unusedVariables false
set_option linter.unusedSimpArgs false
open Go.RowKit

theorem cmpN_ex : ∃ f : Nat → Nat → Int, ∀ a b, f a b = if a < b then -1 else if b < a then 1 else 0 := ⟨_, fun _ _ => rfl⟩
noncomputable def cmpN : Nat → Nat → Int := Classical.choose cmpN_ex
theorem cmpN_def (a b : Nat) : cmpN a b = if a < b then -1 else if b < a then 1 else 0 := Classical.choose_spec cmpN_ex a b
theorem cmpN_lt {a b : Nat} (h : a < b) : cmpN a b = -1 := by rw [cmpN_def]; rw [if_pos h]
theorem cmpN_gt {a b : Nat} (h : b < a) : cmpN a b = 1 := by rw [cmpN_def]; rw [if_neg (by omega), if_pos h]
theorem cmpN_eq {a b : Nat} (h : a = b) : cmpN a b = 0 := by rw [cmpN_def]; rw [if_neg (by omega), if_neg (by omega)]
theorem cmpN_neg {a b : Nat} : cmpN a b < 0 ↔ a < b := by rw [cmpN_def]; split <;> (try split) <;> omega
theorem cmpN_pos {a b : Nat} : 0 < cmpN a b ↔ b < a := by rw [cmpN_def]; split <;> (try split) <;> omega
theorem cmpN_zero {a b : Nat} : cmpN a b = 0 ↔ a = b := by rw [cmpN_def]; split <;> (try split) <;> omega
theorem cmpN_ge {a b : Nat} : 0 ≤ cmpN a b ↔ b ≤ a := by rw [cmpN_def]; split <;> (try split) <;> omega
theorem cmpN_le {a b : Nat} : cmpN a b ≤ 0 ↔ a ≤ b := by rw [cmpN_def]; split <;> (try split) <;> omega
theorem cmpN_swap (a b : Nat) : cmpN b a = -cmpN a b := by rw [cmpN_def, cmpN_def]; split <;> split <;> (try split) <;> omega
theorem v4lt3 {a0 a1 a2 a3 b0 b1 b2 b3 : Nat} (k0 : a0 < B64) (k1 : a1 < B64) (k2 : a2 < B64) (h : a3 < b3) : val4 a0 a1 a2 a3 < val4 b0 b1 b2 b3 := by
  unfold val4; simp only [B64] at *; omega
theorem v4lt2 {a0 a1 a2 a3 b0 b1 b2 b3 : Nat} (k0 : a0 < B64) (k1 : a1 < B64) (h3 : ¬ a3 < b3) (g3 : ¬ b3 < a3) (h : a2 < b2) : val4 a0 a1 a2 a3 < val4 b0 b1 b2 b3 := by
  unfold val4; simp only [B64] at *; omega
theorem v4lt1 {a0 a1 a2 a3 b0 b1 b2 b3 : Nat} (k0 : a0 < B64) (h3 : ¬ a3 < b3) (g3 : ¬ b3 < a3) (h2 : ¬ a2 < b2) (g2 : ¬ b2 < a2) (h : a1 < b1) : val4 a0 a1 a2 a3 < val4 b0 b1 b2 b3 := by
  unfold val4; simp only [B64] at *; omega
theorem v4lt0 {a0 a1 a2 a3 b0 b1 b2 b3 : Nat} (h3 : ¬ a3 < b3) (g3 : ¬ b3 < a3) (h2 : ¬ a2 < b2) (g2 : ¬ b2 < a2) (h1 : ¬ a1 < b1) (g1 : ¬ b1 < a1) (h : a0 < b0) : val4 a0 a1 a2 a3 < val4 b0 b1 b2 b3 := by
  unfold val4; simp only [B64] at *; omega
theorem v4eq {a0 a1 a2 a3 b0 b1 b2 b3 : Nat} (h3 : ¬ a3 < b3) (g3 : ¬ b3 < a3) (h2 : ¬ a2 < b2) (g2 : ¬ b2 < a2) (h1 : ¬ a1 < b1) (g1 : ¬ b1 < a1) (h0 : ¬ a0 < b0) (g0 : ¬ b0 < a0) : val4 a0 a1 a2 a3 = val4 b0 b1 b2 b3 := by
  obtain rfl : a0 = b0 := by omega
  obtain rfl : a1 = b1 := by omega
  obtain rfl : a2 = b2 := by omega
  obtain rfl : a3 = b3 := by omega
  rfl

set_option maxHeartbeats 2000000 in
theorem cmp_walk (a0 a1 a2 a3 b0 b1 b2 b3 : Nat) (k0 : a0 < B64) (k1 : a1 < B64) (k2 : a2 < B64) (m0 : b0 < B64) (m1 : b1 < B64) (m2 : b2 < B64) (w : World) :
    Calls Try.prog 22 #[.agg #[.int .u64 a0, .int .u64 a1, .int .u64 a2, .int .u64 a3], .agg #[.int .u64 b0, .int .u64 b1, .int .u64 b2, .int .u64 b3]] w
      fun e w' => e = .returned (.int .i64 (cmpN (val4 a0 a1 a2 a3) (val4 b0 b1 b2 b3))) ∧ Below w.heap.size w w' := by
  have M := Mem.begin w
  go_enter Try.func22, Try.ntmps22
  go_wp2
  refine wp_loop_rounds 5 ?_
  rw [rounds_succ]
  go_wp2
  go_region
  go_wp2
  · have h : a3 < b3 := by assumption
    rw [cmpN_lt (v4lt3 k0 k1 k2 h)]
    exact bodyPost_ret (v := .int .i64 (-1)) (by simp [results, Try.results22, go_sem]) rfl ⟨rfl, by exact Mem.below (L := _) (by (repeat (first | with_reducible exact M | with_reducible apply Mem.drew | with_reducible apply Mem.alloc | with_reducible apply Mem.allocAny)))⟩
  have h3 : ¬ a3 < b3 := by assumption
  go_region
  go_wp2
  · have h : b3 < a3 := by assumption
    rw [cmpN_gt (v4lt3 m0 m1 m2 h)]
    exact bodyPost_ret (v := .int .i64 1) (by simp [results, Try.results22, go_sem]) rfl ⟨rfl, by exact Mem.below (L := _) (by (repeat (first | with_reducible exact M | with_reducible apply Mem.drew | with_reducible apply Mem.alloc | with_reducible apply Mem.allocAny)))⟩
  have g3 : ¬ b3 < a3 := by assumption
  rw [rounds_succ]
  go_wp2
  go_region
  go_wp2
  · have h : a2 < b2 := by assumption
    rw [cmpN_lt (v4lt2 k0 k1 h3 g3 h)]
    exact bodyPost_ret (v := .int .i64 (-1)) (by simp [results, Try.results22, go_sem]) rfl ⟨rfl, by exact Mem.below (L := _) (by (repeat (first | with_reducible exact M | with_reducible apply Mem.drew | with_reducible apply Mem.alloc | with_reducible apply Mem.allocAny)))⟩
  have h2 : ¬ a2 < b2 := by assumption
  go_region
  go_wp2
  · have h : b2 < a2 := by assumption
    rw [cmpN_gt (v4lt2 m0 m1 g3 h3 h)]
    exact bodyPost_ret (v := .int .i64 1) (by simp [results, Try.results22, go_sem]) rfl ⟨rfl, by exact Mem.below (L := _) (by (repeat (first | with_reducible exact M | with_reducible apply Mem.drew | with_reducible apply Mem.alloc | with_reducible apply Mem.allocAny)))⟩
  have g2 : ¬ b2 < a2 := by assumption
  rw [rounds_succ]
  go_wp2
  go_region
  go_wp2
  · have h : a1 < b1 := by assumption
    rw [cmpN_lt (v4lt1 k0 h3 g3 h2 g2 h)]
    exact bodyPost_ret (v := .int .i64 (-1)) (by simp [results, Try.results22, go_sem]) rfl ⟨rfl, by exact Mem.below (L := _) (by (repeat (first | with_reducible exact M | with_reducible apply Mem.drew | with_reducible apply Mem.alloc | with_reducible apply Mem.allocAny)))⟩
  have h1 : ¬ a1 < b1 := by assumption
  go_region
  go_wp2
  · have h : b1 < a1 := by assumption
    rw [cmpN_gt (v4lt1 m0 g3 h3 g2 h2 h)]
    exact bodyPost_ret (v := .int .i64 1) (by simp [results, Try.results22, go_sem]) rfl ⟨rfl, by exact Mem.below (L := _) (by (repeat (first | with_reducible exact M | with_reducible apply Mem.drew | with_reducible apply Mem.alloc | with_reducible apply Mem.allocAny)))⟩
  have g1 : ¬ b1 < a1 := by assumption
  rw [rounds_succ]
  go_wp2
  go_region
  go_wp2
  · have h : a0 < b0 := by assumption
    rw [cmpN_lt (v4lt0  h3 g3 h2 g2 h1 g1 h)]
    exact bodyPost_ret (v := .int .i64 (-1)) (by simp [results, Try.results22, go_sem]) rfl ⟨rfl, by exact Mem.below (L := _) (by (repeat (first | with_reducible exact M | with_reducible apply Mem.drew | with_reducible apply Mem.alloc | with_reducible apply Mem.allocAny)))⟩
  have h0 : ¬ a0 < b0 := by assumption
  go_region
  go_wp2
  · have h : b0 < a0 := by assumption
    rw [cmpN_gt (v4lt0  g3 h3 g2 h2 g1 h1 h)]
    exact bodyPost_ret (v := .int .i64 1) (by simp [results, Try.results22, go_sem]) rfl ⟨rfl, by exact Mem.below (L := _) (by (repeat (first | with_reducible exact M | with_reducible apply Mem.drew | with_reducible apply Mem.alloc | with_reducible apply Mem.allocAny)))⟩
  have g0 : ¬ b0 < a0 := by assumption
  rw [rounds_succ]
  go_wp2
  rw [cmpN_eq (v4eq h3 g3 h2 g2 h1 g1 h0 g0)]
  exact bodyPost_ret (v := .int .i64 0) (by simp [results, Try.results22, go_sem]) rfl ⟨rfl, by exact Mem.below (L := _) (by (repeat (first | with_reducible exact M | with_reducible apply Mem.drew | with_reducible apply Mem.alloc | with_reducible apply Mem.allocAny)))⟩

theorem cmp_calls {a b : Nat} (ha : a < T256) (hb : b < T256) (w : World) :
    Calls Try.prog 22 #[u256 a, u256 b] w fun e w' => e = .returned (.int .i64 (cmpN a b)) ∧ Below w.heap.size w w' := by
  obtain ⟨a0, a1, a2, a3, k0, k1, k2, k3, rfl⟩ := limbs ha
  obtain ⟨b0, b1, b2, b3, m0, m1, m2, m3, rfl⟩ := limbs hb
  rw [u256_val4 k0 k1 k2 k3, u256_val4 m0 m1 m2 m3]
  exact cmp_walk a0 a1 a2 a3 b0 b1 b2 b3 k0 k1 k2 m0 m1 m2 w
end Go.Proofs.Ytmfgldfldejgcaa
