/- The plain law of long division, bit by bit. -/
import Derived.Test.YtmfgldfldejgcaaNum
import Derived.Test.YtmfgldfldejgcaaBit
import Derived.Test.YtmfgldfldejgcaaCmp
import Derived.Laws.BitsAllLaws
namespace Go.Proofs.Ytmfgldfldejgcaa
set_option linter.unusedVariables false
set_option linter.unusedSimpArgs false
open Go.RowKit

theorem div_step {a b Q R i : Nat} (h : a / 2 ^ (i + 1) = Q * b + R) : a / 2 ^ i = 2 * Q * b + (2 * R + bitN a i) := by
  rw [bitN_def]
  have e : a / 2 ^ (i + 1) = a / 2 ^ i / 2 := by rw [Nat.pow_succ, Nat.div_div_eq_div_mul]
  rw [e] at h
  have := Nat.div_add_mod (a / 2 ^ i) 2
  rw [h] at this
  rw [← this, Nat.mul_add, Nat.mul_assoc]; omega
theorem bitN_le (a i : Nat) : bitN a i ≤ 1 := by rw [bitN_def]; omega
theorem addS_even (r : Nat) : addS r r % 2 = 0 := by
  rw [addS_def, T256_lit]; omega
/-- The rest with one bit more. -/
theorem rest_lt {r t : Nat} (ht : t ≤ 1) : addS r r + t < T256 := by
  have h1 := addS_lt r r
  have h2 := addS_even r
  rw [T256_lit] at *
  omega
theorem rest_or {r t : Nat} (ht : t ≤ 1) : bits .or .u64 ((lim (addS r r) 0 : Nat) : Int) (t : Int) = ((lim (addS r r + t) 0 : Nat) : Int) ∧
    lim (addS r r + t) 1 = lim (addS r r) 1 ∧ lim (addS r r + t) 2 = lim (addS r r) 2 ∧ lim (addS r r + t) 3 = lim (addS r r) 3 := by
  have h2 := addS_even r
  have h3 := addS_lt r r
  generalize addS r r = x at *
  obtain ⟨a0, a1, a2, a3, k0, k1, k2, k3, rfl⟩ := limbs h3
  have e0 : a0 % 2 = 0 := by unfold val4 B64 at h2; omega
  have hlt : a0 + t < B64 := by unfold B64 at *; omega
  have ev : val4 a0 a1 a2 a3 + t = val4 (a0 + t) a1 a2 a3 := by unfold val4; omega
  rw [ev]
  obtain ⟨x0, x1, x2, x3⟩ := lim_val4 k0 k1 k2 k3
  obtain ⟨y0, y1, y2, y3⟩ := lim_val4 hlt k1 k2 k3
  rw [x0, x1, x2, x3, y0, y1, y2, y3]
  refine ⟨?_, rfl, rfl, rfl⟩
  rw [u64_or_nat a0 t (by unfold B64 at k0; exact k0) (by omega)]
  have hor : a0 ||| t = a0 + t := by
    have := Nat.two_pow_add_eq_or_of_lt (i := 1) (b := t) (by omega) (a0 / 2)
    rw [show 2 ^ 1 * (a0 / 2) = a0 by omega] at this
    exact this.symm
  rw [hor]
theorem rest_sub {b R t : Nat} (hR : R < b) (hb : b < T256) (ht : t ≤ 1) (h : addO R R = true ∨ b ≤ addS R R + t) : subS (addS R R + t) b = 2 * R + t - b ∧ 2 * R + t - b < b ∧ b ≤ 2 * R + t := by
  rw [subS_def, addS_def, addO_def] at *
  rw [T256_lit] at *
  simp only [decide_eq_true_eq] at h
  omega
theorem rest_keep {b R t : Nat} (hR : R < b) (hb : b < T256) (ht : t ≤ 1) (h : addO R R = false) (h2 : addS R R + t < b) : addS R R + t = 2 * R + t := by
  rw [addS_def, addO_def] at *
  rw [T256_lit] at *
  simp only [decide_eq_false_iff_not] at h
  omega

theorem lim_put {q p d : Nat} (hq : q < T256) (hd : d < 4) (h : lim q d + p < B64) : lim (q + B64 ^ d * p) d = lim q d + p ∧ (∀ e, e < 4 → e ≠ d → lim (q + B64 ^ d * p) e = lim q e) ∧ q + B64 ^ d * p < T256 := by
  obtain ⟨a0, a1, a2, a3, k0, k1, k2, k3, rfl⟩ := limbs hq
  obtain ⟨x0, x1, x2, x3⟩ := lim_val4 k0 k1 k2 k3
  have four : ∀ e, e < 4 → e = 0 ∨ e = 1 ∨ e = 2 ∨ e = 3 := by omega
  rcases four d hd with rfl | rfl | rfl | rfl
  · rw [x0] at h
    rw [show val4 a0 a1 a2 a3 + B64 ^ 0 * p = val4 (a0 + p) a1 a2 a3 by unfold val4; simp; omega]
    obtain ⟨y0, y1, y2, y3⟩ := lim_val4 h k1 k2 k3
    refine ⟨by rw [y0, x0], ?_, val4_lt h k1 k2 k3⟩
    intro e he hne
    rcases four e he with rfl | rfl | rfl | rfl <;> first | exact absurd rfl hne | rw [y1, x1] | rw [y2, x2] | rw [y3, x3]
  · rw [x1] at h
    rw [show val4 a0 a1 a2 a3 + B64 ^ 1 * p = val4 a0 (a1 + p) a2 a3 by unfold val4; simp only [Nat.mul_add, Nat.pow_one]; omega]
    obtain ⟨y0, y1, y2, y3⟩ := lim_val4 k0 h k2 k3
    refine ⟨by rw [y1, x1], ?_, val4_lt k0 h k2 k3⟩
    intro e he hne
    rcases four e he with rfl | rfl | rfl | rfl <;> first | exact absurd rfl hne | rw [y0, x0] | rw [y2, x2] | rw [y3, x3]
  · rw [x2] at h
    rw [show val4 a0 a1 a2 a3 + B64 ^ 2 * p = val4 a0 a1 (a2 + p) a3 by unfold val4; simp only [Nat.mul_add, Nat.pow_succ, Nat.pow_zero, Nat.one_mul]; omega]
    obtain ⟨y0, y1, y2, y3⟩ := lim_val4 k0 k1 h k3
    refine ⟨by rw [y2, x2], ?_, val4_lt k0 k1 h k3⟩
    intro e he hne
    rcases four e he with rfl | rfl | rfl | rfl <;> first | exact absurd rfl hne | rw [y0, x0] | rw [y1, x1] | rw [y3, x3]
  · rw [x3] at h
    rw [show val4 a0 a1 a2 a3 + B64 ^ 3 * p = val4 a0 a1 a2 (a3 + p) by unfold val4; simp only [Nat.mul_add, Nat.pow_succ, Nat.pow_zero, Nat.one_mul]; omega]
    obtain ⟨y0, y1, y2, y3⟩ := lim_val4 k0 k1 k2 h
    refine ⟨by rw [y3, x3], ?_, val4_lt k0 k1 k2 h⟩
    intro e he hne
    rcases four e he with rfl | rfl | rfl | rfl <;> first | exact absurd rfl hne | rw [y0, x0] | rw [y1, x1] | rw [y2, x2]

/-- One bit more of the quotient. -/
theorem quo_or {Q i d s : Nat} (hi : i = 64 * d + s) (hs : s < 64) (hd : d < 4) (hq : Q * 2 ^ (i + 1) + 2 ^ i < T256) :
    IntKind.u64.wrap (1 * 2 ^ s) = ((2 ^ s : Nat) : Int) ∧ bits .or .u64 ((lim (Q * 2 ^ (i + 1)) d : Nat) : Int) ((2 ^ s : Nat) : Int) = ((lim (Q * 2 ^ (i + 1) + 2 ^ i) d : Nat) : Int) ∧
    ∀ e, e < 4 → e ≠ d → lim (Q * 2 ^ (i + 1) + 2 ^ i) e = lim (Q * 2 ^ (i + 1)) e := by
  have hB : B64 = 2 ^ (s + 1) * 2 ^ (63 - s) := by rw [B64_eq, ← Nat.pow_add]; congr 1; omega
  have hps : 2 ^ s < B64 := by rw [B64_eq]; exact Nat.pow_lt_pow_right (by decide) hs
  have hv : Q * 2 ^ (i + 1) < T256 := Nat.lt_of_le_of_lt (Nat.le_add_right _ _) hq
  have hl : lim (Q * 2 ^ (i + 1)) d = 2 ^ (s + 1) * (Q % 2 ^ (63 - s)) := by
    unfold lim
    rw [show Q * 2 ^ (i + 1) = B64 ^ d * (Q * 2 ^ (s + 1)) by
      rw [B64_eq, ← Nat.pow_mul, hi, show 64 * d + s + 1 = 64 * d + (s + 1) by omega, Nat.pow_add]; exact Nat.mul_left_comm _ _ _]
    rw [Nat.mul_div_cancel_left _ (Nat.pow_pos (by decide)), hB, Nat.mul_comm Q, Nat.mul_mod_mul_left]
  have hlt : lim (Q * 2 ^ (i + 1)) d + 2 ^ s < B64 := by
    rw [hl]
    have h1 : Q % 2 ^ (63 - s) + 1 ≤ 2 ^ (63 - s) := Nat.mod_lt _ (Nat.pow_pos (by decide))
    have h2 := Nat.mul_le_mul_left (2 ^ (s + 1)) h1
    rw [← hB, Nat.mul_add, Nat.mul_one] at h2
    have h3 : 2 ^ s < 2 ^ (s + 1) := Nat.pow_lt_pow_right (by decide) (by omega)
    omega
  have hor : lim (Q * 2 ^ (i + 1)) d ||| 2 ^ s = lim (Q * 2 ^ (i + 1)) d + 2 ^ s := by
    rw [hl]
    exact (Nat.two_pow_add_eq_or_of_lt (Nat.pow_lt_pow_right (by decide) (by omega)) _).symm
  have h64 := lim_lt (Q * 2 ^ (i + 1)) d
  have hp : 2 ^ i = B64 ^ d * 2 ^ s := by rw [B64_eq, ← Nat.pow_mul, hi, Nat.pow_add]
  refine ⟨?_, ?_, ?_⟩
  · have : (1 * 2 ^ s : Int) = ((2 ^ s : Nat) : Int) := by simp
    rw [this]
    generalize 2 ^ s = p at *
    simp only [IntKind.wrap, IntKind.signed, IntKind.bits]
    unfold B64 at hps
    simp
    omega
  · rw [u64_or_nat _ _ (by unfold B64 at h64; exact h64) (by unfold B64 at hps; exact hps), hor, hp, (lim_put hv hd hlt).1]
  · rw [hp]; exact (lim_put hv hd hlt).2.1
end Go.Proofs.Ytmfgldfldejgcaa
