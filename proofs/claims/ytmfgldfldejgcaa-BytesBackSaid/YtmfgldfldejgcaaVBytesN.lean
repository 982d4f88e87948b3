/- The plain law of bytes and numbers. -/
import Derived.Test.YtmfgldfldejgcaaVFrom
namespace Go.Proofs.Ytmfgldfldejgcaa
set_option linter.unusedVariables false
set_option linter.unusedSimpArgs false
set_option linter.unusedSectionVars false
open Go.ChangeShapes Go.WideShapes Go.ChangeAt Go.RowKit Go.Joins
theorem bt_val (n i : Nat) (hi : i < 32) : bt (limL n) i = n / 2 ^ (8 * i) % 256 := by
  have e6 : (limL n).getD (i / 8) 0 = lim n (i / 8) := by
    have : i / 8 = 0 ∨ i / 8 = 1 ∨ i / 8 = 2 ∨ i / 8 = 3 := by omega
    rcases this with h | h | h | h <;> rw [h] <;> rfl
  unfold bt
  rw [e6]
  rw [lim_def, B64_eq, ← Nat.pow_mul, show (256 : Nat) = 2 ^ 8 from rfl]
  refine Nat.eq_of_testBit_eq fun j => ?_
  simp only [Nat.testBit_mod_two_pow, Nat.testBit_div_two_pow]
  by_cases hj : j < 8
  · simp only [hj, decide_true, Bool.true_and]
    rw [decide_eq_true (by omega), Bool.true_and]
    congr 1; omega
  · simp [hj]
theorem btsTo_getD (n j : Nat) (hj : j < 32) : (btsTo (limL n) 32).getD j 0 = n / 2 ^ (8 * (31 - j)) % 256 := by
  rw [← bt_val n (31 - j) (by omega)]
  simp [btsTo, List.getD, hj]
theorem from_bytes (n : Nat) : ∀ i, i ≤ 32 → fromV (btsTo (limL n) 32) i = (n % 2 ^ 256) / 2 ^ (8 * (32 - i)) * 2 ^ (8 * (32 - i))
  | 0, _ => by
    simp only [fromV]
    rw [Nat.div_eq_of_lt (Nat.mod_lt _ (Nat.pow_pos (by omega))), Nat.zero_mul]
  | i + 1, hi => by
    simp only [fromV]
    rw [from_bytes n i (by omega), btsTo_getD n i (by omega)]
    obtain ⟨k, hk⟩ : ∃ k, 31 - i = k := ⟨_, rfl⟩
    rw [hk, show 32 - i = k + 1 by omega, show 32 - (i + 1) = k by omega]
    have e1 : n / 2 ^ (8 * k) % 256 = (n % 2 ^ 256) / 2 ^ (8 * k) % 256 := by
      rw [show (256 : Nat) = 2 ^ 8 from rfl]
      refine Nat.eq_of_testBit_eq fun j => ?_
      simp only [Nat.testBit_mod_two_pow, Nat.testBit_div_two_pow]
      by_cases hj : j < 8
      · simp only [hj, decide_true, Bool.true_and]
        rw [decide_eq_true (by omega), Bool.true_and]
      · simp [hj]
    rw [e1]
    generalize n % 2 ^ 256 = m
    have e2 : 2 ^ (8 * (k + 1)) = 2 ^ (8 * k) * 256 := by rw [show 8 * (k + 1) = 8 * k + 8 by omega, Nat.pow_add]
    rw [e2, ← Nat.div_div_eq_div_mul]
    generalize m / 2 ^ (8 * k) = q
    generalize 2 ^ (8 * k) = p
    have := Nat.div_add_mod q 256
    rw [show q / 256 * (p * 256) + q % 256 * p = (256 * (q / 256) + q % 256) * p by rw [Nat.add_mul]; congr 1; rw [Nat.mul_comm p 256, ← Nat.mul_assoc, Nat.mul_comm (q / 256) 256], this]
theorem from_bytes_all {n : Nat} (h : n < T256) : fromV (btsTo (limL n) 32) 32 = n := by
  rw [from_bytes n 32 (Nat.le_refl _)]
  unfold T256 at h
  simp [Nat.mod_eq_of_lt h]
theorem fromV_rest (c : List Nat) (hb : ∀ x ∈ c, x < 256) (m : Nat) : ∀ t, m + t ≤ 32 → ∃ r, fromV c (m + t) = fromV c m + r ∧ r + 2 ^ (8 * (32 - (m + t))) ≤ 2 ^ (8 * (32 - m))
  | 0, _ => ⟨0, by simp, by simp⟩
  | t + 1, h => by
    obtain ⟨r, h1, h2⟩ := fromV_rest c hb m t (by omega)
    have hc := getD_lt (by omega) hb (m + t)
    obtain ⟨k, hk⟩ : ∃ k, 31 - (m + t) = k := ⟨_, rfl⟩
    refine ⟨r + c.getD (m + t) 0 * 2 ^ (8 * k), ?_, ?_⟩
    · rw [← Nat.add_assoc]
      simp only [fromV, h1, hk]
      omega
    · rw [show 32 - (m + t) = k + 1 by omega, show 8 * (k + 1) = 8 * k + 8 by omega, Nat.pow_add] at h2
      rw [show 32 - (m + (t + 1)) = k by omega]
      have : c.getD (m + t) 0 * 2 ^ (8 * k) ≤ 255 * 2 ^ (8 * k) := Nat.mul_le_mul_right _ (by omega)
      generalize 2 ^ (8 * k) = p at *
      omega
theorem fromV_div (c : List Nat) (hb : ∀ x ∈ c, x < 256) (i : Nat) (hi : i < 32) (hm : fromV c i % 2 ^ (8 * (32 - i)) = 0) : fromV c 32 / 2 ^ (8 * (31 - i)) % 256 = c.getD i 0 := by
  obtain ⟨r, h1, h2⟩ := fromV_rest c hb (i + 1) (32 - (i + 1)) (by omega)
  rw [show i + 1 + (32 - (i + 1)) = 32 by omega] at h1 h2
  have hc := getD_lt (by omega) hb i
  obtain ⟨k, hk⟩ : ∃ k, 31 - i = k := ⟨_, rfl⟩
  obtain ⟨t, ht⟩ := Nat.dvd_of_mod_eq_zero hm
  rw [h1]
  simp only [fromV, hk]
  rw [ht, show 32 - i = k + 1 by omega, show 8 * (k + 1) = 8 * k + 8 by omega, Nat.pow_add]
  rw [show 32 - (i + 1) = k by omega] at h2
  have hr : r < 2 ^ (8 * k) := by simp at h2; omega
  have hp : 0 < 2 ^ (8 * k) := Nat.pow_pos (by omega)
  rw [show (2 : Nat) ^ 8 = 256 from rfl]
  generalize 2 ^ (8 * k) = p at *
  rw [show p * 256 * t + c.getD i 0 * p + r = r + p * (256 * t + c.getD i 0) by rw [Nat.mul_add, Nat.mul_comm p (c.getD i 0), Nat.mul_assoc]; omega]
  rw [Nat.add_mul_div_left _ _ hp, Nat.div_eq_of_lt hr]
  omega
theorem fromV_mod (c : List Nat) : ∀ i, i ≤ 32 → fromV c i % 2 ^ (8 * (32 - i)) = 0
  | 0, _ => by simp [fromV]
  | i + 1, h => by
    have ih := fromV_mod c i (by omega)
    obtain ⟨k, hk⟩ : ∃ k, 31 - i = k := ⟨_, rfl⟩
    obtain ⟨t, ht⟩ := Nat.dvd_of_mod_eq_zero ih
    simp only [fromV, hk]
    rw [ht, show 32 - i = k + 1 by omega, show 32 - (i + 1) = k by omega, show 8 * (k + 1) = 8 * k + 8 by omega, Nat.pow_add, Nat.mul_assoc, Nat.mul_comm (c.getD i 0), ← Nat.mul_add, Nat.mul_mod_right]
theorem fromV_lt (c : List Nat) (hb : ∀ x ∈ c, x < 256) : fromV c 32 < T256 := by
  obtain ⟨r, h1, h2⟩ := fromV_rest c hb 0 32 (by omega)
  rw [Nat.zero_add] at h1 h2
  rw [show fromV c 0 = 0 from rfl, Nat.zero_add] at h1
  rw [show 8 * (32 - 0) = 256 from rfl, show 2 ^ (8 * (32 - 32)) = 1 from rfl] at h2
  rw [h1]
  unfold T256
  exact h2
theorem bytes_from {c : List Nat} (hc : c.length = 32) (hb : ∀ x ∈ c, x < 256) : btsTo (limL (fromV c 32)) 32 = c := by
  refine List.ext_getElem (by rw [btsTo_length, hc]) fun j h1 h2 => ?_
  have hj : j < 32 := by omega
  have e1 := btsTo_getD (fromV c 32) j hj
  rw [fromV_div c hb j hj (fromV_mod c j (by omega))] at e1
  simpa [List.getD, List.getElem?_eq_getElem h1, List.getElem?_eq_getElem h2] using e1
end Go.Proofs.Ytmfgldfldejgcaa
