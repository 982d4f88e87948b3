/- Inverses by a modulus: the plain law of Euclid's steps. -/
import Derived.Test.YtidkdlaihmpjfaaDoorVFMul
import Derived.Test.YtidkdlaihmpjfaaDoorVDiv
namespace Go.Proofs.YtidkdlaihmpjfaaDoor
set_option linter.unusedVariables false
set_option linter.unusedSimpArgs false
set_option linter.unusedSectionVars false
open Go.ChangeShapes Go.WideShapes Go.ChangeAt Go.RowKit Go.Joins
/-- u is an inverse of a by m. -/
def isInv (m a u : Nat) : Prop := u < m ∧ u * a % m = 1 % m
def dvd1 (m a u r : Nat) : Prop := (m : Int) ∣ (u : Int) * a - r
/-- The state of Euclid's steps. -/
def euclid (m a r s u t : Nat) : Prop := dvd1 m a u r ∧ dvd1 m a t s ∧ u < m ∧ t < m ∧ r ≤ m ∧ s < r ∧ Nat.gcd s r = Nat.gcd a m
theorem sub_int {m u q t : Nat} (hu : u < m) : ∃ k : Int, ((subM m u (mulM m (q % m) t) : Nat) : Int) = u - q * t + m * k := by
  have h1 : mulM m (q % m) t = q * t % m := by rw [mulM_def, Nat.mul_mod, Nat.mod_mod, ← Nat.mul_mod]
  have h2 : q * t % m < m := Nat.mod_lt _ (by omega)
  have h3 := Nat.div_add_mod (q * t) m
  rw [subM_def, h1]
  have h4 := Nat.div_add_mod (u + (m - q * t % m)) m
  refine ⟨1 + ((q * t / m : Nat) : Int) - (((u + (m - q * t % m)) / m : Nat) : Int), ?_⟩
  have h5 : ((u + (m - q * t % m) : Nat) : Int) = u + m - ((q * t % m : Nat) : Int) := by omega
  have h6 : ((m * (q * t / m) + q * t % m : Nat) : Int) = ((q * t : Nat) : Int) := by rw [h3]
  have h7 : ((m * ((u + (m - q * t % m)) / m) + (u + (m - q * t % m)) % m : Nat) : Int) = ((u + (m - q * t % m) : Nat) : Int) := by rw [h4]
  rw [h5] at h7
  push_cast at h6 h7 ⊢
  rw [Int.mul_sub, Int.mul_add, Int.mul_one]
  omega
theorem dvd_step {m a r s u t : Nat} (hu : u < m) (h1 : dvd1 m a u r) (h2 : dvd1 m a t s) : dvd1 m a (subM m u (mulM m (r / s % m) t)) (r % s) := by
  obtain ⟨k, hk⟩ := sub_int (m := m) (u := u) (q := r / s) (t := t) hu
  unfold dvd1 at *
  rw [hk]
  have h3 : ((r % s : Nat) : Int) = r - s * ((r / s : Nat) : Int) := by
    have := Nat.div_add_mod r s
    have h4 : ((s * (r / s) + r % s : Nat) : Int) = (r : Int) := by rw [this]
    push_cast at h4 ⊢
    omega
  rw [h3]
  have e : ((u : Int) - ((r / s : Nat) : Int) * t + m * k) * a - (r - s * ((r / s : Nat) : Int)) = ((u : Int) * a - r) - ((r / s : Nat) : Int) * ((t : Int) * a - s) + m * (k * a) := by
    rw [Int.add_mul, Int.sub_mul, Int.mul_sub, Int.mul_assoc (m : Int), Int.mul_assoc ((r / s : Nat) : Int), Int.mul_comm (s : Int)]
    omega
  rw [e]
  exact Int.dvd_add (Int.dvd_sub h1 (Int.dvd_mul_of_dvd_right h2)) (Int.dvd_mul_right _ _)
theorem euclid_step {m a r s u t : Nat} (h : euclid m a r s u t) (hs : 0 < s) : euclid m a s (r % s) t (subM m u (mulM m (r / s % m) t)) := by
  obtain ⟨h1, h2, h3, h4, h5, h6, h7⟩ := h
  refine ⟨h2, dvd_step h3 h1 h2, h4, subM_lt (by omega), by omega, Nat.mod_lt _ hs, ?_⟩
  rw [← h7]
  exact (Nat.gcd_rec s r).symm
theorem euclid_zero {m a : Nat} (ha : a < m) : euclid m a m a 0 (1 % m) := by
  refine ⟨?_, ?_, by omega, Nat.mod_lt _ (by omega), Nat.le_refl _, ha, rfl⟩
  · unfold dvd1
    refine ⟨-1, ?_⟩
    simp
  · unfold dvd1
    by_cases h : m = 1
    · subst h
      exact ⟨_, (Int.one_mul _).symm⟩
    · rw [Nat.mod_eq_of_lt (by omega)]
      refine ⟨0, ?_⟩
      simp
theorem mod_of_dvd {m x y : Nat} (h : (m : Int) ∣ (x : Int) - y) : x % m = y % m := by
  have := Int.emod_emod_of_dvd
  have h1 := (Int.emod_eq_emod_iff_emod_sub_eq_zero).2 (Int.emod_eq_zero_of_dvd h)
  omega
theorem euclid_end {m a r u t : Nat} (h : euclid m a r 0 u t) : r = Nat.gcd a m ∧ (r = 1 → isInv m a u) := by
  obtain ⟨h1, h2, h3, h4, h5, h6, h7⟩ := h
  rw [Nat.gcd_zero_left] at h7
  refine ⟨h7, fun e => ⟨h3, ?_⟩⟩
  subst e
  unfold dvd1 at h1
  refine mod_of_dvd ?_
  push_cast
  exact h1
theorem isInv_uniq {m a u v : Nat} (h : isInv m a u) (k : isInv m a v) : u = v := by
  obtain ⟨h1, h2⟩ := h
  obtain ⟨k1, k2⟩ := k
  have e1 : u * (v * a) % m = u % m := by rw [Nat.mul_mod, k2, ← Nat.mul_mod, Nat.mul_one]
  have e2 : v * (u * a) % m = v % m := by rw [Nat.mul_mod, h2, ← Nat.mul_mod, Nat.mul_one]
  rw [Nat.mul_left_comm, e2, Nat.mod_eq_of_lt h1, Nat.mod_eq_of_lt k1] at e1
  exact e1.symm
theorem inv_ex : ∃ f : Nat → Nat → Nat, ∀ m a, (∃ u, isInv m a u) → isInv m a (f m a) :=
  ⟨fun m a => @dite _ (∃ u, isInv m a u) (Classical.propDecidable _) (fun h => Classical.choose h) fun _ => 0, fun m a h => by
    dsimp only
    rw [dif_pos h]
    exact Classical.choose_spec h⟩
noncomputable def invM : Nat → Nat → Nat := Classical.choose inv_ex
theorem invM_of {m a u : Nat} (h : isInv m a u) : u = invM m a := isInv_uniq h (Classical.choose_spec inv_ex m a ⟨u, h⟩)
theorem inv_exists {m a : Nat} : ∀ (n s r u t : Nat), s ≤ n → euclid m a r s u t → Nat.gcd a m = 1 → ∃ u, isInv m a u := by
  intro n
  induction n with
  | zero =>
    intro s r u t hs h hg
    have : s = 0 := by omega
    subst this
    obtain ⟨h1, h2⟩ := euclid_end h
    exact ⟨u, h2 (by omega)⟩
  | succ n ih =>
    intro s r u t hs h hg
    by_cases h0 : s = 0
    · subst h0
      obtain ⟨h1, h2⟩ := euclid_end h
      exact ⟨u, h2 (by omega)⟩
    · have := Nat.mod_lt r (show 0 < s by omega)
      exact ih (r % s) s t _ (by omega) (euclid_step h (by omega)) hg
theorem invM_ok {m a : Nat} (ha : a < m) (hg : Nat.gcd a m = 1) : isInv m a (invM m a) := by
  obtain ⟨u, h⟩ := inv_exists a a m 0 _ (Nat.le_refl _) (euclid_zero ha) hg
  exact invM_of h ▸ h
theorem invM_back {m a : Nat} (ha : a < m) (hg : Nat.gcd a m = 1) : Nat.gcd (invM m a) m = 1 ∧ invM m (invM m a) = a := by
  obtain ⟨h1, h2⟩ := invM_ok ha hg
  have h3 : isInv m (invM m a) a := ⟨ha, by rw [Nat.mul_comm]; exact h2⟩
  refine ⟨?_, (invM_of h3).symm⟩
  have hd : Nat.gcd (invM m a) m ∣ 1 % m := by
    rw [← h2]
    refine (Nat.dvd_mod_iff (Nat.gcd_dvd_right _ _)).2 ?_
    exact Nat.dvd_trans (Nat.gcd_dvd_left _ _) (Nat.dvd_mul_right _ _)
  by_cases h : m = 1
  · subst h; rw [Nat.gcd_one_right]
  · rw [Nat.mod_eq_of_lt (show 1 < m by omega)] at hd
    exact Nat.dvd_one.1 hd
end Go.Proofs.YtidkdlaihmpjfaaDoor
