/- The small curves' moduli are prime: by Fermat's sign, reckoned through. -/
import Derived.Test.YtidkdlaihmpjfaaDoorVCurve0
import Derived.Test.YtidkdlaihmpjfaaDoorVInvN
namespace Go.Proofs.YtidkdlaihmpjfaaDoor
set_option linter.unusedVariables false
set_option linter.unusedSimpArgs false
set_option linter.unusedSectionVars false
open Go.ChangeShapes Go.WideShapes Go.ChangeAt Go.RowKit Go.Joins
set_option maxRecDepth 10000
def fermatOk (p : Nat) : Bool := (List.range (p - 1)).all fun a => Nat.beq ((a + 1) ^ (p - 1) % p) 1
theorem crv_cases {Q : Nat → Prop} {k : Nat} (h : k < 8) (h0 : Q 0) (h1 : Q 1) (h2 : Q 2) (h3 : Q 3) (h4 : Q 4) (h5 : Q 5) (h6 : Q 6) (h7 : Q 7) : Q k := by
  have hk : k = 0 ∨ k = 1 ∨ k = 2 ∨ k = 3 ∨ k = 4 ∨ k = 5 ∨ k = 6 ∨ k = 7 := by omega
  rcases hk with rfl | rfl | rfl | rfl | rfl | rfl | rfl | rfl <;> assumption
theorem crv_fermat {k : Nat} (h : k < 8) : fermatOk (crv k).P = true :=
  crv_cases (Q := fun k => fermatOk (crv k).P = true) h (by kernel_rfl) (by kernel_rfl) (by kernel_rfl) (by kernel_rfl) (by kernel_rfl) (by kernel_rfl) (by kernel_rfl) (by kernel_rfl)
theorem crv_fermatN {k : Nat} (h : k < 8) : fermatOk (crv k).N = true :=
  crv_cases (Q := fun k => fermatOk (crv k).N = true) h (by kernel_rfl) (by kernel_rfl) (by kernel_rfl) (by kernel_rfl) (by kernel_rfl) (by kernel_rfl) (by kernel_rfl) (by kernel_rfl)
theorem crv_bounds {k : Nat} (h : k < 8) : 43 ≤ (crv k).P ∧ (crv k).P < 1000 ∧ 31 ≤ (crv k).N ∧ (crv k).N < 1000 ∧ (crv k).A = 0 ∧ (crv k).B < 43 ∧ (crv k).X < 43 ∧ (crv k).Y < 60 :=
  crv_cases (Q := fun k => 43 ≤ (crv k).P ∧ (crv k).P < 1000 ∧ 31 ≤ (crv k).N ∧ (crv k).N < 1000 ∧ (crv k).A = 0 ∧ (crv k).B < 43 ∧ (crv k).X < 43 ∧ (crv k).Y < 60) h (by decide) (by decide) (by decide) (by decide) (by decide) (by decide) (by decide) (by decide)
theorem fermat_at {p a : Nat} (h : fermatOk p = true) (h0 : 0 < a) (h1 : a < p) : a ^ (p - 1) % p = 1 := by
  unfold fermatOk at h
  rw [List.all_eq_true] at h
  have := Nat.eq_of_beq_eq_true (h (a - 1) (List.mem_range.2 (by omega)))
  rwa [show a - 1 + 1 = a by omega] at this
theorem fermat_inv {p a : Nat} (h : fermatOk p = true) (hp : 2 ≤ p) (h0 : 0 < a) (h1 : a < p) : isInv p a (a ^ (p - 2) % p) := by
  have h2 := fermat_at h h0 h1
  refine ⟨Nat.mod_lt _ (by omega), ?_⟩
  rw [Nat.mod_eq_of_lt (show 1 < p by omega), Nat.mod_mul_mod, ← Nat.pow_succ, show (p - 2).succ = p - 1 by omega]
  exact h2
theorem coprime_of_inv {m a u : Nat} (hm : 1 < m) (h : isInv m a u) : Nat.gcd a m = 1 := by
  have hd : Nat.gcd a m ∣ 1 % m := by
    rw [← h.2]
    refine (Nat.dvd_mod_iff (Nat.gcd_dvd_right _ _)).2 ?_
    exact Nat.dvd_trans (Nat.gcd_dvd_left _ _) (Nat.dvd_mul_left _ _)
  rw [Nat.mod_eq_of_lt hm] at hd
  exact Nat.dvd_one.1 hd
end Go.Proofs.YtidkdlaihmpjfaaDoor
