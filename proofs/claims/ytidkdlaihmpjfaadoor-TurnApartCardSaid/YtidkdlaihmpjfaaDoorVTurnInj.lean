/- Keccak's rounds turn different lanes into different ones: a plain law. -/
import Derived.Test.YtidkdlaihmpjfaaDoorVKecN
namespace Go.Proofs.YtidkdlaihmpjfaaDoor
set_option linter.unusedVariables false
set_option linter.unusedSimpArgs false
set_option linter.unusedSectionVars false
open Go.ChangeShapes Go.WideShapes Go.ChangeAt Go.RowKit Go.Joins
set_option maxRecDepth 10000
set_option linter.constructorNameAsVariable false
theorem xo_bit (a b j : Nat) : (xo a b).testBit j = (a.testBit j ^^ b.testBit j) := by rw [xo_def, Nat.testBit_xor]
theorem an_bit (a b j : Nat) : (an a b).testBit j = (a.testBit j && b.testBit j) := by rw [an_def, Nat.testBit_and]
theorem hi_bit {a j : Nat} (h : W64 a) (hj : 64 ≤ j) : a.testBit j = false := Nat.testBit_lt_two_pow (Nat.lt_of_lt_of_le h (Nat.pow_le_pow_right (by decide) hj))
theorem bits_eq {a b : Nat} (ha : W64 a) (hb : W64 b) (h : ∀ j, j < 64 → a.testBit j = b.testBit j) : a = b := by
  refine Nat.eq_of_testBit_eq fun j => ?_
  rcases Nat.lt_or_ge j 64 with h1 | h1
  · exact h j h1
  · rw [hi_bit ha h1, hi_bit hb h1]
theorem xo_cancel {a b k : Nat} (ha : W64 a) (hb : W64 b) (h : xo a k = xo b k) : a = b := by
  refine bits_eq ha hb fun j _ => ?_
  have := congrArg (fun x => x.testBit j) h
  simp only [xo_bit] at this
  revert this
  cases a.testBit j <;> cases b.testBit j <;> cases k.testBit j <;> simp
theorem rt_bit {x k j : Nat} (hx : W64 x) (hk : k < 64) (hj : j < 64) : (rt x k).testBit j = x.testBit ((j + (64 - k)) % 64) := by
  rw [rt_def]
  unfold rotl
  rw [Nat.testBit_or, show (18446744073709551616 : Nat) = 2 ^ 64 from rfl, Nat.testBit_mod_two_pow, Nat.testBit_mul_two_pow, Nat.testBit_div_two_pow]
  rcases Nat.lt_or_ge j k with h | h
  · rw [show decide (j < 64) = true from decide_eq_true hj, show decide (k ≤ j) = false from decide_eq_false (by omega), Bool.false_and, Bool.and_false, Bool.false_or, Nat.mod_eq_of_lt (by omega), Nat.add_comm]
  · rw [show decide (j < 64) = true from decide_eq_true hj, show decide (k ≤ j) = true from decide_eq_true h, Bool.true_and, Bool.true_and, hi_bit hx (show 64 ≤ j + (64 - k) by omega), Bool.or_false, show (j + (64 - k)) % 64 = j - k by omega]
theorem rt_inj {x y k : Nat} (hx : W64 x) (hy : W64 y) (hk : k < 64) (h : rt x k = rt y k) : x = y := by
  refine bits_eq hx hy fun j hj => ?_
  have := congrArg (fun v => v.testBit ((j + k) % 64)) h
  simp only [rt_bit hx hk (Nat.mod_lt _ (by decide)), rt_bit hy hk (Nat.mod_lt _ (by decide))] at this
  rwa [show ((j + k) % 64 + (64 - k)) % 64 = j by omega] at this
/-- Five bits by the row's rule. -/
theorem row_inj : ∀ a0 a1 a2 a3 a4 b0 b1 b2 b3 b4 : Bool, (a0 ^^ (!a1 && a2)) = (b0 ^^ (!b1 && b2)) → (a1 ^^ (!a2 && a3)) = (b1 ^^ (!b2 && b3)) → (a2 ^^ (!a3 && a4)) = (b2 ^^ (!b3 && b4)) → (a3 ^^ (!a4 && a0)) = (b3 ^^ (!b4 && b0)) → (a4 ^^ (!a0 && a1)) = (b4 ^^ (!b0 && b1)) → a0 = b0 ∧ a1 = b1 ∧ a2 = b2 ∧ a3 = b3 ∧ a4 = b4 := by decide
theorem not_bit {a j : Nat} (hj : j < 64) : (xo 18446744073709551615 a).testBit j = !a.testBit j := by
  rw [xo_bit, show (18446744073709551615 : Nat) = 2 ^ 64 - 1 from rfl, Nat.testBit_two_pow_sub_one, decide_eq_true hj, Bool.true_xor]
theorem chV_bit (b : List Nat) (i : Nat) {j : Nat} (hj : j < 64) : (chV b i).testBit j = ((b.getD i 0).testBit j ^^ (!(b.getD ((i % 5 + 1) % 5 + 5 * (i / 5)) 0).testBit j && (b.getD ((i % 5 + 2) % 5 + 5 * (i / 5)) 0).testBit j)) := by
  unfold chV
  rw [xo_bit, an_bit, not_bit hj]
theorem chV_inj {b c : List Nat} (hb : L64 b 25) (hc : L64 c 25) (h : ∀ i, i < 25 → chV b i = chV c i) : ∀ i, i < 25 → b.getD i 0 = c.getD i 0 := by
  have key : ∀ y, y < 5 → ∀ j, j < 64 → ∀ x, x < 5 → (b.getD (x + 5 * y) 0).testBit j = (c.getD (x + 5 * y) 0).testBit j := by
    intro y hy j hj
    have e := fun i (hi : i < 25) => congrArg (fun v => v.testBit j) (h i hi)
    simp only [chV_bit _ _ hj] at e
    have e0 := e (0 + 5 * y) (by omega)
    have e1 := e (1 + 5 * y) (by omega)
    have e2 := e (2 + 5 * y) (by omega)
    have e3 := e (3 + 5 * y) (by omega)
    have e4 := e (4 + 5 * y) (by omega)
    have m : ∀ x, x < 5 → (x + 5 * y) % 5 = x ∧ (x + 5 * y) / 5 = y := fun x hx => by omega
    rw [(m 0 (by decide)).1, (m 0 (by decide)).2] at e0
    rw [(m 1 (by decide)).1, (m 1 (by decide)).2] at e1
    rw [(m 2 (by decide)).1, (m 2 (by decide)).2] at e2
    rw [(m 3 (by decide)).1, (m 3 (by decide)).2] at e3
    rw [(m 4 (by decide)).1, (m 4 (by decide)).2] at e4
    obtain ⟨r0, r1, r2, r3, r4⟩ := row_inj _ _ _ _ _ _ _ _ _ _ e0 e1 e2 e3 e4
    intro x hx
    have : x = 0 ∨ x = 1 ∨ x = 2 ∨ x = 3 ∨ x = 4 := by omega
    rcases this with rfl | rfl | rfl | rfl | rfl <;> assumption
  intro i hi
  refine bits_eq (L64_get hb _) (L64_get hc _) fun j hj => ?_
  have := key (i / 5) (by omega) j hj (i % 5) (by omega)
  rwa [show i % 5 + 5 * (i / 5) = i by omega] at this
theorem list_ext {b c : List Nat} {n : Nat} (hb : b.length = n) (hc : c.length = n) (h : ∀ i, i < n → b.getD i 0 = c.getD i 0) : b = c := by
  refine List.ext_getElem (by omega) fun i h1 h2 => ?_
  have := h i (by omega)
  simpa [List.getD, List.getElem?_eq_getElem h1, List.getElem?_eq_getElem h2] using this
theorem getD_set (l : List Nat) (i j x : Nat) (hi : i < l.length) : (l.set i x).getD j 0 = if i = j then x else l.getD j 0 := by
  rw [List.getD_eq_getElem?_getD, List.getD_eq_getElem?_getD, List.getElem?_set]
  split
  · first | rfl | (rw [if_pos (by omega)]; rfl)
  · rfl
theorem chA_len {a b : List Nat} (ha : a.length = 25) : ∀ i, (chA a b i).length = 25
  | 0 => ha
  | i + 1 => by simp only [chA, List.length_set]; exact chA_len ha i
theorem chA_get {a b : List Nat} (ha : a.length = 25) : ∀ i, i ≤ 25 → ∀ j, j < i → (chA a b i).getD j 0 = chV b j
  | 0, _, j, h => by omega
  | i + 1, hi, j, h => by
    simp only [chA]
    rw [getD_set _ _ _ _ (by rw [chA_len ha]; omega)]
    split
    · rename_i e; rw [e]
    · exact chA_get ha i (by omega) j (by omega)
def piI (i : Nat) : Nat := i / 5 + 5 * ((2 * (i % 5) + 3 * (i / 5)) % 5)
theorem piI_lt {i : Nat} (h : i < 25) : piI i < 25 := by unfold piI; omega
theorem piI_inj {i j : Nat} (hi : i < 25) (hj : j < 25) (h : piI i = piI j) : i = j := by unfold piI at h; omega
theorem roB_len {a c : List Nat} : ∀ i, (roB a c i).length = 25
  | 0 => rfl
  | i + 1 => by simp only [roB, List.length_set]; exact roB_len i
theorem roB_get {a c : List Nat} : ∀ i, i ≤ 25 → ∀ j, j < i → (roB a c i).getD (piI j) 0 = roV a c j
  | 0, _, j, h => by omega
  | i + 1, hi, j, h => by
    simp only [roB]
    rw [getD_set _ _ _ _ (by rw [roB_len]; exact piI_lt (by omega))]
    split
    · rename_i e
      have : i = j := piI_inj (by omega) (by omega) e
      rw [this]
    · rename_i e
      exact roB_get i (by omega) j (by
        rcases Nat.lt_or_ge j i with h1 | h1
        · exact h1
        · have : j = i := by omega
          subst this; exact absurd rfl e)
/-- The column sums, bit by bit. -/
def par5 (a : List Nat) (x j : Nat) : Bool := ((((a.getD x 0).testBit j ^^ (a.getD (x + 5) 0).testBit j) ^^ (a.getD (x + 10) 0).testBit j) ^^ (a.getD (x + 15) 0).testBit j) ^^ (a.getD (x + 20) 0).testBit j
theorem thC_len {a : List Nat} : ∀ i, (thC a i).length = 5
  | 0 => rfl
  | i + 1 => by simp only [thC, List.length_set]; exact thC_len i
theorem thC_at {a : List Nat} (i x : Nat) : (thC a (i + 1)).getD x 0 = if i % 5 = x then xo ((thC a i).getD x 0) (a.getD i 0) else (thC a i).getD x 0 := by
  simp only [thC]
  rw [getD_set _ _ _ _ (by rw [thC_len]; omega)]
  split
  · rename_i e; rw [e]
  · rfl
theorem thC_bit (a : List Nat) {x j : Nat} (hx : x < 5) : ((thC a 25).getD x 0).testBit j = par5 a x j := by
  have z : (thC a 0).getD x 0 = 0 := by
    have : x = 0 ∨ x = 1 ∨ x = 2 ∨ x = 3 ∨ x = 4 := by omega
    rcases this with rfl | rfl | rfl | rfl | rfl <;> rfl
  have hx' : x = 0 ∨ x = 1 ∨ x = 2 ∨ x = 3 ∨ x = 4 := by omega
  unfold par5
  rcases hx' with rfl | rfl | rfl | rfl | rfl <;> simp [thC_at, z, xo_bit, -List.getD_eq_getElem?_getD]
/-- A system of columns that has no solution but nought: the turn by one bit is a sum of two shifts, and 64 such turns change nothing. -/
theorem cols_zero {b : Nat → Nat → Bool} (p5 : ∀ x j, b (x + 5) j = b x j) (p64 : ∀ x j, b x (j + 64) = b x j) (h : ∀ x j, b x j = (b (x + 4) j ^^ b (x + 1) (j + 63))) : ∀ x j, b x j = false := by
  have cancel : ∀ u v w : Bool, ((u ^^ v) ^^ (v ^^ w)) = (u ^^ w) := by decide
  have r1 : ∀ x j, b x (j + 63) = (b (x + 4) j ^^ b (x + 3) j) := fun x j => by
    have := h (x + 4) j
    rw [show x + 4 + 1 = x + 5 by omega, p5, p5] at this
    rw [this]
    cases b (x + 3) j <;> cases b x (j + 63) <;> rfl
  have r2 : ∀ x j, b x (j + 126) = (b (x + 3) j ^^ b (x + 1) j) := fun x j => by
    rw [show j + 126 = (j + 63) + 63 by omega, r1, r1, r1, show x + 4 + 4 = (x + 3) + 5 by omega, p5, show x + 4 + 3 = x + 3 + 4 by omega, cancel, show x + 3 + 3 = (x + 1) + 5 by omega, p5]
  have r4 : ∀ x j, b x (j + 252) = (b (x + 1) j ^^ b (x + 2) j) := fun x j => by
    rw [show j + 252 = (j + 126) + 126 by omega, r2, r2, r2, show x + 3 + 3 = (x + 1) + 5 by omega, p5, show x + 3 + 1 = x + 1 + 3 by omega, cancel, show x + 1 + 1 = x + 2 by omega]
  have r8 : ∀ x j, b x (j + 504) = (b (x + 2) j ^^ b (x + 4) j) := fun x j => by
    rw [show j + 504 = (j + 252) + 252 by omega, r4, r4, r4, show x + 1 + 1 = x + 2 by omega, show x + 1 + 2 = x + 2 + 1 by omega, cancel, show x + 2 + 2 = x + 4 by omega]
  have r16 : ∀ x j, b x (j + 1008) = (b (x + 4) j ^^ b (x + 3) j) := fun x j => by
    rw [show j + 1008 = (j + 504) + 504 by omega, r8, r8, r8, show x + 2 + 2 = x + 4 by omega, show x + 2 + 4 = x + 4 + 2 by omega, cancel, show x + 4 + 4 = (x + 3) + 5 by omega, p5]
  have r32 : ∀ x j, b x (j + 2016) = (b (x + 3) j ^^ b (x + 1) j) := fun x j => by
    rw [show j + 2016 = (j + 1008) + 1008 by omega, r16, r16, r16, show x + 4 + 4 = (x + 3) + 5 by omega, p5, show x + 4 + 3 = x + 3 + 4 by omega, cancel, show x + 3 + 3 = (x + 1) + 5 by omega, p5]
  have r64 : ∀ x j, b x (j + 4032) = (b (x + 1) j ^^ b (x + 2) j) := fun x j => by
    rw [show j + 4032 = (j + 2016) + 2016 by omega, r32, r32, r32, show x + 3 + 3 = (x + 1) + 5 by omega, p5, show x + 3 + 1 = x + 1 + 3 by omega, cancel, show x + 1 + 1 = x + 2 by omega]
  have many : ∀ n x j, b x (j + 64 * n) = b x j := by
    intro n
    induction n with
    | zero => intro x j; rfl
    | succ n ih => intro x j; rw [show j + 64 * (n + 1) = (j + 64 * n) + 64 by omega, p64, ih]
  have e1 : ∀ x j, b x j = (b (x + 1) j ^^ b (x + 2) j) := fun x j => by
    have := r64 x j
    rwa [show 4032 = 64 * 63 from rfl, many] at this
  have e3 : ∀ x j, b (x + 3) j = b x j := fun x j => by
    have h1 := e1 x j
    have h2 := e1 (x + 1) j
    rw [show x + 1 + 1 = x + 2 by omega, show x + 1 + 2 = x + 3 by omega] at h2
    rw [h1, h2]
    cases b (x + 2) j <;> cases b (x + 3) j <;> rfl
  intro x j
  have f1 : b (x + 1) j = b x j := by rw [← e3 x j, ← e3 (x + 3) j, show x + 3 + 3 = (x + 1) + 5 by omega, p5]
  have f2 : b (x + 2) j = b x j := by rw [← e3 (x + 2) j, show x + 2 + 3 = x + 5 by omega, p5]
  rw [e1 x j, f1, f2]
  cases b x j <;> rfl
theorem roV_in {a c : List Nat} (ha : L64 a 25) (hc : L64 c 5) (i : Nat) : W64 (xo (xo (a.getD i 0) (c.getD ((i % 5 + 4) % 5) 0)) (rt (c.getD ((i % 5 + 1) % 5) 0) 1)) := xo_lt (xo_lt (L64_get ha _) (L64_get hc _)) (rt_lt (L64_get hc _))
theorem theta_inj {a b : List Nat} (ha : L64 a 25) (hb : L64 b 25) (h : ∀ i, i < 25 → roV a (thC a 25) i = roV b (thC b 25) i) : ∀ i, i < 25 → a.getD i 0 = b.getD i 0 := by
  have ca := thC_ok ha 25
  have cb := thC_ok hb 25
  have lt : ∀ i, kTurns.getD i 0 < 64 := fun i => getD_lt (by decide) (by decide) i
  have e : ∀ i, i < 25 → ∀ j, j < 64 → (((a.getD i 0).testBit j ^^ par5 a ((i % 5 + 4) % 5) j) ^^ par5 a ((i % 5 + 1) % 5) ((j + 63) % 64)) = (((b.getD i 0).testBit j ^^ par5 b ((i % 5 + 4) % 5) j) ^^ par5 b ((i % 5 + 1) % 5) ((j + 63) % 64)) := by
    intro i hi j hj
    have h1 := rt_inj (roV_in ha ca i) (roV_in hb cb i) (lt i) (h i hi)
    have h2 := congrArg (fun v => v.testBit j) h1
    simp only [xo_bit, rt_bit (L64_get ca _) (show 1 < 64 by decide) hj, rt_bit (L64_get cb _) (show 1 < 64 by decide) hj] at h2
    rw [thC_bit a (Nat.mod_lt _ (by decide)), thC_bit b (Nat.mod_lt _ (by decide)), thC_bit a (Nat.mod_lt _ (by decide)), thC_bit b (Nat.mod_lt _ (by decide))] at h2
    exact h2
  have hz := cols_zero (b := fun x j => par5 a (x % 5) (j % 64) ^^ par5 b (x % 5) (j % 64)) (fun x j => by simp) (fun x j => by simp) (fun x j => by
    have hx := Nat.mod_lt x (show 0 < 5 by decide)
    have hj := Nat.mod_lt j (show 0 < 64 by decide)
    have f0 := e (x % 5) (by omega) (j % 64) hj
    have f1 := e (x % 5 + 5) (by omega) (j % 64) hj
    have f2 := e (x % 5 + 10) (by omega) (j % 64) hj
    have f3 := e (x % 5 + 15) (by omega) (j % 64) hj
    have f4 := e (x % 5 + 20) (by omega) (j % 64) hj
    have m1 : (x % 5 % 5 + 4) % 5 = (x + 4) % 5 := by omega
    have m2 : (x % 5 % 5 + 1) % 5 = (x + 1) % 5 := by omega
    have m3 : (j % 64 + 63) % 64 = (j + 63) % 64 := by omega
    rw [show (x % 5 + 5) % 5 = x % 5 % 5 by omega] at f1
    rw [show (x % 5 + 10) % 5 = x % 5 % 5 by omega] at f2
    rw [show (x % 5 + 15) % 5 = x % 5 % 5 by omega] at f3
    rw [show (x % 5 + 20) % 5 = x % 5 % 5 by omega] at f4
    rw [m1, m2, m3] at f0 f1 f2 f3 f4
    show (par5 a (x % 5) (j % 64) ^^ par5 b (x % 5) (j % 64)) = ((par5 a ((x + 4) % 5) (j % 64) ^^ par5 b ((x + 4) % 5) (j % 64)) ^^ (par5 a ((x + 1) % 5) ((j + 63) % 64) ^^ par5 b ((x + 1) % 5) ((j + 63) % 64)))
    generalize par5 a ((x + 4) % 5) (j % 64) = u at *
    generalize par5 b ((x + 4) % 5) (j % 64) = v at *
    generalize par5 a ((x + 1) % 5) ((j + 63) % 64) = w at *
    generalize par5 b ((x + 1) % 5) ((j + 63) % 64) = z at *
    unfold par5
    have five : ∀ p0 p1 p2 p3 p4 q0 q1 q2 q3 q4 d : Bool, (p0 ^^ q0) = d → (p1 ^^ q1) = d → (p2 ^^ q2) = d → (p3 ^^ q3) = d → (p4 ^^ q4) = d → (((((p0 ^^ p1) ^^ p2) ^^ p3) ^^ p4) ^^ ((((q0 ^^ q1) ^^ q2) ^^ q3) ^^ q4)) = d := by decide
    have one : ∀ p q u v w z : Bool, ((p ^^ u) ^^ w) = ((q ^^ v) ^^ z) → (p ^^ q) = ((u ^^ v) ^^ (w ^^ z)) := by decide
    exact five _ _ _ _ _ _ _ _ _ _ _ (one _ _ _ _ _ _ f0) (one _ _ _ _ _ _ f1) (one _ _ _ _ _ _ f2) (one _ _ _ _ _ _ f3) (one _ _ _ _ _ _ f4))
  intro i hi
  refine bits_eq (L64_get ha _) (L64_get hb _) fun j hj => ?_
  have h0 := e i hi j hj
  have z1 := hz (i % 5 + 4) j
  have z2 := hz (i % 5 + 1) (j + 63)
  simp only [Nat.mod_eq_of_lt hj] at z1
  (try dsimp only at z2)
  have one : ∀ p q u v w z : Bool, ((p ^^ u) ^^ w) = ((q ^^ v) ^^ z) → (u ^^ v) = false → (w ^^ z) = false → p = q := by decide
  exact one _ _ _ _ _ _ h0 z1 z2
theorem roundK_inj {a b : List Nat} (ha : L64 a 25) (hb : L64 b 25) {k : Nat} (h : roundK a k = roundK b k) : a = b := by
  have ra := roB_ok ha (thC_ok ha 25) 25
  have rb := roB_ok hb (thC_ok hb 25) 25
  have h' : (chA a (roB a (thC a 25) 25) 25).set 0 (xo ((chA a (roB a (thC a 25) 25) 25).getD 0 0) k) = (chA b (roB b (thC b 25) 25) 25).set 0 (xo ((chA b (roB b (thC b 25) 25) 25).getD 0 0) k) := by
    unfold roundK chF roF thF at h
    simpa only [hid_eq] using h
  have oa := chA_ok ha ra 25
  have ob := chA_ok hb rb 25
  have hg : ∀ i, i < 25 → (chA a (roB a (thC a 25) 25) 25).getD i 0 = (chA b (roB b (thC b 25) 25) 25).getD i 0 := by
    intro i hi
    have := congrArg (fun l => l.getD i 0) h'
    simp only [getD_set _ _ _ _ (show 0 < (chA a (roB a (thC a 25) 25) 25).length by rw [oa.1]; decide), getD_set _ _ _ _ (show 0 < (chA b (roB b (thC b 25) 25) 25).length by rw [ob.1]; decide)] at this
    by_cases e : 0 = i
    · rw [if_pos e, if_pos e] at this
      rw [← e]
      exact xo_cancel (L64_get oa 0) (L64_get ob 0) this
    · rwa [if_neg e, if_neg e] at this
  have hv : ∀ i, i < 25 → chV (roB a (thC a 25) 25) i = chV (roB b (thC b 25) 25) i := fun i hi => by
    rw [← chA_get ha.1 25 (Nat.le_refl _) i hi, ← chA_get hb.1 25 (Nat.le_refl _) i hi]; exact hg i hi
  have hr := chV_inj ra rb hv
  exact list_ext ha.1 hb.1 (theta_inj ha hb fun i hi => by
    rw [← roB_get 25 (Nat.le_refl _) i hi, ← roB_get 25 (Nat.le_refl _) i hi]; exact hr _ (piI_lt hi))
theorem turnS_inj {a b : List Nat} (ha : L64 a 25) (hb : L64 b 25) (h : turnS a = turnS b) : a = b := by
  rw [turnS_def, turnS_def] at h
  have : ∀ n, turnTo a n = turnTo b n → a = b := by
    intro n
    induction n with
    | zero => exact fun h => h
    | succ n ih => exact fun h => ih (roundK_inj (turnTo_ok ha n) (turnTo_ok hb n) h)
  exact this 24 h
end Go.Proofs.YtidkdlaihmpjfaaDoor
