/- The group law of the small curves: sums by chord and tangent in whole numbers by a modulus (a plain law). -/
import Derived.Test.YtidkdlaihmpjfaaDoorVCurveP
import Derived.Test.YtidkdlaihmpjfaaDoorVField
import Derived.Test.YtidkdlaihmpjfaaDoorVFMul
namespace Go.Proofs.YtidkdlaihmpjfaaDoor
set_option linter.unusedVariables false
set_option linter.unusedSimpArgs false
set_option linter.unusedSectionVars false
open Go.ChangeShapes Go.WideShapes Go.ChangeAt Go.RowKit Go.Joins
set_option maxRecDepth 10000
/-- A point. -/
structure PtD where
  x : Nat
  y : Nat
  far : Bool
noncomputable def PtD.cells (p : PtD) : List VV := uC p.x ++ (uC p.y ++ [bI p.far])
noncomputable def PtD.v (p : PtD) : VV := .agg p.cells
def farP : PtD := ⟨0, 0, true⟩
def nilP : PtD := ⟨0, 0, false⟩
def PtD.lt (p : PtD) (m : Nat) : Prop := p.x < m ∧ p.y < m
/-- By a chord or a tangent of the slope up / down. -/
noncomputable def chordP (m : Nat) (p q : PtD) (s : Nat) : PtD :=
  ⟨subM m (subM m (mulM m s s) p.x) q.x, subM m (mulM m s (subM m p.x (subM m (subM m (mulM m s s) p.x) q.x))) p.y, false⟩
open Classical in
/-- The sum of two points; whether there is one. -/
noncomputable def padd (c : CvD) (p q : PtD) : PtD × Bool :=
  if p.far = true then (q, true) else if q.far = true then (p, true) else
  if p.x = q.x then
    if addM c.P p.y q.y = 0 then (farP, true) else if p.y = q.y then
      (if Nat.gcd (addM c.P p.y p.y) c.P = 1 then (chordP c.P p q (mulM c.P (addM c.P (mulM c.P (modN 3 c.P) (mulM c.P p.x p.x)) c.A) (invM c.P (addM c.P p.y p.y))), true) else (nilP, false))
    else (nilP, false)
  else
    (if Nat.gcd (subM c.P q.x p.x) c.P = 1 then (chordP c.P p q (mulM c.P (subM c.P q.y p.y) (invM c.P (subM c.P q.x p.x))), true) else (nilP, false))
/-- x is congruent to y by m. -/
def cong (m : Nat) (x y : Int) : Prop := ∃ k : Int, x = y + m * k
theorem cong_lt {m x y : Nat} (h : cong m x y) (hx : x < m) (hy : y < m) : x = y := by
  obtain ⟨k, hk⟩ := h
  have h1 := Int.add_mul_emod_self_left (y : Int) (m : Int) k
  rw [← hk, Int.emod_eq_of_lt (by omega) (by omega), Int.emod_eq_of_lt (by omega) (by omega)] at h1
  omega
theorem cong_mod {m : Nat} {x y : Nat} (h : x % m = y % m) : cong m x y := by
  have h1 := Nat.div_add_mod x m
  have h2 := Nat.div_add_mod y m
  refine ⟨(x / m : Nat) - (y / m : Nat), ?_⟩
  have h3 : ((m * (x / m) + x % m : Nat) : Int) = (x : Int) := by rw [h1]
  have h4 : ((m * (y / m) + y % m : Nat) : Int) = (y : Int) := by rw [h2]
  rw [h] at h3
  push_cast at h3 h4 ⊢
  rw [Int.mul_sub]
  omega
theorem cong_add {m : Nat} (a b : Nat) : cong m (addM m a b : Nat) ((a : Int) + b) := by
  have := cong_mod (m := m) (x := addM m a b) (y := a + b) (by rw [addM_def, Nat.mod_mod])
  push_cast at this
  exact this
theorem cong_mul {m : Nat} (a b : Nat) : cong m (mulM m a b : Nat) ((a : Int) * b) := by
  have := cong_mod (m := m) (x := mulM m a b) (y := a * b) (by rw [mulM_def, Nat.mod_mod])
  push_cast at this
  exact this
theorem cong_sub {m a b : Nat} (hb : b ≤ m) : cong m (subM m a b : Nat) ((a : Int) - b) := by
  have h := cong_mod (m := m) (x := subM m a b) (y := a + (m - b)) (by rw [subM_def, Nat.mod_mod])
  obtain ⟨k, hk⟩ := h
  refine ⟨k + 1, ?_⟩
  rw [hk, Int.mul_add, Int.mul_one]
  omega
theorem cong_inv {m a u : Nat} (h : isInv m a u) (hm : 1 < m) : cong m ((u : Int) * a) 1 := by
  have := cong_mod (m := m) (x := u * a) (y := 1) h.2
  push_cast at this
  exact this
theorem alg_x {m S up d v s k0 k1 k2 : Int} (e0 : v * d = 1 + m * k0) (e1 : s = up * v + m * k1) (e2 : S * (d * d) = up * up + m * k2) :
    s * s = S + m * (S * (2 * k0 + m * k0 * k0) - k2 * v * v + (2 * up * v * k1 + m * k1 * k1)) := by
  subst e1
  have h : S * (d * d) * (v * v) = (up * up + m * k2) * (v * v) := by rw [e2]
  have h2 : S * (d * d) * (v * v) = S * ((1 + m * k0) * (1 + m * k0)) := by rw [← e0]; grind
  grind
theorem alg_y {m Y X up d v s k0 k1 k3 : Int} (e0 : v * d = 1 + m * k0) (e1 : s = up * v + m * k1) (e3 : Y * d = up * X + m * k3) :
    s * X = Y + m * (k1 * X - (k3 * v - Y * k0)) := by
  subst e1
  have h : Y * d * v = (up * X + m * k3) * v := by rw [e3]
  have h2 : Y * d * v = Y * (1 + m * k0) := by rw [← e0]; grind
  grind
/-- The chord's end, by two congruences. -/
theorem chord_eq {m : Nat} {p q r : PtD} {up d v : Nat} (hm : 1 < m) (hp : p.lt m) (hq : q.lt m) (hr : r.lt m) (hv : isInv m d v) (hf : r.far = false)
    (h1 : cong m (((p.x : Int) + q.x + r.x) * (d * d)) (up * up)) (h2 : cong m (((r.y : Int) + p.y) * d) (up * (p.x - r.x))) : chordP m p q (mulM m up v) = r := by
  have lv := hv.1
  obtain ⟨k0, e0⟩ := cong_inv hv hm
  obtain ⟨k2, e2⟩ := h1
  obtain ⟨k3, e3⟩ := h2
  obtain ⟨k1, e1⟩ := cong_mul (m := m) up v
  obtain ⟨hp1, hp2⟩ := hp
  obtain ⟨hq1, hq2⟩ := hq
  obtain ⟨hr1, hr2⟩ := hr
  refine gen_ex (mulM m up v) fun s hs => ?_
  rw [← hs] at e1 ⊢
  have ls : s < m := by rw [hs]; exact mulM_lt (by omega)
  clear hs
  obtain ⟨k4, e4⟩ := cong_mul (m := m) s s
  obtain ⟨k5, e5⟩ := cong_sub (m := m) (a := mulM m s s) (b := p.x) (by omega)
  obtain ⟨k6, e6⟩ := cong_sub (m := m) (a := subM m (mulM m s s) p.x) (b := q.x) (by omega)
  have hx : subM m (subM m (mulM m s s) p.x) q.x = r.x := by
    refine cong_lt ?_ (subM_lt (by omega)) hr1
    rw [e6, e5, e4, alg_x e0 e1 e2]
    refine ⟨k4 + k5 + k6 + (((p.x : Int) + q.x + r.x) * (2 * k0 + m * k0 * k0) - k2 * v * v + (2 * up * v * k1 + m * k1 * k1)), ?_⟩
    simp only [Int.mul_add]
    omega
  obtain ⟨k7, e7⟩ := cong_sub (m := m) (a := p.x) (b := r.x) (by omega)
  obtain ⟨k8, e8⟩ := cong_mul (m := m) s (subM m p.x r.x)
  obtain ⟨k9, e9⟩ := cong_sub (m := m) (a := mulM m s (subM m p.x r.x)) (b := p.y) (by omega)
  have hy : subM m (mulM m s (subM m p.x r.x)) p.y = r.y := by
    refine cong_lt ?_ (subM_lt (by omega)) hr2
    rw [e9, e8, e7, Int.mul_add, alg_y e0 e1 e3]
    refine ⟨k9 + k8 + s * k7 + (k1 * ((p.x : Int) - r.x) - (k3 * v - ((r.y : Int) + p.y) * k0)), ?_⟩
    rw [Int.mul_left_comm (s : Int) (m : Int) k7]
    simp only [Int.mul_add]
    omega
  unfold chordP
  rw [hx, hy]
  cases r
  simp only at hf
  subst hf
  rfl
end Go.Proofs.YtidkdlaihmpjfaaDoor
