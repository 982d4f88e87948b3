/- The small curves' moduli are prime: by Fermat's sign, reckoned through. -/
import Derived.Test.YtidkdlaihmpjfaaDoorBUa
namespace Go.Proofs.YtidkdlaihmpjfaaDoor
set_option linter.unusedVariables false
set_option linter.unusedSimpArgs false
set_option linter.unusedSectionVars false
open Go.ChangeShapes Go.WideShapes Go.ChangeAt Go.RowKit Go.Joins
set_option maxRecDepth 10000
def fermatOk (p : Nat) : Bool := (List.range (p - 1)).all fun a => Nat.beq ((a + 1) ^ (p - 1) % p) 1
theorem crv_cases {Q : Nat → Prop} {k : Nat} (h : k < 8) (h0 : Q 0) (h1 : Q 1) (h2 : Q 2) (h3 : Q 3) (h4 : Q 4) (h5 : Q 5) (h6 : Q 6) (h7 : Q 7) : Q k := by
  have hk : k = 0 ∨ k = 1 ∨ k = 2 ∨ k = 3 ∨ k = 4 ∨ k = 5 ∨ k = 6 ∨ k = 7 := by omega
  rcases hk with rfl | rfl | rfl | rfl | rfl | rfl | rfl | rfl <;> assumption
theorem crv_fermat {k : Nat} (h : k < 8) : fermatOk (crv k).P = true :=
  crv_cases (Q := fun k => fermatOk (crv k).P = true) h (by kernel_rfl) (by kernel_rfl) (by kernel_rfl) (by kernel_rfl) (by kernel_rfl) (by kernel_rfl) (by kernel_rfl) (by kernel_rfl)
theorem crv_fermatN {k : Nat} (h : k < 8) : fermatOk (crv k).N = true :=
  crv_cases (Q := fun k => fermatOk (crv k).N = true) h (by kernel_rfl) (by kernel_rfl) (by kernel_rfl) (by kernel_rfl) (by kernel_rfl) (by kernel_rfl) (by kernel_rfl) (by kernel_rfl)
theorem crv_bounds {k : Nat} (h : k < 8) : 43 ≤ (crv k).P ∧ (crv k).P < 1000 ∧ 31 ≤ (crv k).N ∧ (crv k).N < 1000 ∧ (crv k).A = 0 ∧ (crv k).B < 43 ∧ (crv k).X < 43 ∧ (crv k).Y < 60 :=
  crv_cases (Q := fun k => 43 ≤ (crv k).P ∧ (crv k).P < 1000 ∧ 31 ≤ (crv k).N ∧ (crv k).N < 1000 ∧ (crv k).A = 0 ∧ (crv k).B < 43 ∧ (crv k).X < 43 ∧ (crv k).Y < 60) h (by decide) (by decide) (by decide) (by decide) (by decide) (by decide) (by decide) (by decide)
theorem fermat_at {p a : Nat} (h : fermatOk p = true) (h0 : 0 < a) (h1 : a < p) : a ^ (p - 1) % p = 1 := by
  unfold fermatOk at h
  rw [List.all_eq_true] at h
  have := Nat.eq_of_beq_eq_true (h (a - 1) (List.mem_range.2 (by omega)))
  rwa [show a - 1 + 1 = a by omega] at this
theorem fermat_inv {p a : Nat} (h : fermatOk p = true) (hp : 2 ≤ p) (h0 : 0 < a) (h1 : a < p) : isInv p a (a ^ (p - 2) % p) := by
  have h2 := fermat_at h h0 h1
  refine ⟨Nat.mod_lt _ (by omega), ?_⟩
  rw [Nat.mod_eq_of_lt (show 1 < p by omega), Nat.mod_mul_mod, ← Nat.pow_succ, show (p - 2).succ = p - 1 by omega]
  exact h2
theorem coprime_of_inv {m a u : Nat} (hm : 1 < m) (h : isInv m a u) : Nat.gcd a m = 1 := by
  have hd : Nat.gcd a m ∣ 1 % m := by
    rw [← h.2]
    refine (Nat.dvd_mod_iff (Nat.gcd_dvd_right _ _)).2 ?_
    exact Nat.dvd_trans (Nat.gcd_dvd_left _ _) (Nat.dvd_mul_left _ _)
  rw [Nat.mod_eq_of_lt hm] at hd
  exact Nat.dvd_one.1 hd
end Go.Proofs.YtidkdlaihmpjfaaDoor
namespace Go.Proofs.YtidkdlaihmpjfaaDoor
set_option linter.unusedVariables false
set_option linter.unusedSimpArgs false
set_option linter.unusedSectionVars false
open Go.ChangeShapes Go.WideShapes Go.ChangeAt Go.RowKit Go.Joins
set_option maxRecDepth 10000
/-- A point. -/
structure PtD where
  x : Nat
  y : Nat
  far : Bool
noncomputable def PtD.cells (p : PtD) : List VV := uC p.x ++ (uC p.y ++ [bI p.far])
noncomputable def PtD.v (p : PtD) : VV := .agg p.cells
def farP : PtD := ⟨0, 0, true⟩
def nilP : PtD := ⟨0, 0, false⟩
def PtD.lt (p : PtD) (m : Nat) : Prop := p.x < m ∧ p.y < m
/-- By a chord or a tangent of the slope up / down. -/
noncomputable def chordP (m : Nat) (p q : PtD) (s : Nat) : PtD :=
  ⟨subM m (subM m (mulM m s s) p.x) q.x, subM m (mulM m s (subM m p.x (subM m (subM m (mulM m s s) p.x) q.x))) p.y, false⟩
open Classical in
/-- The sum of two points; whether there is one. -/
noncomputable def padd (c : CvD) (p q : PtD) : PtD × Bool :=
  if p.far = true then (q, true) else if q.far = true then (p, true) else
  if p.x = q.x then
    if addM c.P p.y q.y = 0 then (farP, true) else if p.y = q.y then
      (if Nat.gcd (addM c.P p.y p.y) c.P = 1 then (chordP c.P p q (mulM c.P (addM c.P (mulM c.P (modN 3 c.P) (mulM c.P p.x p.x)) c.A) (invM c.P (addM c.P p.y p.y))), true) else (nilP, false))
    else (nilP, false)
  else
    (if Nat.gcd (subM c.P q.x p.x) c.P = 1 then (chordP c.P p q (mulM c.P (subM c.P q.y p.y) (invM c.P (subM c.P q.x p.x))), true) else (nilP, false))
/-- x is congruent to y by m. -/
def cong (m : Nat) (x y : Int) : Prop := ∃ k : Int, x = y + m * k
theorem cong_lt {m x y : Nat} (h : cong m x y) (hx : x < m) (hy : y < m) : x = y := by
  obtain ⟨k, hk⟩ := h
  have h1 := Int.add_mul_emod_self_left (y : Int) (m : Int) k
  rw [← hk, Int.emod_eq_of_lt (by omega) (by omega), Int.emod_eq_of_lt (by omega) (by omega)] at h1
  omega
theorem cong_mod {m : Nat} {x y : Nat} (h : x % m = y % m) : cong m x y := by
  have h1 := Nat.div_add_mod x m
  have h2 := Nat.div_add_mod y m
  refine ⟨(x / m : Nat) - (y / m : Nat), ?_⟩
  have h3 : ((m * (x / m) + x % m : Nat) : Int) = (x : Int) := by rw [h1]
  have h4 : ((m * (y / m) + y % m : Nat) : Int) = (y : Int) := by rw [h2]
  rw [h] at h3
  push_cast at h3 h4 ⊢
  rw [Int.mul_sub]
  omega
theorem cong_add {m : Nat} (a b : Nat) : cong m (addM m a b : Nat) ((a : Int) + b) := by
  have := cong_mod (m := m) (x := addM m a b) (y := a + b) (by rw [addM_def, Nat.mod_mod])
  push_cast at this
  exact this
theorem cong_mul {m : Nat} (a b : Nat) : cong m (mulM m a b : Nat) ((a : Int) * b) := by
  have := cong_mod (m := m) (x := mulM m a b) (y := a * b) (by rw [mulM_def, Nat.mod_mod])
  push_cast at this
  exact this
theorem cong_sub {m a b : Nat} (hb : b ≤ m) : cong m (subM m a b : Nat) ((a : Int) - b) := by
  have h := cong_mod (m := m) (x := subM m a b) (y := a + (m - b)) (by rw [subM_def, Nat.mod_mod])
  obtain ⟨k, hk⟩ := h
  refine ⟨k + 1, ?_⟩
  rw [hk, Int.mul_add, Int.mul_one]
  omega
theorem cong_inv {m a u : Nat} (h : isInv m a u) (hm : 1 < m) : cong m ((u : Int) * a) 1 := by
  have := cong_mod (m := m) (x := u * a) (y := 1) h.2
  push_cast at this
  exact this
theorem alg_x {m S up d v s k0 k1 k2 : Int} (e0 : v * d = 1 + m * k0) (e1 : s = up * v + m * k1) (e2 : S * (d * d) = up * up + m * k2) :
    s * s = S + m * (S * (2 * k0 + m * k0 * k0) - k2 * v * v + (2 * up * v * k1 + m * k1 * k1)) := by
  subst e1
  have h : S * (d * d) * (v * v) = (up * up + m * k2) * (v * v) := by rw [e2]
  have h2 : S * (d * d) * (v * v) = S * ((1 + m * k0) * (1 + m * k0)) := by rw [← e0]; grind
  grind
theorem alg_y {m Y X up d v s k0 k1 k3 : Int} (e0 : v * d = 1 + m * k0) (e1 : s = up * v + m * k1) (e3 : Y * d = up * X + m * k3) :
    s * X = Y + m * (k1 * X - (k3 * v - Y * k0)) := by
  subst e1
  have h : Y * d * v = (up * X + m * k3) * v := by rw [e3]
  have h2 : Y * d * v = Y * (1 + m * k0) := by rw [← e0]; grind
  grind
/-- The chord's end, by two congruences. -/
theorem chord_eq {m : Nat} {p q r : PtD} {up d v : Nat} (hm : 1 < m) (hp : p.lt m) (hq : q.lt m) (hr : r.lt m) (hv : isInv m d v) (hf : r.far = false)
    (h1 : cong m (((p.x : Int) + q.x + r.x) * (d * d)) (up * up)) (h2 : cong m (((r.y : Int) + p.y) * d) (up * (p.x - r.x))) : chordP m p q (mulM m up v) = r := by
  have lv := hv.1
  obtain ⟨k0, e0⟩ := cong_inv hv hm
  obtain ⟨k2, e2⟩ := h1
  obtain ⟨k3, e3⟩ := h2
  obtain ⟨k1, e1⟩ := cong_mul (m := m) up v
  obtain ⟨hp1, hp2⟩ := hp
  obtain ⟨hq1, hq2⟩ := hq
  obtain ⟨hr1, hr2⟩ := hr
  refine gen_ex (mulM m up v) fun s hs => ?_
  rw [← hs] at e1 ⊢
  have ls : s < m := by rw [hs]; exact mulM_lt (by omega)
  clear hs
  obtain ⟨k4, e4⟩ := cong_mul (m := m) s s
  obtain ⟨k5, e5⟩ := cong_sub (m := m) (a := mulM m s s) (b := p.x) (by omega)
  obtain ⟨k6, e6⟩ := cong_sub (m := m) (a := subM m (mulM m s s) p.x) (b := q.x) (by omega)
  have hx : subM m (subM m (mulM m s s) p.x) q.x = r.x := by
    refine cong_lt ?_ (subM_lt (by omega)) hr1
    rw [e6, e5, e4, alg_x e0 e1 e2]
    refine ⟨k4 + k5 + k6 + (((p.x : Int) + q.x + r.x) * (2 * k0 + m * k0 * k0) - k2 * v * v + (2 * up * v * k1 + m * k1 * k1)), ?_⟩
    simp only [Int.mul_add]
    omega
  obtain ⟨k7, e7⟩ := cong_sub (m := m) (a := p.x) (b := r.x) (by omega)
  obtain ⟨k8, e8⟩ := cong_mul (m := m) s (subM m p.x r.x)
  obtain ⟨k9, e9⟩ := cong_sub (m := m) (a := mulM m s (subM m p.x r.x)) (b := p.y) (by omega)
  have hy : subM m (mulM m s (subM m p.x r.x)) p.y = r.y := by
    refine cong_lt ?_ (subM_lt (by omega)) hr2
    rw [e9, e8, e7, Int.mul_add, alg_y e0 e1 e3]
    refine ⟨k9 + k8 + s * k7 + (k1 * ((p.x : Int) - r.x) - (k3 * v - ((r.y : Int) + p.y) * k0)), ?_⟩
    rw [Int.mul_left_comm (s : Int) (m : Int) k7]
    simp only [Int.mul_add]
    omega
  unfold chordP
  rw [hx, hy]
  cases r
  simp only at hf
  subst hf
  rfl
end Go.Proofs.YtidkdlaihmpjfaaDoor
namespace Go.Proofs.YtidkdlaihmpjfaaDoor
set_option linter.unusedVariables false
set_option linter.unusedSimpArgs false
set_option linter.unusedSectionVars false
open Go.ChangeShapes Go.WideShapes Go.ChangeAt Go.RowKit Go.Joins
set_option maxRecDepth 10000
theorem fault2_fn {a b m : Nat} (ha : a < m) (hb : b < m) (hm : m < T256) : FnV Tryd.prog G0 85 [uV m, .ds false 2 (uC a ++ uC b)] (nI .i64 0) := by
  have c1 := cmp_fn (a := a) (b := m) (by omega) hm
  have c2 := cmp_fn (a := b) (b := m) (by omega) hm
  rw [cmpN_lt ha] at c1
  rw [cmpN_lt hb] at c2
  refine fn_of_vwp Γok Tryd.func85 (by kernel_rfl) rfl (by simp [Tryd.ntmps85]) (wpv_ok Γok (by kernel_rfl) _ _ _ ?_); conv => whnf
  refine ⟨_, eq_zero hm, ?_⟩
  rw [decide_eq_false (by omega)]
  conv => whnf
  try (refine ⟨by kernel_rfl, ?_⟩; conv => whnf)
  refine vloop_unroll ?_
  refine wpv_ok Γok (by kernel_rfl) _ _ _ ?_; conv => whnf
  conv => whnf
  try (refine ⟨by kernel_rfl, ?_⟩; conv => whnf)
  refine ⟨_, ret_of_fn G0ok (c1) (by first | rfl | simp only [noHs, noH, nI, bI, Bool.and_self, Bool.and_true, Bool.true_and, ]) (by first | rfl | simp only [noHs, noH, nI, bI, Bool.and_self, Bool.and_true, Bool.true_and, ]), ?_⟩; (conv => whnf); (try (refine ⟨by kernel_rfl, ?_⟩; conv => whnf))
  rw [ws_i64 (by decide) (by decide)]
  conv => whnf
  try (refine ⟨by kernel_rfl, ?_⟩; conv => whnf)
  refine vloop_unroll ?_
  refine wpv_ok Γok (by kernel_rfl) _ _ _ ?_; conv => whnf
  conv => whnf
  try (refine ⟨by kernel_rfl, ?_⟩; conv => whnf)
  refine ⟨_, ret_of_fn G0ok (c2) (by first | rfl | simp only [noHs, noH, nI, bI, Bool.and_self, Bool.and_true, Bool.true_and, ]) (by first | rfl | simp only [noHs, noH, nI, bI, Bool.and_self, Bool.and_true, Bool.true_and, ]), ?_⟩; (conv => whnf); (try (refine ⟨by kernel_rfl, ?_⟩; conv => whnf))
  rw [ws_i64 (by decide) (by decide)]
  conv => whnf
  try (refine ⟨by kernel_rfl, ?_⟩; conv => whnf)
  refine vloop_unroll ?_
  refine wpv_ok Γok (by kernel_rfl) _ _ _ ?_; conv => whnf
  conv => whnf
  try (refine ⟨by kernel_rfl, ?_⟩; conv => whnf)
  exact ⟨_, rfl, rfl⟩
theorem add_by {a b m : Nat} (ha : a < m) (hb : b < m) (hm : m < T256) : FnV Tryd.prog G0 78 [uV a, uV b, uV m] (.tup [uV (addM m a b), nI .i64 0]) := by
  have hby : FnV Tryd.prog G0 88 [.fn (.func 92) [], uV a, uV b, uV m] (.tup [uV (addM m a b), nI .i64 0]) := by
    refine fn_of_vwp Γok Tryd.func88 (by kernel_rfl) rfl (by simp [Tryd.ntmps88]) (wpv_ok Γok (by kernel_rfl) _ _ _ ?_); conv => whnf
    refine .read 2 (uC a ++ uC b) rfl rfl ?_ ?_ ?_
    · rfl
    · rfl
    conv => whnf
    try (refine ⟨by kernel_rfl, ?_⟩; conv => whnf)
    refine ⟨_, ret_of_fn G0ok (fault2_fn ha hb hm) (by first | rfl | simp only [noHs, noH, nI, bI, Bool.and_self, Bool.and_true, Bool.true_and, ]) (by first | rfl | simp only [noHs, noH, nI, bI, Bool.and_self, Bool.and_true, Bool.true_and, ]), ?_⟩; (conv => whnf); (try (refine ⟨by kernel_rfl, ?_⟩; conv => whnf))
    refine ⟨_, ret_of_fn G0ok (fadd_fn ha hb hm) (by first | rfl | simp only [noHs, noH, nI, bI, Bool.and_self, Bool.and_true, Bool.true_and, ]) (by first | rfl | simp only [noHs, noH, nI, bI, Bool.and_self, Bool.and_true, Bool.true_and, ]), ?_⟩; (conv => whnf); (try (refine ⟨by kernel_rfl, ?_⟩; conv => whnf))
    exact ⟨_, rfl, rfl⟩
  refine fn_of_vwp Γok Tryd.func78 (by kernel_rfl) rfl (by simp [Tryd.ntmps78]) (wpv_ok Γok (by kernel_rfl) _ _ _ ?_); conv => whnf
  refine ⟨_, ret_of_fn G0ok (hby) (by first | rfl | simp only [noHs, noH, nI, bI, Bool.and_self, Bool.and_true, Bool.true_and, ]) (by first | rfl | simp only [noHs, noH, nI, bI, Bool.and_self, Bool.and_true, Bool.true_and, ]), ?_⟩; (conv => whnf); (try (refine ⟨by kernel_rfl, ?_⟩; conv => whnf))
  exact ⟨_, rfl, rfl⟩
theorem sub_by {a b m : Nat} (ha : a < m) (hb : b < m) (hm : m < T256) : FnV Tryd.prog G0 64 [uV a, uV b, uV m] (.tup [uV (subM m a b), nI .i64 0]) := by
  have hby : FnV Tryd.prog G0 88 [.fn (.func 86) [], uV a, uV b, uV m] (.tup [uV (subM m a b), nI .i64 0]) := by
    refine fn_of_vwp Γok Tryd.func88 (by kernel_rfl) rfl (by simp [Tryd.ntmps88]) (wpv_ok Γok (by kernel_rfl) _ _ _ ?_); conv => whnf
    refine .read 2 (uC a ++ uC b) rfl rfl ?_ ?_ ?_
    · rfl
    · rfl
    conv => whnf
    try (refine ⟨by kernel_rfl, ?_⟩; conv => whnf)
    refine ⟨_, ret_of_fn G0ok (fault2_fn ha hb hm) (by first | rfl | simp only [noHs, noH, nI, bI, Bool.and_self, Bool.and_true, Bool.true_and, ]) (by first | rfl | simp only [noHs, noH, nI, bI, Bool.and_self, Bool.and_true, Bool.true_and, ]), ?_⟩; (conv => whnf); (try (refine ⟨by kernel_rfl, ?_⟩; conv => whnf))
    refine ⟨_, ret_of_fn G0ok (fsub_fn ha hb hm) (by first | rfl | simp only [noHs, noH, nI, bI, Bool.and_self, Bool.and_true, Bool.true_and, ]) (by first | rfl | simp only [noHs, noH, nI, bI, Bool.and_self, Bool.and_true, Bool.true_and, ]), ?_⟩; (conv => whnf); (try (refine ⟨by kernel_rfl, ?_⟩; conv => whnf))
    exact ⟨_, rfl, rfl⟩
  refine fn_of_vwp Γok Tryd.func64 (by kernel_rfl) rfl (by simp [Tryd.ntmps64]) (wpv_ok Γok (by kernel_rfl) _ _ _ ?_); conv => whnf
  refine ⟨_, ret_of_fn G0ok (hby) (by first | rfl | simp only [noHs, noH, nI, bI, Bool.and_self, Bool.and_true, Bool.true_and, ]) (by first | rfl | simp only [noHs, noH, nI, bI, Bool.and_self, Bool.and_true, Bool.true_and, ]), ?_⟩; (conv => whnf); (try (refine ⟨by kernel_rfl, ?_⟩; conv => whnf))
  exact ⟨_, rfl, rfl⟩
theorem mul_by {a b m : Nat} (ha : a < m) (hb : b < m) (hm : m < T256) : FnV Tryd.prog G0 63 [uV a, uV b, uV m] (.tup [uV (mulM m a b), nI .i64 0]) := by
  have hby : FnV Tryd.prog G0 88 [.fn (.func 87) [], uV a, uV b, uV m] (.tup [uV (mulM m a b), nI .i64 0]) := by
    refine fn_of_vwp Γok Tryd.func88 (by kernel_rfl) rfl (by simp [Tryd.ntmps88]) (wpv_ok Γok (by kernel_rfl) _ _ _ ?_); conv => whnf
    refine .read 2 (uC a ++ uC b) rfl rfl ?_ ?_ ?_
    · rfl
    · rfl
    conv => whnf
    try (refine ⟨by kernel_rfl, ?_⟩; conv => whnf)
    refine ⟨_, ret_of_fn G0ok (fault2_fn ha hb hm) (by first | rfl | simp only [noHs, noH, nI, bI, Bool.and_self, Bool.and_true, Bool.true_and, ]) (by first | rfl | simp only [noHs, noH, nI, bI, Bool.and_self, Bool.and_true, Bool.true_and, ]), ?_⟩; (conv => whnf); (try (refine ⟨by kernel_rfl, ?_⟩; conv => whnf))
    refine ⟨_, ret_of_fn G0ok (fmul_fn ha (by omega) hm) (by first | rfl | simp only [noHs, noH, nI, bI, Bool.and_self, Bool.and_true, Bool.true_and, ]) (by first | rfl | simp only [noHs, noH, nI, bI, Bool.and_self, Bool.and_true, Bool.true_and, ]), ?_⟩; (conv => whnf); (try (refine ⟨by kernel_rfl, ?_⟩; conv => whnf))
    exact ⟨_, rfl, rfl⟩
  refine fn_of_vwp Γok Tryd.func63 (by kernel_rfl) rfl (by simp [Tryd.ntmps63]) (wpv_ok Γok (by kernel_rfl) _ _ _ ?_); conv => whnf
  refine ⟨_, ret_of_fn G0ok (hby) (by first | rfl | simp only [noHs, noH, nI, bI, Bool.and_self, Bool.and_true, Bool.true_and, ]) (by first | rfl | simp only [noHs, noH, nI, bI, Bool.and_self, Bool.and_true, Bool.true_and, ]), ?_⟩; (conv => whnf); (try (refine ⟨by kernel_rfl, ?_⟩; conv => whnf))
  exact ⟨_, rfl, rfl⟩
end Go.Proofs.YtidkdlaihmpjfaaDoor
namespace Go.Proofs.YtidkdlaihmpjfaaDoor
set_option linter.unusedVariables false
set_option linter.unusedSimpArgs false
set_option linter.unusedSectionVars false
open Go.ChangeShapes Go.WideShapes Go.ChangeAt Go.RowKit Go.Joins
set_option maxRecDepth 10000
theorem powM_ex : ∃ f : Nat → Nat → Nat → Nat, ∀ m a e, f m a e = a ^ e % m := ⟨_, fun _ _ _ => rfl⟩
noncomputable def powM : Nat → Nat → Nat → Nat := Classical.choose powM_ex
theorem powM_def (m a e : Nat) : powM m a e = a ^ e % m := Classical.choose_spec powM_ex m a e
theorem powM_lt {m a e : Nat} (h : 0 < m) : powM m a e < m := by rw [powM_def]; exact Nat.mod_lt _ h
theorem powM_step (m a v t : Nat) (ht : t ≤ 1) : (if decide (t = 1) then mulM m (mulM m (powM m a v) (powM m a v)) a else mulM m (powM m a v) (powM m a v)) = powM m a (2 * v + t) := by
  have h2 : mulM m (powM m a v) (powM m a v) = a ^ (2 * v) % m := by
    rw [mulM_def, powM_def, ← Nat.mul_mod, ← Nat.pow_add, Nat.two_mul]
  rw [h2]
  by_cases h : t = 1
  · rw [decide_eq_true h, if_pos rfl, mulM_def, powM_def, h, Nat.pow_succ, Nat.mul_mod, Nat.mod_mod, ← Nat.mul_mod]
  · have h0 : t = 0 := by omega
    rw [decide_eq_false h, if_neg (by decide), powM_def, h0, Nat.add_zero]
theorem pow1_fnH {a m x : Nat} (ha : a < m) (hx : x < m) (hm : m < T256) (one : Bool) : FnH Tryd.prog G0 94 [bI one, .ptr 0 0, .ptr 1 0, .ptr 2 0] [(0, some (uC x)), (1, some (uC m)), (2, some (uC a))] 3 (.tup [])
    [(0, some (uC (if one then mulM m (mulM m x x) a else mulM m x x))), (1, some (uC m)), (2, some (uC a))] 0 := by
  refine fnH_of_vwp Γok G0ok Tryd.func94 (by kernel_rfl) rfl (by simp [Tryd.ntmps94]) (wpv_ok Γok (by kernel_rfl) _ _ _ ?_); conv => whnf
  refine ⟨_, ret_of_fn G0ok (fmul_fn hx (b := x) (by omega) hm) (by first | rfl | simp only [noHs, noH, nI, bI, Bool.and_self, Bool.and_true, Bool.true_and, ]) (by first | rfl | simp only [noHs, noH, nI, bI, Bool.and_self, Bool.and_true, Bool.true_and, ]), ?_⟩; (conv => whnf); (try (refine ⟨by kernel_rfl, ?_⟩; conv => whnf))
  cases one
  · conv => whnf
    try (refine ⟨by kernel_rfl, ?_⟩; conv => whnf)
    exact ⟨_, rfl, [(0, some 0), (1, some 1), (2, some 2)], rfl, rfl, .same rfl, ⟨.inr ⟨_, _, rfl, rfl, convs_eq rfl (words_noHs _)⟩, .inr ⟨_, _, rfl, rfl, convs_eq rfl (words_noHs _)⟩, .inr ⟨_, _, rfl, rfl, convs_eq rfl (words_noHs _)⟩, trivial⟩⟩
  · conv => whnf
    try (refine ⟨by kernel_rfl, ?_⟩; conv => whnf)
    refine ⟨_, ret_of_fn G0ok (fmul_fn (mulM_lt (by omega)) (b := a) (by omega) hm) (by first | rfl | simp only [noHs, noH, nI, bI, Bool.and_self, Bool.and_true, Bool.true_and, ]) (by first | rfl | simp only [noHs, noH, nI, bI, Bool.and_self, Bool.and_true, Bool.true_and, ]), ?_⟩; (conv => whnf); (try (refine ⟨by kernel_rfl, ?_⟩; conv => whnf))
    exact ⟨_, rfl, [(0, some 0), (1, some 1), (2, some 2)], rfl, rfl, .same rfl, ⟨.inr ⟨_, _, rfl, rfl, convs_eq rfl (words_noHs _)⟩, .inr ⟨_, _, rfl, rfl, convs_eq rfl (words_noHs _)⟩, .inr ⟨_, _, rfl, rfl, convs_eq rfl (words_noHs _)⟩, trivial⟩⟩
theorem fault1_fn {a m : Nat} (ha : a < m) (hm : m < T256) : FnV Tryd.prog G0 85 [uV m, .ds false 1 (uC a)] (nI .i64 0) := by
  have c1 := cmp_fn (a := a) (b := m) (by omega) hm
  rw [cmpN_lt ha] at c1
  refine fn_of_vwp Γok Tryd.func85 (by kernel_rfl) rfl (by simp [Tryd.ntmps85]) (wpv_ok Γok (by kernel_rfl) _ _ _ ?_); conv => whnf
  refine ⟨_, eq_zero hm, ?_⟩
  rw [decide_eq_false (by omega)]
  conv => whnf
  try (refine ⟨by kernel_rfl, ?_⟩; conv => whnf)
  refine vloop_unroll ?_
  refine wpv_ok Γok (by kernel_rfl) _ _ _ ?_; conv => whnf
  conv => whnf
  try (refine ⟨by kernel_rfl, ?_⟩; conv => whnf)
  refine ⟨_, ret_of_fn G0ok (c1) (by first | rfl | simp only [noHs, noH, nI, bI, Bool.and_self, Bool.and_true, Bool.true_and, ]) (by first | rfl | simp only [noHs, noH, nI, bI, Bool.and_self, Bool.and_true, Bool.true_and, ]), ?_⟩; (conv => whnf); (try (refine ⟨by kernel_rfl, ?_⟩; conv => whnf))
  rw [ws_i64 (by decide) (by decide)]
  conv => whnf
  try (refine ⟨by kernel_rfl, ?_⟩; conv => whnf)
  refine vloop_unroll ?_
  refine wpv_ok Γok (by kernel_rfl) _ _ _ ?_; conv => whnf
  conv => whnf
  try (refine ⟨by kernel_rfl, ?_⟩; conv => whnf)
  exact ⟨_, rfl, rfl⟩
theorem pow_fn {a b m : Nat} (ha : a < m) (hb : b < T256) (hm : m < T256) : FnV Tryd.prog G0 83 [uV a, uV b, uV m] (.tup [uV (powM m a b), nI .i64 0]) := by
  have hbits := bits_fnH (g := 94) (f := powM m a) (m := m) (a := a) hb (fun v t ht _ => by
    have := pow1_fnH ha (powM_lt (m := m) (a := a) (e := v) (by omega)) hm (decide (t = 1))
    rw [powM_step m a v t ht] at this
    exact this)
  have d := div_pos (a := 1) (by decide) hm (show 0 < m by omega)
  rw [show modN 1 m = powM m a 0 from by rw [modN_def, powM_def, Nat.pow_zero], show uV 1 = .agg (words [1, 0, 0, 0]) from congrArg VV.agg (uC_lit (n := 1) (by decide))] at d
  unfold H3 at hbits
  refine fn_of_vwp Γok Tryd.func83 (by kernel_rfl) rfl (by simp [Tryd.ntmps83]) (wpv_ok Γok (by kernel_rfl) _ _ _ ?_); conv => whnf
  refine .read 1 (uC a) rfl rfl (by rfl) (by rfl) ?_
  conv => whnf
  try (refine ⟨by kernel_rfl, ?_⟩; conv => whnf)
  refine ⟨_, ret_of_fn G0ok (fault1_fn ha hm) (by first | rfl | simp only [noHs, noH, nI, bI, Bool.and_self, Bool.and_true, Bool.true_and, ]) (by first | rfl | simp only [noHs, noH, nI, bI, Bool.and_self, Bool.and_true, Bool.true_and, ]), ?_⟩; (conv => whnf); (try (refine ⟨by kernel_rfl, ?_⟩; conv => whnf))
  refine ⟨_, ret_of_fn G0ok (d) (by first | rfl | simp only [noHs, noH, nI, bI, Bool.and_self, Bool.and_true, Bool.true_and, ]) (by first | rfl | simp only [noHs, noH, nI, bI, Bool.and_self, Bool.and_true, Bool.true_and, ]), ?_⟩; (conv => whnf); (try (refine ⟨by kernel_rfl, ?_⟩; conv => whnf))
  refine ⟨_, ret_fnH G0ok hbits [6, 2, 0] rfl rfl rfl rfl rfl ⟨⟨⟨trivial, _, rfl, rfl, rfl⟩, _, rfl, rfl, rfl⟩, _, rfl, rfl, rfl⟩ (outH3 _ _ _) rfl rfl (upd := [(6, some (uC (powM m a b))), (2, some (uC m)), (0, some (uC a))]) (by rfl), ?_⟩
  conv => whnf
  try (refine ⟨by kernel_rfl, ?_⟩; conv => whnf)
  exact ⟨_, rfl, rfl⟩
end Go.Proofs.YtidkdlaihmpjfaaDoor
namespace Go.Proofs.YtidkdlaihmpjfaaDoor
set_option linter.unusedVariables false
set_option linter.unusedSimpArgs false
set_option linter.unusedSectionVars false
open Go.ChangeShapes Go.WideShapes Go.ChangeAt Go.RowKit Go.Joins
set_option maxRecDepth 10000
structure EuS where
  r : Nat
  s : Nat
  u : Nat
  t : Nat
noncomputable def invR (a m : Nat) : Nat := if Nat.gcd a m = 1 then invM m a else 0
noncomputable def invE (a m : Nat) : Int := if Nat.gcd a m = 1 then 0 else 5
theorem inv_all {a m : Nat} (ha : a < m) (hm : m < T256) : FnV Tryd.prog G0 62 [uV a, uV m] (.tup [uV (invR a m), nI .i64 (invE a m)]) := by
  have d := div_pos (a := 1) (by decide) hm (show 0 < m by omega)
  rw [show uV 1 = .agg (words [1, 0, 0, 0]) from congrArg VV.agg (uC_lit (n := 1) (by decide))] at d
  have hz := euclid_zero ha
  rw [← modN_def] at hz
  refine fn_of_vwp Γok Tryd.func62 (by kernel_rfl) rfl (by simp [Tryd.ntmps62]) (wpv_ok Γok (by kernel_rfl) _ _ _ ?_); conv => whnf
  refine .read 1 (uC a) rfl rfl (by rfl) (by rfl) ?_
  conv => whnf
  try (refine ⟨by kernel_rfl, ?_⟩; conv => whnf)
  refine ⟨_, ret_of_fn G0ok (fault1_fn ha hm) (by first | rfl | simp only [noHs, noH, nI, bI, Bool.and_self, Bool.and_true, Bool.true_and, ]) (by first | rfl | simp only [noHs, noH, nI, bI, Bool.and_self, Bool.and_true, Bool.true_and, ]), ?_⟩; (conv => whnf); (try (refine ⟨by kernel_rfl, ?_⟩; conv => whnf))
  refine ⟨_, ret_of_fn G0ok (d) (by first | rfl | simp only [noHs, noH, nI, bI, Bool.and_self, Bool.and_true, Bool.true_and, ]) (by first | rfl | simp only [noHs, noH, nI, bI, Bool.and_self, Bool.and_true, Bool.true_and, ]), ?_⟩; (conv => whnf); (try (refine ⟨by kernel_rfl, ?_⟩; conv => whnf))
  refine vloop_invK G0ok [(0, some 1), (1, some 5), (2, some 6), (3, some 7), (4, some 8), (5, some 2)] 6 (X := EuS)
    (fun x => [(12, .ptr 4 0), (11, .ptr 3 0), (10, .ptr 2 0), (8, .ptr 1 0), (4, .ptr 5 0), (3, .ptr 0 0)])
    (fun x => [(0, some (uC m)), (1, some (uC x.t)), (2, some (uC x.r)), (3, some (uC x.s)), (4, some (uC x.u)), (5, some (words [0, 0, 0, 0]))])
    (fun x => euclid m a x.r x.s x.u x.t) (fun x => x.s) ⟨m, a, 0, modN 1 m⟩ rfl ⟨⟨_, rfl, .ptr rfl⟩, ⟨_, rfl, .ptr rfl⟩, ⟨_, rfl, .ptr rfl⟩, ⟨_, rfl, .ptr rfl⟩, ⟨_, rfl, .ptr rfl⟩, ⟨_, rfl, .ptr rfl⟩, trivial⟩ ⟨.inr ⟨_, _, rfl, rfl, convs_eq rfl (words_noHs _)⟩, .inr ⟨_, _, rfl, rfl, convs_eq rfl (words_noHs _)⟩, .inr ⟨_, _, rfl, rfl, convs_eq rfl (words_noHs _)⟩, .inr ⟨_, _, rfl, rfl, convs_eq rfl (words_noHs _)⟩, .inr ⟨_, _, rfl, rfl, convs_eq ((uC_lit (n := 0) (by decide)).symm) (words_noHs _)⟩, .inr ⟨_, _, rfl, rfl, convs_eq rfl (rfl)⟩, trivial⟩ hz ?_
  intro ⟨r, s, u, t⟩ hI
  dsimp only at hI ⊢
  obtain ⟨i1, i2, i3, i4, i5, i6, i7⟩ := id hI
  refine wpv_ok Γok (by kernel_rfl) _ _ _ ?_; conv => whnf
  refine ⟨_, ne_zero (by omega), ?_⟩
  by_cases hs : s = 0
  · subst hs
    rw [decide_eq_true rfl]
    conv => whnf
    try (refine ⟨by kernel_rfl, ?_⟩; conv => whnf)
    obtain ⟨e1, e2⟩ := euclid_end hI
    have hn := ne_uC (a := r) (b := 1) (by omega) (by decide)
    rw [uC_lit (n := 1) (by decide)] at hn
    refine ⟨_, hn, ?_⟩
    unfold invR invE
    by_cases h1 : r = 1
    · rw [decide_eq_true h1, if_pos (by omega), if_pos (by omega), ← invM_of (e2 h1)]
      conv => whnf
      try (refine ⟨by kernel_rfl, ?_⟩; conv => whnf)
      exact ⟨_, rfl, rfl⟩
    · rw [decide_eq_false h1, if_neg (by omega), if_neg (by omega)]
      conv => whnf
      try (refine ⟨by kernel_rfl, ?_⟩; conv => whnf)
      exact ⟨_, rfl, congrArg some (congrArg VV.tup (congrArg (fun x => [x, nI .i64 5]) uV_zero.symm))⟩
  · have hst := euclid_step hI (by omega)
    have q1 := divN_lt (a := r) s (by omega)
    have q2 : modN (divN r s) m < m := by rw [modN_def]; exact Nat.mod_lt _ (by omega)
    rw [← divN_def, ← modN_def, ← modN_def] at hst
    rw [decide_eq_false hs]
    conv => whnf
    try (refine ⟨by kernel_rfl, ?_⟩; conv => whnf)
    refine ⟨_, ret_of_fn G0ok (div_pos (a := r) (b := s) (by omega) (by omega) (by omega)) (by first | rfl | simp only [noHs, noH, nI, bI, Bool.and_self, Bool.and_true, Bool.true_and, ]) (by first | rfl | simp only [noHs, noH, nI, bI, Bool.and_self, Bool.and_true, Bool.true_and, ]), ?_⟩; (conv => whnf); (try (refine ⟨by kernel_rfl, ?_⟩; conv => whnf))
    refine ⟨_, ret_of_fn G0ok (div_pos (a := divN r s) (b := m) q1 hm (by omega)) (by first | rfl | simp only [noHs, noH, nI, bI, Bool.and_self, Bool.and_true, Bool.true_and, ]) (by first | rfl | simp only [noHs, noH, nI, bI, Bool.and_self, Bool.and_true, Bool.true_and, ]), ?_⟩; (conv => whnf); (try (refine ⟨by kernel_rfl, ?_⟩; conv => whnf))
    refine ⟨_, ret_of_fn G0ok (fmul_fn q2 (b := t) (by omega) hm) (by first | rfl | simp only [noHs, noH, nI, bI, Bool.and_self, Bool.and_true, Bool.true_and, ]) (by first | rfl | simp only [noHs, noH, nI, bI, Bool.and_self, Bool.and_true, Bool.true_and, ]), ?_⟩; (conv => whnf); (try (refine ⟨by kernel_rfl, ?_⟩; conv => whnf))
    refine ⟨_, ret_of_fn G0ok (fsub_fn i3 (mulM_lt (a := modN (divN r s) m) (b := t) (by omega)) hm) (by first | rfl | simp only [noHs, noH, nI, bI, Bool.and_self, Bool.and_true, Bool.true_and, ]) (by first | rfl | simp only [noHs, noH, nI, bI, Bool.and_self, Bool.and_true, Bool.true_and, ]), ?_⟩; (conv => whnf); (try (refine ⟨by kernel_rfl, ?_⟩; conv => whnf))
    refine next_round (y := ⟨r, s, u, t⟩) (μ := fun x : EuS => x.s) (I := fun x : EuS => euclid m a x.r x.s x.u x.t) G0ok ⟨s, modN r s, t, subM m u (mulM m (modN (divN r s) m) t)⟩ [(0, some 0), (1, some 1), (2, some 2), (3, some 3), (4, some 4), (5, some 5)] rfl ⟨⟨_, rfl, .ptr rfl⟩, ⟨_, rfl, .ptr rfl⟩, ⟨_, rfl, .ptr rfl⟩, ⟨_, rfl, .ptr rfl⟩, ⟨_, rfl, .ptr rfl⟩, ⟨_, rfl, .ptr rfl⟩, trivial⟩ ⟨.inr ⟨_, _, rfl, rfl, convs_eq rfl (words_noHs _)⟩, .inr ⟨_, _, rfl, rfl, convs_eq rfl (words_noHs _)⟩, .inr ⟨_, _, rfl, rfl, convs_eq rfl (words_noHs _)⟩, .inr ⟨_, _, rfl, rfl, convs_eq rfl (words_noHs _)⟩, .inr ⟨_, _, rfl, rfl, convs_eq rfl (words_noHs _)⟩, .inr ⟨_, _, rfl, rfl, convs_eq rfl (rfl)⟩, trivial⟩ hst ?_
    rw [modN_def]
    exact Nat.mod_lt _ (by omega)
end Go.Proofs.YtidkdlaihmpjfaaDoor
namespace Go.Proofs.YtidkdlaihmpjfaaDoor
set_option linter.unusedVariables false
set_option linter.unusedSimpArgs false
set_option linter.unusedSectionVars false
open Go.ChangeShapes Go.WideShapes Go.ChangeAt Go.RowKit Go.Joins
set_option maxRecDepth 10000
noncomputable def ringV (m h : Nat) : VV := .agg (uC m ++ [.ptr h 0])
def HB (f : Bool) : HL := [(0, some [bI f])]
theorem outHB (f : Bool) : outH 1 (HB f) 1 := ⟨trivial, fun cs h => (Option.some.inj (show some [bI f] = some cs from h)) ▸ rfl⟩
theorem outHB0 (f : Bool) : outH 1 (HB f) 0 := trivial
theorem take_ok {m : Nat} (a : Nat) (f : Bool) : FnH Tryd.prog G0 82 [ringV m 0, uV a, nI .i64 0] (HB f) 1 (uV a) (HB f) 0 := by
  unfold ringV HB
  refine fnH_of_vwp Γok G0ok Tryd.func82 (by kernel_rfl) rfl (by simp [Tryd.ntmps82]) (wpv_ok Γok (by kernel_rfl) _ _ _ ?_); conv => whnf
  exact ⟨_, rfl, [(0, some 0)], rfl, rfl, .same (words_noHs _), ⟨.inr ⟨_, _, rfl, rfl, .same rfl⟩, trivial⟩⟩
theorem take_bad {m : Nat} (a : Nat) (f : Bool) : FnH Tryd.prog G0 82 [ringV m 0, uV a, nI .i64 5] (HB f) 1 (uV a) (HB true) 0 := by
  unfold ringV HB
  refine fnH_of_vwp Γok G0ok Tryd.func82 (by kernel_rfl) rfl (by simp [Tryd.ntmps82]) (wpv_ok Γok (by kernel_rfl) _ _ _ ?_); conv => whnf
  exact ⟨_, rfl, [(0, some 0)], rfl, rfl, .same (words_noHs _), ⟨.inr ⟨_, _, rfl, rfl, .same rfl⟩, trivial⟩⟩
theorem ringOf_fnH (c : CvD) : FnH Tryd.prog G0 71 [c.v] [] 0 (ringV c.P 0) (HB false) 1 := by
  unfold ringV HB CvD.v CvD.cells
  refine fnH_of_vwp Γok G0ok Tryd.func71 (by kernel_rfl) rfl (by simp [Tryd.ntmps71]) (wpv_ok Γok (by kernel_rfl) _ _ _ ?_); conv => whnf
  exact ⟨_, rfl, [(0, some 2)], rfl, rfl, .agg (.cons (.same rfl) (.cons (.same rfl) (.cons (.same rfl) (.cons (.same rfl) (.cons (.ptr rfl) .nil))))), ⟨.inr ⟨_, _, rfl, rfl, .same rfl⟩, trivial⟩⟩
theorem radd_fnH {a b m : Nat} (f : Bool) (ha : a < m) (hb : b < m) (hm : m < T256) : FnH Tryd.prog G0 74 [ringV m 0, uV a, uV b] (HB f) 1 (uV (addM m a b)) (HB f) 0 := by
  have h := take_ok (m := m) (addM m a b) f
  have t := add_by ha hb hm
  unfold ringV HB at *
  refine fnH_of_vwp Γok G0ok Tryd.func74 (by kernel_rfl) rfl (by simp [Tryd.ntmps74]) (wpv_ok Γok (by kernel_rfl) _ _ _ ?_); conv => whnf
  refine ⟨_, ret_of_fn G0ok (t) (by first | rfl | simp only [noHs, noH, nI, bI, Bool.and_self, Bool.and_true, Bool.true_and, ]) (by first | rfl | simp only [noHs, noH, nI, bI, Bool.and_self, Bool.and_true, Bool.true_and, ]), ?_⟩; (conv => whnf); (try (refine ⟨by kernel_rfl, ?_⟩; conv => whnf))
  refine ⟨_, ret_fnH G0ok h [0] (res' := uV (addM m a b)) rfl rfl rfl rfl rfl ⟨trivial, _, rfl, rfl, rfl⟩ (outHB _) rfl rfl (upd := [(0, some [bI f])]) (by rfl), ?_⟩
  conv => whnf
  try (refine ⟨by kernel_rfl, ?_⟩; conv => whnf)
  exact ⟨_, rfl, [(0, some 0)], rfl, rfl, .same (words_noHs _), ⟨.inr ⟨_, _, rfl, rfl, .same rfl⟩, trivial⟩⟩
theorem rsub_fnH {a b m : Nat} (f : Bool) (ha : a < m) (hb : b < m) (hm : m < T256) : FnH Tryd.prog G0 90 [ringV m 0, uV a, uV b] (HB f) 1 (uV (subM m a b)) (HB f) 0 := by
  have h := take_ok (m := m) (subM m a b) f
  have t := sub_by ha hb hm
  unfold ringV HB at *
  refine fnH_of_vwp Γok G0ok Tryd.func90 (by kernel_rfl) rfl (by simp [Tryd.ntmps90]) (wpv_ok Γok (by kernel_rfl) _ _ _ ?_); conv => whnf
  refine ⟨_, ret_of_fn G0ok (t) (by first | rfl | simp only [noHs, noH, nI, bI, Bool.and_self, Bool.and_true, Bool.true_and, ]) (by first | rfl | simp only [noHs, noH, nI, bI, Bool.and_self, Bool.and_true, Bool.true_and, ]), ?_⟩; (conv => whnf); (try (refine ⟨by kernel_rfl, ?_⟩; conv => whnf))
  refine ⟨_, ret_fnH G0ok h [0] (res' := uV (subM m a b)) rfl rfl rfl rfl rfl ⟨trivial, _, rfl, rfl, rfl⟩ (outHB _) rfl rfl (upd := [(0, some [bI f])]) (by rfl), ?_⟩
  conv => whnf
  try (refine ⟨by kernel_rfl, ?_⟩; conv => whnf)
  exact ⟨_, rfl, [(0, some 0)], rfl, rfl, .same (words_noHs _), ⟨.inr ⟨_, _, rfl, rfl, .same rfl⟩, trivial⟩⟩
theorem rmul_fnH {a b m : Nat} (f : Bool) (ha : a < m) (hb : b < m) (hm : m < T256) : FnH Tryd.prog G0 72 [ringV m 0, uV a, uV b] (HB f) 1 (uV (mulM m a b)) (HB f) 0 := by
  have h := take_ok (m := m) (mulM m a b) f
  have t := mul_by ha hb hm
  unfold ringV HB at *
  refine fnH_of_vwp Γok G0ok Tryd.func72 (by kernel_rfl) rfl (by simp [Tryd.ntmps72]) (wpv_ok Γok (by kernel_rfl) _ _ _ ?_); conv => whnf
  refine ⟨_, ret_of_fn G0ok (t) (by first | rfl | simp only [noHs, noH, nI, bI, Bool.and_self, Bool.and_true, Bool.true_and, ]) (by first | rfl | simp only [noHs, noH, nI, bI, Bool.and_self, Bool.and_true, Bool.true_and, ]), ?_⟩; (conv => whnf); (try (refine ⟨by kernel_rfl, ?_⟩; conv => whnf))
  refine ⟨_, ret_fnH G0ok h [0] (res' := uV (mulM m a b)) rfl rfl rfl rfl rfl ⟨trivial, _, rfl, rfl, rfl⟩ (outHB _) rfl rfl (upd := [(0, some [bI f])]) (by rfl), ?_⟩
  conv => whnf
  try (refine ⟨by kernel_rfl, ?_⟩; conv => whnf)
  exact ⟨_, rfl, [(0, some 0)], rfl, rfl, .same (words_noHs _), ⟨.inr ⟨_, _, rfl, rfl, .same rfl⟩, trivial⟩⟩
theorem rinv_ok {a m : Nat} (f : Bool) (ha : a < m) (hm : m < T256) (hg : Nat.gcd a m = 1) : FnH Tryd.prog G0 91 [ringV m 0, uV a] (HB f) 1 (uV (invM m a)) (HB f) 0 := by
  have h := take_ok (m := m) (invM m a) f
  have t := inv_all ha hm
  have e1 : invR a m = invM m a := by unfold invR; rw [if_pos hg]
  have e2 : invE a m = 0 := by unfold invE; rw [if_pos hg]
  rw [e1, e2] at t
  unfold ringV HB at *
  refine fnH_of_vwp Γok G0ok Tryd.func91 (by kernel_rfl) rfl (by simp [Tryd.ntmps91]) (wpv_ok Γok (by kernel_rfl) _ _ _ ?_); conv => whnf
  refine ⟨_, ret_of_fn G0ok (t) (by first | rfl | simp only [noHs, noH, nI, bI, Bool.and_self, Bool.and_true, Bool.true_and, ]) (by first | rfl | simp only [noHs, noH, nI, bI, Bool.and_self, Bool.and_true, Bool.true_and, ]), ?_⟩; (conv => whnf); (try (refine ⟨by kernel_rfl, ?_⟩; conv => whnf))
  refine ⟨_, ret_fnH G0ok h [0] (res' := uV (invM m a)) rfl rfl rfl rfl rfl ⟨trivial, _, rfl, rfl, rfl⟩ (outHB _) rfl rfl (upd := [(0, some [bI f])]) (by rfl), ?_⟩
  conv => whnf
  try (refine ⟨by kernel_rfl, ?_⟩; conv => whnf)
  exact ⟨_, rfl, [(0, some 0)], rfl, rfl, .same (words_noHs _), ⟨.inr ⟨_, _, rfl, rfl, .same rfl⟩, trivial⟩⟩
theorem rinv_bad {a m : Nat} (f : Bool) (ha : a < m) (hm : m < T256) (hg : Nat.gcd a m ≠ 1) : FnH Tryd.prog G0 91 [ringV m 0, uV a] (HB f) 1 (uV 0) (HB true) 0 := by
  have h := take_bad (m := m) 0 f
  have t := inv_all ha hm
  have e1 : invR a m = 0 := by unfold invR; rw [if_neg hg]
  have e2 : invE a m = 5 := by unfold invE; rw [if_neg hg]
  rw [e1, e2] at t
  unfold ringV HB at *
  refine fnH_of_vwp Γok G0ok Tryd.func91 (by kernel_rfl) rfl (by simp [Tryd.ntmps91]) (wpv_ok Γok (by kernel_rfl) _ _ _ ?_); conv => whnf
  refine ⟨_, ret_of_fn G0ok (t) (by first | rfl | simp only [noHs, noH, nI, bI, Bool.and_self, Bool.and_true, Bool.true_and, ]) (by first | rfl | simp only [noHs, noH, nI, bI, Bool.and_self, Bool.and_true, Bool.true_and, ]), ?_⟩; (conv => whnf); (try (refine ⟨by kernel_rfl, ?_⟩; conv => whnf))
  refine ⟨_, ret_fnH G0ok h [0] (res' := uV 0) rfl rfl rfl rfl rfl ⟨trivial, _, rfl, rfl, rfl⟩ (outHB _) rfl rfl (upd := [(0, some [bI true])]) (by rfl), ?_⟩
  conv => whnf
  try (refine ⟨by kernel_rfl, ?_⟩; conv => whnf)
  exact ⟨_, rfl, [(0, some 0)], rfl, rfl, .same (words_noHs _), ⟨.inr ⟨_, _, rfl, rfl, .same rfl⟩, trivial⟩⟩
theorem rsmall_fnH {n m : Nat} (f : Bool) (hn : n < B64) (h0 : 0 < m) (hm : m < T256) : FnH Tryd.prog G0 73 [ringV m 0, nI .u64 n] (HB f) 1 (uV (modN n m)) (HB f) 0 := by
  have t := div_pos (a := n) (b := m) (by rw [T256_lit]; unfold B64 at hn; omega) hm h0
  rw [show uV n = .agg (words [n, 0, 0, 0]) from congrArg VV.agg (uC_lit hn)] at t
  unfold ringV HB at *
  refine fnH_of_vwp Γok G0ok Tryd.func73 (by kernel_rfl) rfl (by simp [Tryd.ntmps73]) (wpv_ok Γok (by kernel_rfl) _ _ _ ?_); conv => whnf
  refine ⟨_, ret_of_fn G0ok (t) (by first | rfl | simp only [noHs, noH, nI, bI, Bool.and_self, Bool.and_true, Bool.true_and, ]) (by first | rfl | simp only [noHs, noH, nI, bI, Bool.and_self, Bool.and_true, Bool.true_and, ]), ?_⟩; (conv => whnf); (try (refine ⟨by kernel_rfl, ?_⟩; conv => whnf))
  exact ⟨_, rfl, [(0, some 0)], rfl, rfl, .same (words_noHs _), ⟨.inr ⟨_, _, rfl, rfl, .same rfl⟩, trivial⟩⟩
end Go.Proofs.YtidkdlaihmpjfaaDoor
namespace Go.Proofs.YtidkdlaihmpjfaaDoor
set_option linter.unusedVariables false
set_option linter.unusedSimpArgs false
set_option linter.unusedSectionVars false
open Go.ChangeShapes Go.WideShapes Go.ChangeAt Go.RowKit Go.Joins
set_option maxRecDepth 10000
noncomputable def sideM (c : CvD) (x : Nat) : Nat := addM c.P (addM c.P (mulM c.P x (mulM c.P x x)) (mulM c.P c.A x)) c.B
theorem side_fnH {c : CvD} {x : Nat} (f : Bool) (hP : c.P < T256) (hA : c.A < c.P) (hB : c.B < c.P) (hx : x < c.P) : FnH Tryd.prog G0 84 [c.v, ringV c.P 0, uV x] (HB f) 1 (uV (sideM c x)) (HB f) 0 := by
  have hp : 0 < c.P := by omega
  have t1 := rmul_fnH f hx hx hP
  have t2 := rmul_fnH f hx (mulM_lt (a := x) (b := x) hp) hP
  have t3 := rmul_fnH f hA hx hP
  have t4 := radd_fnH f (mulM_lt (a := x) (b := mulM c.P x x) hp) (mulM_lt (a := c.A) (b := x) hp) hP
  have t5 := radd_fnH f (addM_lt (a := mulM c.P x (mulM c.P x x)) (b := mulM c.P c.A x) hp) hB hP
  unfold CvD.v CvD.cells ringV HB sideM at *
  refine fnH_of_vwp Γok G0ok Tryd.func84 (by kernel_rfl) rfl (by simp [Tryd.ntmps84]) (wpv_ok Γok (by kernel_rfl) _ _ _ ?_); conv => whnf
  refine ⟨_, ret_fnH G0ok (t1) [0] (res' := uV (mulM c.P x x)) rfl rfl rfl rfl rfl ⟨trivial, _, rfl, rfl, rfl⟩ (outHB _) rfl rfl (upd := [(0, some [bI f])]) (by rfl), ?_⟩; (conv => whnf); (try (refine ⟨by kernel_rfl, ?_⟩; conv => whnf))
  refine ⟨_, ret_fnH G0ok (t2) [0] (res' := uV (mulM c.P x (mulM c.P x x))) rfl rfl rfl rfl rfl ⟨trivial, _, rfl, rfl, rfl⟩ (outHB _) rfl rfl (upd := [(0, some [bI f])]) (by rfl), ?_⟩; (conv => whnf); (try (refine ⟨by kernel_rfl, ?_⟩; conv => whnf))
  refine ⟨_, ret_fnH G0ok (t3) [0] (res' := uV (mulM c.P c.A x)) rfl rfl rfl rfl rfl ⟨trivial, _, rfl, rfl, rfl⟩ (outHB _) rfl rfl (upd := [(0, some [bI f])]) (by rfl), ?_⟩; (conv => whnf); (try (refine ⟨by kernel_rfl, ?_⟩; conv => whnf))
  refine ⟨_, ret_fnH G0ok (t4) [0] (res' := uV (addM c.P (mulM c.P x (mulM c.P x x)) (mulM c.P c.A x))) rfl rfl rfl rfl rfl ⟨trivial, _, rfl, rfl, rfl⟩ (outHB _) rfl rfl (upd := [(0, some [bI f])]) (by rfl), ?_⟩; (conv => whnf); (try (refine ⟨by kernel_rfl, ?_⟩; conv => whnf))
  refine ⟨_, ret_fnH G0ok (t5) [0] (res' := uV (addM c.P (addM c.P (mulM c.P x (mulM c.P x x)) (mulM c.P c.A x)) c.B)) rfl rfl rfl rfl rfl ⟨trivial, _, rfl, rfl, rfl⟩ (outHB _) rfl rfl (upd := [(0, some [bI f])]) (by rfl), ?_⟩; (conv => whnf); (try (refine ⟨by kernel_rfl, ?_⟩; conv => whnf))
  exact ⟨_, rfl, [(0, some 0)], rfl, rfl, .same (words_noHs _), ⟨.inr ⟨_, _, rfl, rfl, .same rfl⟩, trivial⟩⟩
theorem sideM_lt {c : CvD} {x : Nat} (h : 0 < c.P) : sideM c x < c.P := by unfold sideM; exact addM_lt h
noncomputable def onB (c : CvD) (p : PtD) : Bool := if p.far = true then decide (p.x = 0) && decide (p.y = 0) else decide (mulM c.P p.y p.y = sideM c p.x)
theorem on_fn {c : CvD} {p : PtD} (hP : c.P < T256) (hA : c.A < c.P) (hB : c.B < c.P) (hp : p.lt c.P) : FnV Tryd.prog G0 75 [c.v, p.v] (bI (onB c p)) := by
  obtain ⟨hx, hy⟩ := hp
  have h0 : 0 < c.P := by omega
  have r0 := ringOf_fnH c
  have t1 := rmul_fnH false hy hy hP
  have t2 := side_fnH false hP hA hB hx
  have c1 := cmp_fn (a := p.x) (b := c.P) (by omega) hP
  have c2 := cmp_fn (a := p.y) (b := c.P) (by omega) hP
  rw [cmpN_lt hx] at c1
  rw [cmpN_lt hy] at c2
  have e1 := eq_zero (a := p.x) (by omega)
  have e2 := eq_zero (a := p.y) (by omega)
  have e3 := eq_uC (a := mulM c.P p.y p.y) (b := sideM c p.x) (by have := mulM_lt (m := c.P) (a := p.y) (b := p.y) h0; omega) (by have := sideM_lt (c := c) (x := p.x) h0; omega)
  obtain ⟨x, y, far⟩ := p
  dsimp only at *
  unfold onB
  unfold CvD.v CvD.cells PtD.v PtD.cells ringV HB at *
  dsimp only at *
  cases far
  · rw [if_neg Bool.false_ne_true]
    refine fn_of_vwp Γok Tryd.func75 (by kernel_rfl) rfl (by simp [Tryd.ntmps75]) (wpv_ok Γok (by kernel_rfl) _ _ _ ?_); conv => whnf
    refine ⟨_, ret_of_fn G0ok (c1) (by first | rfl | simp only [noHs, noH, nI, bI, Bool.and_self, Bool.and_true, Bool.true_and, ]) (by first | rfl | simp only [noHs, noH, nI, bI, Bool.and_self, Bool.and_true, Bool.true_and, ]), ?_⟩; (conv => whnf); (try (refine ⟨by kernel_rfl, ?_⟩; conv => whnf))
    refine ⟨_, ret_of_fn G0ok (c2) (by first | rfl | simp only [noHs, noH, nI, bI, Bool.and_self, Bool.and_true, Bool.true_and, ]) (by first | rfl | simp only [noHs, noH, nI, bI, Bool.and_self, Bool.and_true, Bool.true_and, ]), ?_⟩; (conv => whnf); (try (refine ⟨by kernel_rfl, ?_⟩; conv => whnf))
    refine ⟨_, ret_fnH G0ok (r0) [] (res' := .agg (uC c.P ++ [.ptr 2 0])) rfl rfl rfl rfl rfl trivial (outHB _) rfl rfl (upd := [(2, some [bI false])]) (by rfl), ?_⟩; (conv => whnf); (try (refine ⟨by kernel_rfl, ?_⟩; conv => whnf))
    refine ⟨_, ret_fnH G0ok (t1) [2] (res' := uV (mulM c.P y y)) rfl rfl rfl rfl rfl ⟨trivial, _, rfl, rfl, rfl⟩ (outHB _) rfl rfl (upd := [(2, some [bI false])]) (by rfl), ?_⟩; (conv => whnf); (try (refine ⟨by kernel_rfl, ?_⟩; conv => whnf))
    refine ⟨_, ret_fnH G0ok (t2) [2] (res' := uV (sideM c x)) rfl rfl rfl rfl rfl ⟨trivial, _, rfl, rfl, rfl⟩ (outHB _) rfl rfl (upd := [(2, some [bI false])]) (by rfl), ?_⟩; (conv => whnf); (try (refine ⟨by kernel_rfl, ?_⟩; conv => whnf))
    refine ⟨_, e3, ?_⟩
    conv => whnf
    try (refine ⟨by kernel_rfl, ?_⟩; conv => whnf)
    exact ⟨_, rfl, rfl⟩
  · rw [if_pos rfl]
    refine fn_of_vwp Γok Tryd.func75 (by kernel_rfl) rfl (by simp [Tryd.ntmps75]) (wpv_ok Γok (by kernel_rfl) _ _ _ ?_); conv => whnf
    refine ⟨_, e1, ?_⟩
    by_cases h : x = 0
    · rw [decide_eq_true h]
      conv => whnf
      try (refine ⟨by kernel_rfl, ?_⟩; conv => whnf)
      refine ⟨_, e2, ?_⟩
      conv => whnf
      try (refine ⟨by kernel_rfl, ?_⟩; conv => whnf)
      exact ⟨_, rfl, rfl⟩
    · rw [decide_eq_false h]
      conv => whnf
      try (refine ⟨by kernel_rfl, ?_⟩; conv => whnf)
      exact ⟨_, rfl, rfl⟩
/-- A curve that passes. -/
structure Good (c : CvD) : Prop where
  p3 : 3 < c.P
  P : c.P < T256
  p4 : c.P % 4 = 3
  A : c.A < c.P
  B : c.B < c.P
  n1 : 1 < c.N
  N : c.N < T256
  X : c.X < c.P
  Y : c.Y < c.P
  disc : addM c.P (mulM c.P (modN 4 c.P) (mulM c.P c.A (mulM c.P c.A c.A))) (mulM c.P (modN 27 c.P) (mulM c.P c.B c.B)) ≠ 0
  base : mulM c.P c.Y c.Y = sideM c c.X
def CvD.base (c : CvD) : PtD := ⟨c.X, c.Y, false⟩
theorem lim0_mod {a : Nat} (k : Nat) : lim a 0 % 2 ^ k = if k ≤ 64 then a % 2 ^ k else lim a 0 % 2 ^ k := by
  split
  · rw [lim_def, Nat.pow_zero, Nat.div_one, B64_eq, show (2 : Nat) ^ 64 = 2 ^ k * 2 ^ (64 - k) by rw [← Nat.pow_add]; congr 1; omega, Nat.mod_mul_right_mod]
  · rfl
theorem chk_ok {c : CvD} (g : Good c) : FnV Tryd.prog G0 49 [c.v] (nI .i64 0) := by
  obtain ⟨p3, hP, p4, hA, hB, n1, hN, hX, hY, disc, base⟩ := g
  have h0 : 0 < c.P := by omega
  have r0 := ringOf_fnH c
  have u4 : ∀ {n : Nat}, n < B64 → uV n = .agg (words [n, 0, 0, 0]) := fun h => congrArg VV.agg (uC_lit h)
  have m3 : (modN 4 c.P) < c.P := by rw [modN_def]; exact Nat.mod_lt _ h0
  have m27 : (modN 27 c.P) < c.P := by rw [modN_def]; exact Nat.mod_lt _ h0
  have c1 := cmp_fn (a := c.P) (b := 3) hP (by decide)
  rw [cmpN_gt p3, u4 (n := 3) (by decide)] at c1
  have c2 := cmp_fn (a := c.A) (b := c.P) (by omega) hP
  rw [cmpN_lt hA] at c2
  have c3 := cmp_fn (a := c.B) (b := c.P) (by omega) hP
  rw [cmpN_lt hB] at c3
  have c4 := cmp_fn (a := c.N) (b := 1) hN (by decide)
  rw [cmpN_gt n1, u4 (n := 1) (by decide)] at c4
  have s4 := rsmall_fnH (n := 4) false (by decide) h0 hP
  have a1 := rmul_fnH false hA hA hP
  have a2 := rmul_fnH false hA (mulM_lt (a := c.A) (b := c.A) h0) hP
  have a3 := rmul_fnH false m3 (mulM_lt (a := c.A) (b := mulM c.P c.A c.A) h0) hP
  have s27 := rsmall_fnH (n := 27) false (by decide) h0 hP
  have b1 := rmul_fnH false hB hB hP
  have b2 := rmul_fnH false m27 (mulM_lt (a := c.B) (b := c.B) h0) hP
  have ab := radd_fnH false (mulM_lt (m := c.P) (a := modN 4 c.P) (b := mulM c.P c.A (mulM c.P c.A c.A)) h0) (mulM_lt (m := c.P) (a := modN 27 c.P) (b := mulM c.P c.B c.B) h0) hP
  have ez := eq_zero (a := addM c.P (mulM c.P (modN 4 c.P) (mulM c.P c.A (mulM c.P c.A c.A))) (mulM c.P (modN 27 c.P) (mulM c.P c.B c.B))) (Nat.lt_trans (addM_lt h0) hP)
  rw [decide_eq_false disc] at ez
  have on := on_fn (c := c) (p := c.base) hP hA hB ⟨hX, hY⟩
  have e1 : onB c c.base = true := by unfold onB; rw [if_neg (show ¬ c.base.far = true from Bool.false_ne_true)]; exact decide_eq_true base
  rw [e1] at on
  have ht : ((lim c.P 0 : Nat) : Int).tmod 4 = 3 := by
    have := lim0_mod (a := c.P) 2
    rw [if_pos (by decide)] at this
    have h4 : lim c.P 0 % 4 = 3 := this.trans p4
    rw [Int.tmod_eq_emod_of_nonneg (by omega)]
    omega
  unfold CvD.v CvD.cells PtD.v PtD.cells ringV HB CvD.base at *
  dsimp only at *
  refine fn_of_vwp Γok Tryd.func49 (by kernel_rfl) rfl (by simp [Tryd.ntmps49]) (wpv_ok Γok (by kernel_rfl) _ _ _ ?_); conv => whnf
  refine ⟨_, ret_of_fn G0ok (c1) (by first | rfl | simp only [noHs, noH, nI, bI, Bool.and_self, Bool.and_true, Bool.true_and, ]) (by first | rfl | simp only [noHs, noH, nI, bI, Bool.and_self, Bool.and_true, Bool.true_and, ]), ?_⟩; (conv => whnf); (try (refine ⟨by kernel_rfl, ?_⟩; conv => whnf))
  rw [ht]
  conv => whnf
  try (refine ⟨by kernel_rfl, ?_⟩; conv => whnf)
  refine ⟨_, ret_of_fn G0ok (c2) (by first | rfl | simp only [noHs, noH, nI, bI, Bool.and_self, Bool.and_true, Bool.true_and, ]) (by first | rfl | simp only [noHs, noH, nI, bI, Bool.and_self, Bool.and_true, Bool.true_and, ]), ?_⟩; (conv => whnf); (try (refine ⟨by kernel_rfl, ?_⟩; conv => whnf))
  refine ⟨_, ret_of_fn G0ok (c3) (by first | rfl | simp only [noHs, noH, nI, bI, Bool.and_self, Bool.and_true, Bool.true_and, ]) (by first | rfl | simp only [noHs, noH, nI, bI, Bool.and_self, Bool.and_true, Bool.true_and, ]), ?_⟩; (conv => whnf); (try (refine ⟨by kernel_rfl, ?_⟩; conv => whnf))
  refine ⟨_, ret_of_fn G0ok (c4) (by first | rfl | simp only [noHs, noH, nI, bI, Bool.and_self, Bool.and_true, Bool.true_and, ]) (by first | rfl | simp only [noHs, noH, nI, bI, Bool.and_self, Bool.and_true, Bool.true_and, ]), ?_⟩; (conv => whnf); (try (refine ⟨by kernel_rfl, ?_⟩; conv => whnf))
  refine ⟨_, ret_fnH G0ok (r0) [] (res' := .agg (uC c.P ++ [.ptr 1 0])) rfl rfl rfl rfl rfl trivial (outHB _) rfl rfl (upd := [(1, some [bI false])]) (by rfl), ?_⟩; (conv => whnf); (try (refine ⟨by kernel_rfl, ?_⟩; conv => whnf))
  refine ⟨_, ret_fnH G0ok (s4) [1] (res' := uV (modN 4 c.P)) rfl rfl rfl rfl rfl ⟨trivial, _, rfl, rfl, rfl⟩ (outHB _) rfl rfl (upd := [(1, some [bI false])]) (by rfl), ?_⟩; (conv => whnf); (try (refine ⟨by kernel_rfl, ?_⟩; conv => whnf))
  refine ⟨_, ret_fnH G0ok (a1) [1] (res' := uV (mulM c.P c.A c.A)) rfl rfl rfl rfl rfl ⟨trivial, _, rfl, rfl, rfl⟩ (outHB _) rfl rfl (upd := [(1, some [bI false])]) (by rfl), ?_⟩; (conv => whnf); (try (refine ⟨by kernel_rfl, ?_⟩; conv => whnf))
  refine ⟨_, ret_fnH G0ok (a2) [1] (res' := uV (mulM c.P c.A (mulM c.P c.A c.A))) rfl rfl rfl rfl rfl ⟨trivial, _, rfl, rfl, rfl⟩ (outHB _) rfl rfl (upd := [(1, some [bI false])]) (by rfl), ?_⟩; (conv => whnf); (try (refine ⟨by kernel_rfl, ?_⟩; conv => whnf))
  refine ⟨_, ret_fnH G0ok (a3) [1] (res' := uV (mulM c.P (modN 4 c.P) (mulM c.P c.A (mulM c.P c.A c.A)))) rfl rfl rfl rfl rfl ⟨trivial, _, rfl, rfl, rfl⟩ (outHB _) rfl rfl (upd := [(1, some [bI false])]) (by rfl), ?_⟩; (conv => whnf); (try (refine ⟨by kernel_rfl, ?_⟩; conv => whnf))
  refine ⟨_, ret_fnH G0ok (s27) [1] (res' := uV (modN 27 c.P)) rfl rfl rfl rfl rfl ⟨trivial, _, rfl, rfl, rfl⟩ (outHB _) rfl rfl (upd := [(1, some [bI false])]) (by rfl), ?_⟩; (conv => whnf); (try (refine ⟨by kernel_rfl, ?_⟩; conv => whnf))
  refine ⟨_, ret_fnH G0ok (b1) [1] (res' := uV (mulM c.P c.B c.B)) rfl rfl rfl rfl rfl ⟨trivial, _, rfl, rfl, rfl⟩ (outHB _) rfl rfl (upd := [(1, some [bI false])]) (by rfl), ?_⟩; (conv => whnf); (try (refine ⟨by kernel_rfl, ?_⟩; conv => whnf))
  refine ⟨_, ret_fnH G0ok (b2) [1] (res' := uV (mulM c.P (modN 27 c.P) (mulM c.P c.B c.B))) rfl rfl rfl rfl rfl ⟨trivial, _, rfl, rfl, rfl⟩ (outHB _) rfl rfl (upd := [(1, some [bI false])]) (by rfl), ?_⟩; (conv => whnf); (try (refine ⟨by kernel_rfl, ?_⟩; conv => whnf))
  refine ⟨_, ret_fnH G0ok (ab) [1] (res' := uV (addM c.P (mulM c.P (modN 4 c.P) (mulM c.P c.A (mulM c.P c.A c.A))) (mulM c.P (modN 27 c.P) (mulM c.P c.B c.B)))) rfl rfl rfl rfl rfl ⟨trivial, _, rfl, rfl, rfl⟩ (outHB _) rfl rfl (upd := [(1, some [bI false])]) (by rfl), ?_⟩; (conv => whnf); (try (refine ⟨by kernel_rfl, ?_⟩; conv => whnf))
  refine ⟨_, ez, ?_⟩
  conv => whnf
  try (refine ⟨by kernel_rfl, ?_⟩; conv => whnf)
  refine ⟨_, ret_of_fn G0ok (on) (by first | rfl | simp only [noHs, noH, nI, bI, Bool.and_self, Bool.and_true, Bool.true_and, ]) (by first | rfl | simp only [noHs, noH, nI, bI, Bool.and_self, Bool.and_true, Bool.true_and, ]), ?_⟩; (conv => whnf); (try (refine ⟨by kernel_rfl, ?_⟩; conv => whnf))
  exact ⟨_, rfl, rfl⟩
end Go.Proofs.YtidkdlaihmpjfaaDoor
namespace Go.Proofs.YtidkdlaihmpjfaaDoor
set_option linter.unusedVariables false
set_option linter.unusedSimpArgs false
set_option linter.unusedSectionVars false
open Go.ChangeShapes Go.WideShapes Go.ChangeAt Go.RowKit Go.Joins
set_option maxRecDepth 10000
/-- A point of a curve. -/
structure OnP (c : CvD) (p : PtD) : Prop where
  lt : p.lt c.P
  on : onB c p = true
theorem on_ok {c : CvD} (g : Good c) {p : PtD} (h : OnP c p) : FnV Tryd.prog G0 75 [c.v, p.v] (bI true) := by
  have := on_fn (c := c) (p := p) g.P g.A g.B h.lt
  rwa [h.on] at this
theorem cfault1_fn {c : CvD} (g : Good c) {p : PtD} (h : OnP c p) : FnV Tryd.prog G0 76 [c.v, .ds false 1 p.cells] (nI .i64 0) := by
  have k := chk_ok g
  have o := on_ok g h
  unfold CvD.v CvD.cells PtD.v PtD.cells at *
  refine fn_of_vwp Γok Tryd.func76 (by kernel_rfl) rfl (by simp [Tryd.ntmps76]) (wpv_ok Γok (by kernel_rfl) _ _ _ ?_); conv => whnf
  refine ⟨_, ret_of_fn G0ok (k) (by first | rfl | simp only [noHs, noH, nI, bI, Bool.and_self, Bool.and_true, Bool.true_and, ]) (by first | rfl | simp only [noHs, noH, nI, bI, Bool.and_self, Bool.and_true, Bool.true_and, ]), ?_⟩; (conv => whnf); (try (refine ⟨by kernel_rfl, ?_⟩; conv => whnf))
  refine vloop_unroll ?_
  refine wpv_ok Γok (by kernel_rfl) _ _ _ ?_; conv => whnf
  conv => whnf
  try (refine ⟨by kernel_rfl, ?_⟩; conv => whnf)
  refine ⟨_, ret_of_fn G0ok (o) (by first | rfl | simp only [noHs, noH, nI, bI, Bool.and_self, Bool.and_true, Bool.true_and, ]) (by first | rfl | simp only [noHs, noH, nI, bI, Bool.and_self, Bool.and_true, Bool.true_and, ]), ?_⟩; (conv => whnf); (try (refine ⟨by kernel_rfl, ?_⟩; conv => whnf))
  rw [ws_i64 (by decide) (by decide)]
  conv => whnf
  try (refine ⟨by kernel_rfl, ?_⟩; conv => whnf)
  refine vloop_unroll ?_
  refine wpv_ok Γok (by kernel_rfl) _ _ _ ?_; conv => whnf
  conv => whnf
  try (refine ⟨by kernel_rfl, ?_⟩; conv => whnf)
  exact ⟨_, rfl, rfl⟩
theorem cfault2_fn {c : CvD} (g : Good c) {p q : PtD} (h : OnP c p) (h2 : OnP c q) : FnV Tryd.prog G0 76 [c.v, .ds false 2 (p.cells ++ q.cells)] (nI .i64 0) := by
  have k := chk_ok g
  have o := on_ok g h
  have o2 := on_ok g h2
  unfold CvD.v CvD.cells PtD.v PtD.cells at *
  refine fn_of_vwp Γok Tryd.func76 (by kernel_rfl) rfl (by simp [Tryd.ntmps76]) (wpv_ok Γok (by kernel_rfl) _ _ _ ?_); conv => whnf
  refine ⟨_, ret_of_fn G0ok (k) (by first | rfl | simp only [noHs, noH, nI, bI, Bool.and_self, Bool.and_true, Bool.true_and, ]) (by first | rfl | simp only [noHs, noH, nI, bI, Bool.and_self, Bool.and_true, Bool.true_and, ]), ?_⟩; (conv => whnf); (try (refine ⟨by kernel_rfl, ?_⟩; conv => whnf))
  refine vloop_unroll ?_
  refine wpv_ok Γok (by kernel_rfl) _ _ _ ?_; conv => whnf
  conv => whnf
  try (refine ⟨by kernel_rfl, ?_⟩; conv => whnf)
  refine ⟨_, ret_of_fn G0ok (o) (by first | rfl | simp only [noHs, noH, nI, bI, Bool.and_self, Bool.and_true, Bool.true_and, ]) (by first | rfl | simp only [noHs, noH, nI, bI, Bool.and_self, Bool.and_true, Bool.true_and, ]), ?_⟩; (conv => whnf); (try (refine ⟨by kernel_rfl, ?_⟩; conv => whnf))
  rw [ws_i64 (by decide) (by decide)]
  conv => whnf
  try (refine ⟨by kernel_rfl, ?_⟩; conv => whnf)
  refine vloop_unroll ?_
  refine wpv_ok Γok (by kernel_rfl) _ _ _ ?_; conv => whnf
  conv => whnf
  try (refine ⟨by kernel_rfl, ?_⟩; conv => whnf)
  refine ⟨_, ret_of_fn G0ok (o2) (by first | rfl | simp only [noHs, noH, nI, bI, Bool.and_self, Bool.and_true, Bool.true_and, ]) (by first | rfl | simp only [noHs, noH, nI, bI, Bool.and_self, Bool.and_true, Bool.true_and, ]), ?_⟩; (conv => whnf); (try (refine ⟨by kernel_rfl, ?_⟩; conv => whnf))
  rw [ws_i64 (by decide) (by decide)]
  conv => whnf
  try (refine ⟨by kernel_rfl, ?_⟩; conv => whnf)
  refine vloop_unroll ?_
  refine wpv_ok Γok (by kernel_rfl) _ _ _ ?_; conv => whnf
  conv => whnf
  try (refine ⟨by kernel_rfl, ?_⟩; conv => whnf)
  exact ⟨_, rfl, rfl⟩
theorem con_ok {c : CvD} (g : Good c) {p : PtD} (h : OnP c p) : FnV Tryd.prog G0 66 [c.v, p.v] (nI .i64 0) := by
  have k := chk_ok g
  have o := on_ok g h
  unfold CvD.v CvD.cells PtD.v PtD.cells at *
  refine fn_of_vwp Γok Tryd.func66 (by kernel_rfl) rfl (by simp [Tryd.ntmps66]) (wpv_ok Γok (by kernel_rfl) _ _ _ ?_); conv => whnf
  refine ⟨_, ret_of_fn G0ok (k) (by first | rfl | simp only [noHs, noH, nI, bI, Bool.and_self, Bool.and_true, Bool.true_and, ]) (by first | rfl | simp only [noHs, noH, nI, bI, Bool.and_self, Bool.and_true, Bool.true_and, ]), ?_⟩; (conv => whnf); (try (refine ⟨by kernel_rfl, ?_⟩; conv => whnf))
  refine ⟨_, ret_of_fn G0ok (o) (by first | rfl | simp only [noHs, noH, nI, bI, Bool.and_self, Bool.and_true, Bool.true_and, ]) (by first | rfl | simp only [noHs, noH, nI, bI, Bool.and_self, Bool.and_true, Bool.true_and, ]), ?_⟩; (conv => whnf); (try (refine ⟨by kernel_rfl, ?_⟩; conv => whnf))
  exact ⟨_, rfl, rfl⟩
theorem con_bad {c : CvD} (g : Good c) {p : PtD} (hp : p.lt c.P) (h : onB c p = false) : FnV Tryd.prog G0 66 [c.v, p.v] (nI .i64 16) := by
  have k := chk_ok g
  have o := on_fn (c := c) (p := p) g.P g.A g.B hp
  rw [h] at o
  unfold CvD.v CvD.cells PtD.v PtD.cells at *
  refine fn_of_vwp Γok Tryd.func66 (by kernel_rfl) rfl (by simp [Tryd.ntmps66]) (wpv_ok Γok (by kernel_rfl) _ _ _ ?_); conv => whnf
  refine ⟨_, ret_of_fn G0ok (k) (by first | rfl | simp only [noHs, noH, nI, bI, Bool.and_self, Bool.and_true, Bool.true_and, ]) (by first | rfl | simp only [noHs, noH, nI, bI, Bool.and_self, Bool.and_true, Bool.true_and, ]), ?_⟩; (conv => whnf); (try (refine ⟨by kernel_rfl, ?_⟩; conv => whnf))
  refine ⟨_, ret_of_fn G0ok (o) (by first | rfl | simp only [noHs, noH, nI, bI, Bool.and_self, Bool.and_true, Bool.true_and, ]) (by first | rfl | simp only [noHs, noH, nI, bI, Bool.and_self, Bool.and_true, Bool.true_and, ]), ?_⟩; (conv => whnf); (try (refine ⟨by kernel_rfl, ?_⟩; conv => whnf))
  exact ⟨_, rfl, rfl⟩
theorem padd_fn {c : CvD} (g : Good c) {p q : PtD} (hp : p.lt c.P) (hq : q.lt c.P) : FnV Tryd.prog G0 77 [c.v, p.v, q.v] (.tup [(padd c p q).1.v, bI (padd c p q).2]) := by
  obtain ⟨px, py⟩ := hp
  obtain ⟨qx, qy⟩ := hq
  have hP := g.P
  have hA := g.A
  have h0 : 0 < c.P := by omega
  clear g
  obtain ⟨P, A, B, N, X, Y⟩ := c
  obtain ⟨x1, y1, f1⟩ := p
  obtain ⟨x2, y2, f2⟩ := q
  dsimp only at *
  have r0 := ringOf_fnH ⟨P, A, B, N, X, Y⟩
  have up1 := rsub_fnH false qy py hP
  have dn1 := rsub_fnH false qx px hP
  have ss := radd_fnH false py qy hP
  have ez := eq_zero (a := addM P y1 y2) (Nat.lt_trans (addM_lt h0) hP)
  have ex := eq_uC (a := x1) (b := x2) (by omega) (by omega)
  have ey := ne_uC (a := y1) (b := y2) (by omega) (by omega)
  have zx : uC 0 = words [0, 0, 0, 0] := uC_lit (n := 0) (by decide)
  have lu := subM_lt (m := P) (a := y2) (b := y1) h0
  have ld := subM_lt (m := P) (a := x2) (b := x1) h0
  have tail : ∀ (u d : Nat), u < P → d < P → True := fun _ _ _ _ => trivial
  unfold padd
  unfold CvD.v CvD.cells PtD.v PtD.cells ringV HB at *
  dsimp only at *
  cases f1
  · rw [if_neg Bool.false_ne_true]
    cases f2
    · rw [if_neg Bool.false_ne_true]
      refine fn_of_vwp Γok Tryd.func77 (by kernel_rfl) rfl (by simp [Tryd.ntmps77]) (wpv_ok Γok (by kernel_rfl) _ _ _ ?_); conv => whnf
      refine ⟨_, ret_fnH G0ok (r0) [] (res' := .agg (uC P ++ [.ptr 4 0])) rfl rfl rfl rfl rfl trivial (outHB _) rfl rfl (upd := [(4, some [bI false])]) (by rfl), ?_⟩; (conv => whnf); (try (refine ⟨by kernel_rfl, ?_⟩; conv => whnf))
      refine ⟨_, ret_fnH G0ok (up1) [4] (res' := uV (subM P y2 y1)) rfl rfl rfl rfl rfl ⟨trivial, _, rfl, rfl, rfl⟩ (outHB _) rfl rfl (upd := [(4, some [bI false])]) (by rfl), ?_⟩; (conv => whnf); (try (refine ⟨by kernel_rfl, ?_⟩; conv => whnf))
      refine ⟨_, ret_fnH G0ok (dn1) [4] (res' := uV (subM P x2 x1)) rfl rfl rfl rfl rfl ⟨trivial, _, rfl, rfl, rfl⟩ (outHB _) rfl rfl (upd := [(4, some [bI false])]) (by rfl), ?_⟩; (conv => whnf); (try (refine ⟨by kernel_rfl, ?_⟩; conv => whnf))
      refine ⟨_, ex, ?_⟩
      by_cases hx : x1 = x2
      · rw [decide_eq_true hx, if_pos hx]
        conv => whnf
        try (refine ⟨by kernel_rfl, ?_⟩; conv => whnf)
        refine ⟨_, ret_fnH G0ok (ss) [4] (res' := uV (addM P y1 y2)) rfl rfl rfl rfl rfl ⟨trivial, _, rfl, rfl, rfl⟩ (outHB _) rfl rfl (upd := [(4, some [bI false])]) (by rfl), ?_⟩; (conv => whnf); (try (refine ⟨by kernel_rfl, ?_⟩; conv => whnf))
        refine ⟨_, ez, ?_⟩
        by_cases hz : addM P y1 y2 = 0
        · rw [decide_eq_true hz, if_pos hz]
          conv => whnf
          try (refine ⟨by kernel_rfl, ?_⟩; conv => whnf)
          refine ⟨_, rfl, ?_⟩
          unfold farP
          rw [zx]
          rfl
        · rw [decide_eq_false hz, if_neg hz]
          conv => whnf
          try (refine ⟨by kernel_rfl, ?_⟩; conv => whnf)
          refine ⟨_, ey, ?_⟩
          by_cases hy : y1 = y2
          · rw [decide_eq_true hy, if_pos hy]
            conv => whnf
            try (refine ⟨by kernel_rfl, ?_⟩; conv => whnf)
            have l3 : modN 3 P < P := by rw [modN_def]; exact Nat.mod_lt _ h0
            have k3 := rsmall_fnH (n := 3) false (by decide) h0 hP
            have g1 := rmul_fnH false px px hP
            have g2 := rmul_fnH false l3 (mulM_lt (a := x1) (b := x1) h0) hP
            have g3 := radd_fnH false (mulM_lt (m := P) (a := modN 3 P) (b := mulM P x1 x1) h0) hA hP
            have g4 := radd_fnH false py py hP
            have lu2 := addM_lt (m := P) (a := mulM P (modN 3 P) (mulM P x1 x1)) (b := A) h0
            have ld2 := addM_lt (m := P) (a := y1) (b := y1) h0
            unfold ringV HB at *
            refine ⟨_, ret_fnH G0ok (k3) [4] (res' := uV (modN 3 P)) rfl rfl rfl rfl rfl ⟨trivial, _, rfl, rfl, rfl⟩ (outHB _) rfl rfl (upd := [(4, some [bI false])]) (by rfl), ?_⟩; (conv => whnf); (try (refine ⟨by kernel_rfl, ?_⟩; conv => whnf))
            refine ⟨_, ret_fnH G0ok (g1) [4] (res' := uV (mulM P x1 x1)) rfl rfl rfl rfl rfl ⟨trivial, _, rfl, rfl, rfl⟩ (outHB _) rfl rfl (upd := [(4, some [bI false])]) (by rfl), ?_⟩; (conv => whnf); (try (refine ⟨by kernel_rfl, ?_⟩; conv => whnf))
            refine ⟨_, ret_fnH G0ok (g2) [4] (res' := uV (mulM P (modN 3 P) (mulM P x1 x1))) rfl rfl rfl rfl rfl ⟨trivial, _, rfl, rfl, rfl⟩ (outHB _) rfl rfl (upd := [(4, some [bI false])]) (by rfl), ?_⟩; (conv => whnf); (try (refine ⟨by kernel_rfl, ?_⟩; conv => whnf))
            refine ⟨_, ret_fnH G0ok (g3) [4] (res' := uV (addM P (mulM P (modN 3 P) (mulM P x1 x1)) A)) rfl rfl rfl rfl rfl ⟨trivial, _, rfl, rfl, rfl⟩ (outHB _) rfl rfl (upd := [(4, some [bI false])]) (by rfl), ?_⟩; (conv => whnf); (try (refine ⟨by kernel_rfl, ?_⟩; conv => whnf))
            refine ⟨_, ret_fnH G0ok (g4) [4] (res' := uV (addM P y1 y1)) rfl rfl rfl rfl rfl ⟨trivial, _, rfl, rfl, rfl⟩ (outHB _) rfl rfl (upd := [(4, some [bI false])]) (by rfl), ?_⟩; (conv => whnf); (try (refine ⟨by kernel_rfl, ?_⟩; conv => whnf))
            by_cases hg : Nat.gcd (addM P y1 y1) P = 1
            · rw [if_pos hg]
              unfold chordP
              have lv := (invM_ok (ld2) hg).1
              have i1 := rinv_ok false (ld2) hP hg
              have ls := mulM_lt (m := P) (a := addM P (mulM P (modN 3 P) (mulM P x1 x1)) A) (b := invM P (addM P y1 y1)) h0
              have m1 := rmul_fnH false (lu2) lv hP
              have m2 := rmul_fnH false ls ls hP
              have s1 := rsub_fnH false (mulM_lt (a := mulM P (addM P (mulM P (modN 3 P) (mulM P x1 x1)) A) (invM P (addM P y1 y1))) (b := mulM P (addM P (mulM P (modN 3 P) (mulM P x1 x1)) A) (invM P (addM P y1 y1))) h0) px hP
              have s2 := rsub_fnH false (subM_lt (a := mulM P (mulM P (addM P (mulM P (modN 3 P) (mulM P x1 x1)) A) (invM P (addM P y1 y1))) (mulM P (addM P (mulM P (modN 3 P) (mulM P x1 x1)) A) (invM P (addM P y1 y1)))) (b := x1) h0) qx hP
              refine gen_ex (mulM P (addM P (mulM P (modN 3 P) (mulM P x1 x1)) A) (invM P (addM P y1 y1))) fun s es => ?_
              rw [← es] at ls m1 m2 s1 s2 ⊢
              clear es
              refine gen_ex (subM P (subM P (mulM P s s) x1) x2) fun x3 ex3 => ?_
              have lx : x3 < P := ex3 ▸ subM_lt h0
              rw [← ex3] at s2 ⊢
              clear ex3
              have s3 := rsub_fnH false px lx hP
              have m3 := rmul_fnH false ls (subM_lt (a := x1) (b := x3) h0) hP
              have s4 := rsub_fnH false (mulM_lt (a := s) (b := subM P x1 x3) h0) py hP
              unfold ringV HB at *
              refine ⟨_, ret_fnH G0ok (i1) [4] (res' := uV (invM P (addM P y1 y1))) rfl rfl rfl rfl rfl ⟨trivial, _, rfl, rfl, rfl⟩ (outHB _) rfl rfl (upd := [(4, some [bI false])]) (by rfl), ?_⟩; (conv => whnf); (try (refine ⟨by kernel_rfl, ?_⟩; conv => whnf))
              refine ⟨_, ret_fnH G0ok (m1) [4] (res' := uV s) rfl rfl rfl rfl rfl ⟨trivial, _, rfl, rfl, rfl⟩ (outHB _) rfl rfl (upd := [(4, some [bI false])]) (by rfl), ?_⟩; (conv => whnf); (try (refine ⟨by kernel_rfl, ?_⟩; conv => whnf))
              refine ⟨_, ret_fnH G0ok (m2) [4] (res' := uV (mulM P s s)) rfl rfl rfl rfl rfl ⟨trivial, _, rfl, rfl, rfl⟩ (outHB _) rfl rfl (upd := [(4, some [bI false])]) (by rfl), ?_⟩; (conv => whnf); (try (refine ⟨by kernel_rfl, ?_⟩; conv => whnf))
              refine ⟨_, ret_fnH G0ok (s1) [4] (res' := uV (subM P (mulM P s s) x1)) rfl rfl rfl rfl rfl ⟨trivial, _, rfl, rfl, rfl⟩ (outHB _) rfl rfl (upd := [(4, some [bI false])]) (by rfl), ?_⟩; (conv => whnf); (try (refine ⟨by kernel_rfl, ?_⟩; conv => whnf))
              refine ⟨_, ret_fnH G0ok (s2) [4] (res' := uV x3) rfl rfl rfl rfl rfl ⟨trivial, _, rfl, rfl, rfl⟩ (outHB _) rfl rfl (upd := [(4, some [bI false])]) (by rfl), ?_⟩; (conv => whnf); (try (refine ⟨by kernel_rfl, ?_⟩; conv => whnf))
              refine ⟨_, ret_fnH G0ok (s3) [4] (res' := uV (subM P x1 x3)) rfl rfl rfl rfl rfl ⟨trivial, _, rfl, rfl, rfl⟩ (outHB _) rfl rfl (upd := [(4, some [bI false])]) (by rfl), ?_⟩; (conv => whnf); (try (refine ⟨by kernel_rfl, ?_⟩; conv => whnf))
              refine ⟨_, ret_fnH G0ok (m3) [4] (res' := uV (mulM P s (subM P x1 x3))) rfl rfl rfl rfl rfl ⟨trivial, _, rfl, rfl, rfl⟩ (outHB _) rfl rfl (upd := [(4, some [bI false])]) (by rfl), ?_⟩; (conv => whnf); (try (refine ⟨by kernel_rfl, ?_⟩; conv => whnf))
              refine ⟨_, ret_fnH G0ok (s4) [4] (res' := uV (subM P (mulM P s (subM P x1 x3)) y1)) rfl rfl rfl rfl rfl ⟨trivial, _, rfl, rfl, rfl⟩ (outHB _) rfl rfl (upd := [(4, some [bI false])]) (by rfl), ?_⟩; (conv => whnf); (try (refine ⟨by kernel_rfl, ?_⟩; conv => whnf))
              exact ⟨_, rfl, rfl⟩
            · rw [if_neg hg]
              have i1 := rinv_bad false (ld2) hP hg
              have ls := mulM_lt (m := P) (a := addM P (mulM P (modN 3 P) (mulM P x1 x1)) A) (b := 0) h0
              have m1 := rmul_fnH true (lu2) h0 hP
              have m2 := rmul_fnH true ls ls hP
              have s1 := rsub_fnH true (mulM_lt (a := mulM P (addM P (mulM P (modN 3 P) (mulM P x1 x1)) A) 0) (b := mulM P (addM P (mulM P (modN 3 P) (mulM P x1 x1)) A) 0) h0) px hP
              have s2 := rsub_fnH true (subM_lt (a := mulM P (mulM P (addM P (mulM P (modN 3 P) (mulM P x1 x1)) A) 0) (mulM P (addM P (mulM P (modN 3 P) (mulM P x1 x1)) A) 0)) (b := x1) h0) qx hP
              refine gen_ex (mulM P (addM P (mulM P (modN 3 P) (mulM P x1 x1)) A) 0) fun s es => ?_
              rw [← es] at ls m1 m2 s1 s2
              clear es
              refine gen_ex (subM P (subM P (mulM P s s) x1) x2) fun x3 ex3 => ?_
              have lx : x3 < P := ex3 ▸ subM_lt h0
              rw [← ex3] at s2
              clear ex3
              have s3 := rsub_fnH true px lx hP
              have m3 := rmul_fnH true ls (subM_lt (a := x1) (b := x3) h0) hP
              have s4 := rsub_fnH true (mulM_lt (a := s) (b := subM P x1 x3) h0) py hP
              unfold ringV HB at *
              refine ⟨_, ret_fnH G0ok (i1) [4] (res' := uV 0) rfl rfl rfl rfl rfl ⟨trivial, _, rfl, rfl, rfl⟩ (outHB _) rfl rfl (upd := [(4, some [bI true])]) (by rfl), ?_⟩; (conv => whnf); (try (refine ⟨by kernel_rfl, ?_⟩; conv => whnf))
              refine ⟨_, ret_fnH G0ok (m1) [4] (res' := uV s) rfl rfl rfl rfl rfl ⟨trivial, _, rfl, rfl, rfl⟩ (outHB _) rfl rfl (upd := [(4, some [bI true])]) (by rfl), ?_⟩; (conv => whnf); (try (refine ⟨by kernel_rfl, ?_⟩; conv => whnf))
              refine ⟨_, ret_fnH G0ok (m2) [4] (res' := uV (mulM P s s)) rfl rfl rfl rfl rfl ⟨trivial, _, rfl, rfl, rfl⟩ (outHB _) rfl rfl (upd := [(4, some [bI true])]) (by rfl), ?_⟩; (conv => whnf); (try (refine ⟨by kernel_rfl, ?_⟩; conv => whnf))
              refine ⟨_, ret_fnH G0ok (s1) [4] (res' := uV (subM P (mulM P s s) x1)) rfl rfl rfl rfl rfl ⟨trivial, _, rfl, rfl, rfl⟩ (outHB _) rfl rfl (upd := [(4, some [bI true])]) (by rfl), ?_⟩; (conv => whnf); (try (refine ⟨by kernel_rfl, ?_⟩; conv => whnf))
              refine ⟨_, ret_fnH G0ok (s2) [4] (res' := uV x3) rfl rfl rfl rfl rfl ⟨trivial, _, rfl, rfl, rfl⟩ (outHB _) rfl rfl (upd := [(4, some [bI true])]) (by rfl), ?_⟩; (conv => whnf); (try (refine ⟨by kernel_rfl, ?_⟩; conv => whnf))
              refine ⟨_, ret_fnH G0ok (s3) [4] (res' := uV (subM P x1 x3)) rfl rfl rfl rfl rfl ⟨trivial, _, rfl, rfl, rfl⟩ (outHB _) rfl rfl (upd := [(4, some [bI true])]) (by rfl), ?_⟩; (conv => whnf); (try (refine ⟨by kernel_rfl, ?_⟩; conv => whnf))
              refine ⟨_, ret_fnH G0ok (m3) [4] (res' := uV (mulM P s (subM P x1 x3))) rfl rfl rfl rfl rfl ⟨trivial, _, rfl, rfl, rfl⟩ (outHB _) rfl rfl (upd := [(4, some [bI true])]) (by rfl), ?_⟩; (conv => whnf); (try (refine ⟨by kernel_rfl, ?_⟩; conv => whnf))
              refine ⟨_, ret_fnH G0ok (s4) [4] (res' := uV (subM P (mulM P s (subM P x1 x3)) y1)) rfl rfl rfl rfl rfl ⟨trivial, _, rfl, rfl, rfl⟩ (outHB _) rfl rfl (upd := [(4, some [bI true])]) (by rfl), ?_⟩; (conv => whnf); (try (refine ⟨by kernel_rfl, ?_⟩; conv => whnf))
              refine ⟨_, rfl, ?_⟩
              unfold nilP
              rw [zx]
              rfl
          · rw [decide_eq_false hy, if_neg hy]
            conv => whnf
            try (refine ⟨by kernel_rfl, ?_⟩; conv => whnf)
            refine ⟨_, rfl, ?_⟩
            unfold nilP
            rw [zx]
            rfl
      · rw [decide_eq_false hx, if_neg hx]
        conv => whnf
        try (refine ⟨by kernel_rfl, ?_⟩; conv => whnf)
        by_cases hg : Nat.gcd (subM P x2 x1) P = 1
        · rw [if_pos hg]
          unfold chordP
          have lv := (invM_ok (ld) hg).1
          have i1 := rinv_ok false (ld) hP hg
          have ls := mulM_lt (m := P) (a := subM P y2 y1) (b := invM P (subM P x2 x1)) h0
          have m1 := rmul_fnH false (lu) lv hP
          have m2 := rmul_fnH false ls ls hP
          have s1 := rsub_fnH false (mulM_lt (a := mulM P (subM P y2 y1) (invM P (subM P x2 x1))) (b := mulM P (subM P y2 y1) (invM P (subM P x2 x1))) h0) px hP
          have s2 := rsub_fnH false (subM_lt (a := mulM P (mulM P (subM P y2 y1) (invM P (subM P x2 x1))) (mulM P (subM P y2 y1) (invM P (subM P x2 x1)))) (b := x1) h0) qx hP
          refine gen_ex (mulM P (subM P y2 y1) (invM P (subM P x2 x1))) fun s es => ?_
          rw [← es] at ls m1 m2 s1 s2 ⊢
          clear es
          refine gen_ex (subM P (subM P (mulM P s s) x1) x2) fun x3 ex3 => ?_
          have lx : x3 < P := ex3 ▸ subM_lt h0
          rw [← ex3] at s2 ⊢
          clear ex3
          have s3 := rsub_fnH false px lx hP
          have m3 := rmul_fnH false ls (subM_lt (a := x1) (b := x3) h0) hP
          have s4 := rsub_fnH false (mulM_lt (a := s) (b := subM P x1 x3) h0) py hP
          unfold ringV HB at *
          refine ⟨_, ret_fnH G0ok (i1) [4] (res' := uV (invM P (subM P x2 x1))) rfl rfl rfl rfl rfl ⟨trivial, _, rfl, rfl, rfl⟩ (outHB _) rfl rfl (upd := [(4, some [bI false])]) (by rfl), ?_⟩; (conv => whnf); (try (refine ⟨by kernel_rfl, ?_⟩; conv => whnf))
          refine ⟨_, ret_fnH G0ok (m1) [4] (res' := uV s) rfl rfl rfl rfl rfl ⟨trivial, _, rfl, rfl, rfl⟩ (outHB _) rfl rfl (upd := [(4, some [bI false])]) (by rfl), ?_⟩; (conv => whnf); (try (refine ⟨by kernel_rfl, ?_⟩; conv => whnf))
          refine ⟨_, ret_fnH G0ok (m2) [4] (res' := uV (mulM P s s)) rfl rfl rfl rfl rfl ⟨trivial, _, rfl, rfl, rfl⟩ (outHB _) rfl rfl (upd := [(4, some [bI false])]) (by rfl), ?_⟩; (conv => whnf); (try (refine ⟨by kernel_rfl, ?_⟩; conv => whnf))
          refine ⟨_, ret_fnH G0ok (s1) [4] (res' := uV (subM P (mulM P s s) x1)) rfl rfl rfl rfl rfl ⟨trivial, _, rfl, rfl, rfl⟩ (outHB _) rfl rfl (upd := [(4, some [bI false])]) (by rfl), ?_⟩; (conv => whnf); (try (refine ⟨by kernel_rfl, ?_⟩; conv => whnf))
          refine ⟨_, ret_fnH G0ok (s2) [4] (res' := uV x3) rfl rfl rfl rfl rfl ⟨trivial, _, rfl, rfl, rfl⟩ (outHB _) rfl rfl (upd := [(4, some [bI false])]) (by rfl), ?_⟩; (conv => whnf); (try (refine ⟨by kernel_rfl, ?_⟩; conv => whnf))
          refine ⟨_, ret_fnH G0ok (s3) [4] (res' := uV (subM P x1 x3)) rfl rfl rfl rfl rfl ⟨trivial, _, rfl, rfl, rfl⟩ (outHB _) rfl rfl (upd := [(4, some [bI false])]) (by rfl), ?_⟩; (conv => whnf); (try (refine ⟨by kernel_rfl, ?_⟩; conv => whnf))
          refine ⟨_, ret_fnH G0ok (m3) [4] (res' := uV (mulM P s (subM P x1 x3))) rfl rfl rfl rfl rfl ⟨trivial, _, rfl, rfl, rfl⟩ (outHB _) rfl rfl (upd := [(4, some [bI false])]) (by rfl), ?_⟩; (conv => whnf); (try (refine ⟨by kernel_rfl, ?_⟩; conv => whnf))
          refine ⟨_, ret_fnH G0ok (s4) [4] (res' := uV (subM P (mulM P s (subM P x1 x3)) y1)) rfl rfl rfl rfl rfl ⟨trivial, _, rfl, rfl, rfl⟩ (outHB _) rfl rfl (upd := [(4, some [bI false])]) (by rfl), ?_⟩; (conv => whnf); (try (refine ⟨by kernel_rfl, ?_⟩; conv => whnf))
          exact ⟨_, rfl, rfl⟩
        · rw [if_neg hg]
          have i1 := rinv_bad false (ld) hP hg
          have ls := mulM_lt (m := P) (a := subM P y2 y1) (b := 0) h0
          have m1 := rmul_fnH true (lu) h0 hP
          have m2 := rmul_fnH true ls ls hP
          have s1 := rsub_fnH true (mulM_lt (a := mulM P (subM P y2 y1) 0) (b := mulM P (subM P y2 y1) 0) h0) px hP
          have s2 := rsub_fnH true (subM_lt (a := mulM P (mulM P (subM P y2 y1) 0) (mulM P (subM P y2 y1) 0)) (b := x1) h0) qx hP
          refine gen_ex (mulM P (subM P y2 y1) 0) fun s es => ?_
          rw [← es] at ls m1 m2 s1 s2
          clear es
          refine gen_ex (subM P (subM P (mulM P s s) x1) x2) fun x3 ex3 => ?_
          have lx : x3 < P := ex3 ▸ subM_lt h0
          rw [← ex3] at s2
          clear ex3
          have s3 := rsub_fnH true px lx hP
          have m3 := rmul_fnH true ls (subM_lt (a := x1) (b := x3) h0) hP
          have s4 := rsub_fnH true (mulM_lt (a := s) (b := subM P x1 x3) h0) py hP
          unfold ringV HB at *
          refine ⟨_, ret_fnH G0ok (i1) [4] (res' := uV 0) rfl rfl rfl rfl rfl ⟨trivial, _, rfl, rfl, rfl⟩ (outHB _) rfl rfl (upd := [(4, some [bI true])]) (by rfl), ?_⟩; (conv => whnf); (try (refine ⟨by kernel_rfl, ?_⟩; conv => whnf))
          refine ⟨_, ret_fnH G0ok (m1) [4] (res' := uV s) rfl rfl rfl rfl rfl ⟨trivial, _, rfl, rfl, rfl⟩ (outHB _) rfl rfl (upd := [(4, some [bI true])]) (by rfl), ?_⟩; (conv => whnf); (try (refine ⟨by kernel_rfl, ?_⟩; conv => whnf))
          refine ⟨_, ret_fnH G0ok (m2) [4] (res' := uV (mulM P s s)) rfl rfl rfl rfl rfl ⟨trivial, _, rfl, rfl, rfl⟩ (outHB _) rfl rfl (upd := [(4, some [bI true])]) (by rfl), ?_⟩; (conv => whnf); (try (refine ⟨by kernel_rfl, ?_⟩; conv => whnf))
          refine ⟨_, ret_fnH G0ok (s1) [4] (res' := uV (subM P (mulM P s s) x1)) rfl rfl rfl rfl rfl ⟨trivial, _, rfl, rfl, rfl⟩ (outHB _) rfl rfl (upd := [(4, some [bI true])]) (by rfl), ?_⟩; (conv => whnf); (try (refine ⟨by kernel_rfl, ?_⟩; conv => whnf))
          refine ⟨_, ret_fnH G0ok (s2) [4] (res' := uV x3) rfl rfl rfl rfl rfl ⟨trivial, _, rfl, rfl, rfl⟩ (outHB _) rfl rfl (upd := [(4, some [bI true])]) (by rfl), ?_⟩; (conv => whnf); (try (refine ⟨by kernel_rfl, ?_⟩; conv => whnf))
          refine ⟨_, ret_fnH G0ok (s3) [4] (res' := uV (subM P x1 x3)) rfl rfl rfl rfl rfl ⟨trivial, _, rfl, rfl, rfl⟩ (outHB _) rfl rfl (upd := [(4, some [bI true])]) (by rfl), ?_⟩; (conv => whnf); (try (refine ⟨by kernel_rfl, ?_⟩; conv => whnf))
          refine ⟨_, ret_fnH G0ok (m3) [4] (res' := uV (mulM P s (subM P x1 x3))) rfl rfl rfl rfl rfl ⟨trivial, _, rfl, rfl, rfl⟩ (outHB _) rfl rfl (upd := [(4, some [bI true])]) (by rfl), ?_⟩; (conv => whnf); (try (refine ⟨by kernel_rfl, ?_⟩; conv => whnf))
          refine ⟨_, ret_fnH G0ok (s4) [4] (res' := uV (subM P (mulM P s (subM P x1 x3)) y1)) rfl rfl rfl rfl rfl ⟨trivial, _, rfl, rfl, rfl⟩ (outHB _) rfl rfl (upd := [(4, some [bI true])]) (by rfl), ?_⟩; (conv => whnf); (try (refine ⟨by kernel_rfl, ?_⟩; conv => whnf))
          refine ⟨_, rfl, ?_⟩
          unfold nilP
          rw [zx]
          rfl
    · rw [if_pos rfl]
      refine fn_of_vwp Γok Tryd.func77 (by kernel_rfl) rfl (by simp [Tryd.ntmps77]) (wpv_ok Γok (by kernel_rfl) _ _ _ ?_); conv => whnf
      exact ⟨_, rfl, rfl⟩
  · rw [if_pos rfl]
    refine fn_of_vwp Γok Tryd.func77 (by kernel_rfl) rfl (by simp [Tryd.ntmps77]) (wpv_ok Γok (by kernel_rfl) _ _ _ ?_); conv => whnf
    exact ⟨_, rfl, rfl⟩
end Go.Proofs.YtidkdlaihmpjfaaDoor
namespace Go.Proofs.YtidkdlaihmpjfaaDoor
set_option linter.unusedVariables false
set_option linter.unusedSimpArgs false
set_option linter.unusedSectionVars false
open Go.ChangeShapes Go.WideShapes Go.ChangeAt Go.RowKit Go.Joins
set_option maxRecDepth 10000
theorem cadd_ok {c : CvD} (g : Good c) {p q r : PtD} (hp : OnP c p) (hq : OnP c q) (h : padd c p q = (r, true)) : FnV Tryd.prog G0 89 [c.v, p.v, q.v] (.tup [r.v, nI .i64 0]) := by
  have f := cfault2_fn g hp hq
  have s := padd_fn g hp.lt hq.lt
  rw [h] at s
  unfold CvD.v CvD.cells PtD.v PtD.cells at *
  refine fn_of_vwp Γok Tryd.func89 (by kernel_rfl) rfl (by simp [Tryd.ntmps89]) (wpv_ok Γok (by kernel_rfl) _ _ _ ?_); conv => whnf
  refine .read 2 ((uC p.x ++ (uC p.y ++ [bI p.far])) ++ (uC q.x ++ (uC q.y ++ [bI q.far]))) (by rfl) (by rfl) (by rfl) (by rfl) ?_
  conv => whnf
  try (refine ⟨by kernel_rfl, ?_⟩; conv => whnf)
  refine ⟨_, ret_of_fn G0ok (f) (by first | rfl | simp only [noHs, noH, nI, bI, Bool.and_self, Bool.and_true, Bool.true_and, ]) (by first | rfl | simp only [noHs, noH, nI, bI, Bool.and_self, Bool.and_true, Bool.true_and, ]), ?_⟩; (conv => whnf); (try (refine ⟨by kernel_rfl, ?_⟩; conv => whnf))
  refine ⟨_, ret_of_fn G0ok (s) (by first | rfl | simp only [noHs, noH, nI, bI, Bool.and_self, Bool.and_true, Bool.true_and, ]) (by first | rfl | simp only [noHs, noH, nI, bI, Bool.and_self, Bool.and_true, Bool.true_and, ]), ?_⟩; (conv => whnf); (try (refine ⟨by kernel_rfl, ?_⟩; conv => whnf))
  exact ⟨_, rfl, rfl⟩
/-- What a multiple is. -/
structure Steps2 (c : CvD) (p : PtD) (k : Nat) (e : Nat → PtD) : Prop where
  zero : e 0 = farP
  twice : ∀ v, 2 * v ≤ k → padd c (e v) (e v) = (e (2 * v), true)
  more : ∀ v, 2 * v + 1 ≤ k → padd c (e (2 * v)) p = (e (2 * v + 1), true)
  lt : ∀ v, v ≤ k → (e v).lt c.P
theorem mult_ok {c : CvD} (g : Good c) {p : PtD} (hp : OnP c p) {k : Nat} (hk : k < T256) {e : Nat → PtD} (he : Steps2 c p k e) : FnV Tryd.prog G0 51 [c.v, uV k, p.v] (.tup [(e k).v, nI .i64 0]) := by
  have f := cfault1_fn g hp
  have hP := g.P
  have hf0 : uC farP.x ++ (uC farP.y ++ [bI farP.far]) = words [0, 0, 0, 0, 0, 0, 0, 0] ++ [bI true] := by
    unfold farP
    rw [uC_lit (n := 0) (by decide)]
    rfl
  have stp := fun v => padd_fn g (p := e v) (q := e v)
  have stq := fun v => padd_fn g (p := e v) (q := p)
  unfold CvD.v CvD.cells PtD.v PtD.cells at *
  refine fn_of_vwp Γok Tryd.func51 (by kernel_rfl) rfl (by simp [Tryd.ntmps51]) (wpv_ok Γok (by kernel_rfl) _ _ _ ?_); conv => whnf
  refine .read 1 (uC p.x ++ (uC p.y ++ [bI p.far])) (by rfl) (by rfl) (by rfl) (by rfl) ?_
  conv => whnf
  try (refine ⟨by kernel_rfl, ?_⟩; conv => whnf)
  refine ⟨_, ret_of_fn G0ok (f) (by first | rfl | simp only [noHs, noH, nI, bI, Bool.and_self, Bool.and_true, Bool.true_and, ]) (by first | rfl | simp only [noHs, noH, nI, bI, Bool.and_self, Bool.and_true, Bool.true_and, ]), ?_⟩; (conv => whnf); (try (refine ⟨by kernel_rfl, ?_⟩; conv => whnf))
  refine vloop_invK G0ok [(0, some 0), (1, some 1), (2, some 2), (3, some 3), (4, some 5)] 5 (X := Nat)
    (fun j => [(11, nI .i64 ((j : Int) - 1)), (10, bI true), (9, .ptr 4 0), (7, nI .i64 0), (6, .ptr 3 0), (5, .ptr 2 0), (4, .ptr 1 0), (3, .ptr 0 0)])
    (fun j => [(0, some (uC c.P ++ (uC c.A ++ (uC c.B ++ (uC c.N ++ (uC c.X ++ (uC c.Y ++ [bI false]))))))), (1, some (uC k)), (2, some (uC p.x ++ (uC p.y ++ [bI p.far]))), (3, some (words [0, 0, 0, 0, 0, 0, 0, 0] ++ [bI false])), (4, some (uC (e (k / 2 ^ j)).x ++ (uC (e (k / 2 ^ j)).y ++ [bI (e (k / 2 ^ j)).far])))])
    (fun j => j ≤ 256) (fun j => j) 256 rfl ⟨⟨_, rfl, conv_nI (rfl)⟩, ⟨_, rfl, .same rfl⟩, ⟨_, rfl, .ptr rfl⟩, ⟨_, rfl, conv_nI (rfl)⟩, ⟨_, rfl, .ptr rfl⟩, ⟨_, rfl, .ptr rfl⟩, ⟨_, rfl, .ptr rfl⟩, ⟨_, rfl, .ptr rfl⟩, trivial⟩ ⟨.inr ⟨_, _, rfl, rfl, .same rfl⟩, .inr ⟨_, _, rfl, rfl, .same rfl⟩, .inr ⟨_, _, rfl, rfl, .same rfl⟩, .inr ⟨_, _, rfl, rfl, .same rfl⟩, .inr ⟨_, _, rfl, rfl, convs_eq (by rw [Nat.div_eq_of_lt (show k < 2 ^ 256 from hk), he.zero]; exact hf0.symm) (rfl)⟩, trivial⟩ (Nat.le_refl _) ?_
  intro j hj
  dsimp only at hj ⊢
  refine wpv_ok Γok (by kernel_rfl) _ _ _ ?_; conv => whnf
  by_cases hc : j = 0
  · subst hc
    conv => whnf
    try (refine ⟨by kernel_rfl, ?_⟩; conv => whnf)
    rw [Nat.pow_zero, Nat.div_one]
    exact ⟨_, rfl, rfl⟩
  · obtain ⟨i, rfl⟩ : ∃ i, j = i + 1 := ⟨j - 1, by omega⟩
    have hb := bit_down (b := k) (i := i / 64) (k := i % 64) (by omega) (by omega)
    rw [show 64 * (i / 64) + i % 64 = i by omega, show 64 * (i / 64) + (i % 64 + 1) = i + 1 by omega] at hb
    have hle : k / 2 ^ i ≤ k := Nat.div_le_self _ _
    have hle2 : k / 2 ^ (i + 1) ≤ k := Nat.div_le_self _ _
    have hl64 := lim_lt k (i / 64)
    have ht2 : lim k (i / 64) / 2 ^ (i % 64) < 2 ^ 64 := Nat.lt_of_le_of_lt (Nat.div_le_self _ _) (by rw [← B64_eq]; exact hl64)
    have s1 := stp (k / 2 ^ (i + 1)) (he.lt _ hle2) (he.lt _ hle2)
    rw [he.twice _ (by omega)] at s1
    rw [show ((i + 1 : Nat) : Int) - 1 = (i : Int) from by omega, decide_eq_true (show (i : Int) ≥ 0 by omega)]
    conv => whnf
    try (refine ⟨by kernel_rfl, ?_⟩; conv => whnf)
    refine ⟨_, ret_of_fn G0ok (s1) (by first | rfl | simp only [noHs, noH, nI, bI, Bool.and_self, Bool.and_true, Bool.true_and, ]) (by first | rfl | simp only [noHs, noH, nI, bI, Bool.and_self, Bool.and_true, Bool.true_and, ]), ?_⟩; (conv => whnf); (try (refine ⟨by kernel_rfl, ?_⟩; conv => whnf))
    rw [Int.tdiv_eq_ediv_of_nonneg (by omega), ws_i64 (by omega) (by omega)]
    conv => whnf
    try (refine ⟨by kernel_rfl, ?_⟩; conv => whnf)
    refine bindP_intro (if_pos (inB_ok (by omega) (by omega))) ?_; conv => whnf
    refine bindP_intro (words_ix (i := i / 64) (by dsimp only; omega) (by simp; omega)) ?_
    conv => whnf
    try (refine ⟨by kernel_rfl, ?_⟩; conv => whnf)
    rw [Int.tmod_eq_emod_of_nonneg (by omega), show (i : Int) % 64 = ((i % 64 : Nat) : Int) from by omega, limC_getD _ (by omega)]
    conv => whnf
    try (refine ⟨by kernel_rfl, ?_⟩; conv => whnf)
    rw [shr_val (k := .u64) (x := lim k (i / 64)) (n := i % 64) (by simp only [IntKind.bits]; omega), u64_and1 ht2, show (((lim k (i / 64) / 2 ^ (i % 64) % 2 : Nat) : Int) == 1) = decide (lim k (i / 64) / 2 ^ (i % 64) % 2 = 1) from beq_lit _ 1]
    refine gen_ex (lim k (i / 64) / 2 ^ (i % 64) % 2) fun t et => ?_
    have ht : t ≤ 1 := by omega
    rw [← et] at hb ⊢
    clear et ht2
    by_cases h1 : t = 1
    · subst h1
      have s2 := stq (2 * (k / 2 ^ (i + 1))) (he.lt _ (by omega)) hp.lt
      rw [he.more _ (by omega)] at s2
      rw [decide_eq_true rfl]
      conv => whnf
      try (refine ⟨by kernel_rfl, ?_⟩; conv => whnf)
      refine ⟨_, ret_of_fn G0ok (s2) (by first | rfl | simp only [noHs, noH, nI, bI, Bool.and_self, Bool.and_true, Bool.true_and, ]) (by first | rfl | simp only [noHs, noH, nI, bI, Bool.and_self, Bool.and_true, Bool.true_and, ]), ?_⟩; (conv => whnf); (try (refine ⟨by kernel_rfl, ?_⟩; conv => whnf))
      refine next_round (y := i + 1) G0ok i [(0, some 0), (1, some 1), (2, some 2), (3, some 3), (4, some 4)] rfl ⟨⟨_, rfl, conv_nI (ws_i64 (by omega) (by omega))⟩, ⟨_, rfl, .same rfl⟩, ⟨_, rfl, .ptr rfl⟩, ⟨_, rfl, conv_nI (rfl)⟩, ⟨_, rfl, .ptr rfl⟩, ⟨_, rfl, .ptr rfl⟩, ⟨_, rfl, .ptr rfl⟩, ⟨_, rfl, .ptr rfl⟩, trivial⟩ ⟨.inr ⟨_, _, rfl, rfl, .same rfl⟩, .inr ⟨_, _, rfl, rfl, .same rfl⟩, .inr ⟨_, _, rfl, rfl, .same rfl⟩, .inr ⟨_, _, rfl, rfl, .same rfl⟩, .inr ⟨_, _, rfl, rfl, convs_eq (by rw [hb]) (rfl)⟩, trivial⟩ (by omega) (by omega)
    · have h0 : t = 0 := by omega
      subst h0
      rw [decide_eq_false h1]
      conv => whnf
      try (refine ⟨by kernel_rfl, ?_⟩; conv => whnf)
      refine next_round (y := i + 1) G0ok i [(0, some 0), (1, some 1), (2, some 2), (3, some 3), (4, some 4)] rfl ⟨⟨_, rfl, conv_nI (ws_i64 (by omega) (by omega))⟩, ⟨_, rfl, .same rfl⟩, ⟨_, rfl, .ptr rfl⟩, ⟨_, rfl, conv_nI (rfl)⟩, ⟨_, rfl, .ptr rfl⟩, ⟨_, rfl, .ptr rfl⟩, ⟨_, rfl, .ptr rfl⟩, ⟨_, rfl, .ptr rfl⟩, trivial⟩ ⟨.inr ⟨_, _, rfl, rfl, .same rfl⟩, .inr ⟨_, _, rfl, rfl, .same rfl⟩, .inr ⟨_, _, rfl, rfl, .same rfl⟩, .inr ⟨_, _, rfl, rfl, .same rfl⟩, .inr ⟨_, _, rfl, rfl, convs_eq (by rw [hb]; rfl) (rfl)⟩, trivial⟩ (by omega) (by omega)
end Go.Proofs.YtidkdlaihmpjfaaDoor
namespace Go.Proofs.YtidkdlaihmpjfaaDoor
set_option linter.unusedVariables false
set_option linter.unusedSimpArgs false
set_option linter.unusedSectionVars false
open Go.ChangeShapes Go.WideShapes Go.ChangeAt Go.RowKit Go.Joins
set_option maxRecDepth 10000
noncomputable def secB (c : CvD) (d : Nat) : Bool := !decide (d = 0) && decide (d < c.N)
theorem secret_ok {c : CvD} {d : Nat} (hN : c.N < T256) (h0 : 0 < d) (h : d < c.N) : FnV Tryd.prog G0 50 [c.v, uV d] (bI true) := by
  have nz := ne_zero (a := d) (by omega)
  rw [decide_eq_false (show ¬ d = 0 by omega)] at nz
  have c1 := cmp_fn (a := d) (b := c.N) (by omega) hN
  rw [cmpN_lt h] at c1
  unfold CvD.v CvD.cells
  refine fn_of_vwp Γok Tryd.func50 (by kernel_rfl) rfl (by simp [Tryd.ntmps50]) (wpv_ok Γok (by kernel_rfl) _ _ _ ?_); conv => whnf
  refine ⟨_, nz, ?_⟩
  conv => whnf
  try (refine ⟨by kernel_rfl, ?_⟩; conv => whnf)
  refine ⟨_, ret_of_fn G0ok (c1) (by first | rfl | simp only [noHs, noH, nI, bI, Bool.and_self, Bool.and_true, Bool.true_and, ]) (by first | rfl | simp only [noHs, noH, nI, bI, Bool.and_self, Bool.and_true, Bool.true_and, ]), ?_⟩; (conv => whnf); (try (refine ⟨by kernel_rfl, ?_⟩; conv => whnf))
  exact ⟨_, rfl, rfl⟩
theorem spoint_ok {c : CvD} (g : Good c) {d : Nat} (h0 : 0 < d) (h : d < c.N) {e : Nat → PtD} (hb : OnP c c.base) (he : Steps2 c c.base d e) : FnV Tryd.prog G0 25 [c.v, uV d] (.tup [(e d).v, nI .i64 0]) := by
  have k := chk_ok g
  have s := secret_ok g.N h0 h
  have hN := g.N
  have m := mult_ok g hb (k := d) (by omega) he
  unfold CvD.base at m
  unfold CvD.v CvD.cells PtD.v PtD.cells at *
  dsimp only at *
  refine fn_of_vwp Γok Tryd.func25 (by kernel_rfl) rfl (by simp [Tryd.ntmps25]) (wpv_ok Γok (by kernel_rfl) _ _ _ ?_); conv => whnf
  refine ⟨_, ret_of_fn G0ok (k) (by first | rfl | simp only [noHs, noH, nI, bI, Bool.and_self, Bool.and_true, Bool.true_and, ]) (by first | rfl | simp only [noHs, noH, nI, bI, Bool.and_self, Bool.and_true, Bool.true_and, ]), ?_⟩; (conv => whnf); (try (refine ⟨by kernel_rfl, ?_⟩; conv => whnf))
  refine ⟨_, ret_of_fn G0ok (s) (by first | rfl | simp only [noHs, noH, nI, bI, Bool.and_self, Bool.and_true, Bool.true_and, ]) (by first | rfl | simp only [noHs, noH, nI, bI, Bool.and_self, Bool.and_true, Bool.true_and, ]), ?_⟩; (conv => whnf); (try (refine ⟨by kernel_rfl, ?_⟩; conv => whnf))
  refine ⟨_, ret_of_fn G0ok (m) (by first | rfl | simp only [noHs, noH, nI, bI, Bool.and_self, Bool.and_true, Bool.true_and, ]) (by first | rfl | simp only [noHs, noH, nI, bI, Bool.and_self, Bool.and_true, Bool.true_and, ]), ?_⟩; (conv => whnf); (try (refine ⟨by kernel_rfl, ?_⟩; conv => whnf))
  exact ⟨_, rfl, rfl⟩
end Go.Proofs.YtidkdlaihmpjfaaDoor
namespace Go.Proofs.YtidkdlaihmpjfaaDoor
set_option linter.unusedVariables false
set_option linter.unusedSimpArgs false
set_option linter.unusedSectionVars false
open Go.ChangeShapes Go.WideShapes Go.ChangeAt Go.RowKit Go.Joins
set_option maxRecDepth 10000
theorem rest_fn {a m : Nat} (ha : a < T256) (hm : m < T256) (h0 : 0 < m) : FnV Tryd.prog G0 54 [uV a, uV m] (uV (modN a m)) := by
  have d := div_pos ha hm h0
  refine fn_of_vwp Γok Tryd.func54 (by kernel_rfl) rfl (by simp [Tryd.ntmps54]) (wpv_ok Γok (by kernel_rfl) _ _ _ ?_); conv => whnf
  refine ⟨_, ret_of_fn G0ok (d) (by first | rfl | simp only [noHs, noH, nI, bI, Bool.and_self, Bool.and_true, Bool.true_and, ]) (by first | rfl | simp only [noHs, noH, nI, bI, Bool.and_self, Bool.and_true, Bool.true_and, ]), ?_⟩; (conv => whnf); (try (refine ⟨by kernel_rfl, ?_⟩; conv => whnf))
  exact ⟨_, rfl, rfl⟩
theorem low_fn {c : CvD} {s : Nat} (hN : c.N < T256) (hs : s < T256) : FnV Tryd.prog G0 79 [c.v, uV s] (bI (decide (s ≤ c.N / 2))) := by
  have d := div_pos (a := c.N) (b := 2) hN (by decide) (by decide)
  rw [divN_def, show uV 2 = .agg (words [2, 0, 0, 0]) from congrArg VV.agg (uC_lit (n := 2) (by decide))] at d
  have c1 := cmp_fn (a := s) (b := c.N / 2) hs (by omega)
  have e : decide (cmpN s (c.N / 2) ≤ 0) = decide (s ≤ c.N / 2) := decide_eq_decide.2 cmpN_le
  unfold CvD.v CvD.cells
  refine fn_of_vwp Γok Tryd.func79 (by kernel_rfl) rfl (by simp [Tryd.ntmps79]) (wpv_ok Γok (by kernel_rfl) _ _ _ ?_); conv => whnf
  refine ⟨_, ret_of_fn G0ok (d) (by first | rfl | simp only [noHs, noH, nI, bI, Bool.and_self, Bool.and_true, Bool.true_and, ]) (by first | rfl | simp only [noHs, noH, nI, bI, Bool.and_self, Bool.and_true, Bool.true_and, ]), ?_⟩; (conv => whnf); (try (refine ⟨by kernel_rfl, ?_⟩; conv => whnf))
  refine ⟨_, ret_of_fn G0ok (c1) (by first | rfl | simp only [noHs, noH, nI, bI, Bool.and_self, Bool.and_true, Bool.true_and, ]) (by first | rfl | simp only [noHs, noH, nI, bI, Bool.and_self, Bool.and_true, Bool.true_and, ]), ?_⟩; (conv => whnf); (try (refine ⟨by kernel_rfl, ?_⟩; conv => whnf))
  rw [e]
  exact ⟨_, rfl, rfl⟩
theorem secret_fn {c : CvD} {d : Nat} (hN : c.N < T256) (hd : d < T256) : FnV Tryd.prog G0 50 [c.v, uV d] (bI (secB c d)) := by
  have nz := ne_zero hd
  have c1 := cmp_fn hd hN
  have e : decide (cmpN d c.N < 0) = decide (d < c.N) := decide_eq_decide.2 cmpN_neg
  have es : (secB c d) = (!decide (d = 0) && decide (d < c.N)) := rfl
  rw [es]
  unfold CvD.v CvD.cells
  refine fn_of_vwp Γok Tryd.func50 (by kernel_rfl) rfl (by simp [Tryd.ntmps50]) (wpv_ok Γok (by kernel_rfl) _ _ _ ?_); conv => whnf
  refine ⟨_, nz, ?_⟩
  refine gen_ex (!decide (d = 0)) fun q eq => ?_
  rw [← eq]
  clear eq nz es
  cases q
  · conv => whnf
    try (refine ⟨by kernel_rfl, ?_⟩; conv => whnf)
    exact ⟨_, rfl, rfl⟩
  · conv => whnf
    try (refine ⟨by kernel_rfl, ?_⟩; conv => whnf)
    refine ⟨_, ret_of_fn G0ok (c1) (by first | rfl | simp only [noHs, noH, nI, bI, Bool.and_self, Bool.and_true, Bool.true_and, ]) (by first | rfl | simp only [noHs, noH, nI, bI, Bool.and_self, Bool.and_true, Bool.true_and, ]), ?_⟩; (conv => whnf); (try (refine ⟨by kernel_rfl, ?_⟩; conv => whnf))
    rw [e]
    exact ⟨_, rfl, rfl⟩
/-- A signature. -/
structure SgD where
  R : Nat
  S : Nat
  odd : Int
noncomputable def SgD.cells (s : SgD) : List VV := uC s.R ++ uC s.S ++ [nI .i64 s.odd]
noncomputable def SgD.v (s : SgD) : VV := .agg s.cells
noncomputable def formB (c : CvD) (s : SgD) : Bool := secB c s.R && (secB c s.S && (decide (s.S ≤ c.N / 2) && (decide (0 ≤ s.odd) && decide (s.odd ≤ 3))))
theorem formed_fn {c : CvD} {s : SgD} (hN : c.N < T256) (hR : s.R < T256) (hS : s.S < T256) : FnV Tryd.prog G0 60 [c.v, s.v] (bI (formB c s)) := by
  have s1 := secret_fn hN hR
  have s2 := secret_fn hN hS
  have lo := low_fn hN hS
  have es : formB c s = (secB c s.R && (secB c s.S && (decide (s.S ≤ c.N / 2) && (decide (0 ≤ s.odd) && decide (s.odd ≤ 3))))) := rfl
  rw [es]
  clear es
  refine gen_ex (secB c s.R) fun q1 e1 => ?_
  refine gen_ex (secB c s.S) fun q2 e2 => ?_
  refine gen_ex (decide (s.S ≤ c.N / 2)) fun q3 e3 => ?_
  rw [← e1] at s1
  rw [← e2] at s2
  rw [← e3] at lo
  rw [← e1, ← e2, ← e3]
  clear e1 e2 e3
  unfold CvD.v CvD.cells at *
  unfold SgD.v SgD.cells
  refine fn_of_vwp Γok Tryd.func60 (by kernel_rfl) rfl (by simp [Tryd.ntmps60]) (wpv_ok Γok (by kernel_rfl) _ _ _ ?_); conv => whnf
  refine ⟨_, ret_of_fn G0ok (s1) (by first | rfl | simp only [noHs, noH, nI, bI, Bool.and_self, Bool.and_true, Bool.true_and, ]) (by first | rfl | simp only [noHs, noH, nI, bI, Bool.and_self, Bool.and_true, Bool.true_and, ]), ?_⟩; (conv => whnf); (try (refine ⟨by kernel_rfl, ?_⟩; conv => whnf))
  cases q1
  · conv => whnf
    try (refine ⟨by kernel_rfl, ?_⟩; conv => whnf)
    exact ⟨_, rfl, rfl⟩
  conv => whnf
  try (refine ⟨by kernel_rfl, ?_⟩; conv => whnf)
  refine ⟨_, ret_of_fn G0ok (s2) (by first | rfl | simp only [noHs, noH, nI, bI, Bool.and_self, Bool.and_true, Bool.true_and, ]) (by first | rfl | simp only [noHs, noH, nI, bI, Bool.and_self, Bool.and_true, Bool.true_and, ]), ?_⟩; (conv => whnf); (try (refine ⟨by kernel_rfl, ?_⟩; conv => whnf))
  cases q2
  · conv => whnf
    try (refine ⟨by kernel_rfl, ?_⟩; conv => whnf)
    exact ⟨_, rfl, rfl⟩
  conv => whnf
  try (refine ⟨by kernel_rfl, ?_⟩; conv => whnf)
  refine ⟨_, ret_of_fn G0ok (lo) (by first | rfl | simp only [noHs, noH, nI, bI, Bool.and_self, Bool.and_true, Bool.true_and, ]) (by first | rfl | simp only [noHs, noH, nI, bI, Bool.and_self, Bool.and_true, Bool.true_and, ]), ?_⟩; (conv => whnf); (try (refine ⟨by kernel_rfl, ?_⟩; conv => whnf))
  cases q3
  · conv => whnf
    try (refine ⟨by kernel_rfl, ?_⟩; conv => whnf)
    exact ⟨_, rfl, rfl⟩
  conv => whnf
  try (refine ⟨by kernel_rfl, ?_⟩; conv => whnf)
  by_cases h : 0 ≤ s.odd
  · rw [decide_eq_true h]
    conv => whnf
    try (refine ⟨by kernel_rfl, ?_⟩; conv => whnf)
    exact ⟨_, rfl, rfl⟩
  · rw [decide_eq_false h]
    conv => whnf
    try (refine ⟨by kernel_rfl, ?_⟩; conv => whnf)
    exact ⟨_, rfl, rfl⟩
noncomputable def oddN (c : CvD) (p : PtD) : Nat := p.y % 2 + if c.N ≤ p.x then 2 else 0
noncomputable def flip1 (n : Nat) : Nat := if n % 2 = 0 then n + 1 else n - 1
end Go.Proofs.YtidkdlaihmpjfaaDoor
namespace Go.Proofs.YtidkdlaihmpjfaaDoor
set_option linter.unusedVariables false
set_option linter.unusedSimpArgs false
set_option linter.unusedSectionVars false
open Go.ChangeShapes Go.WideShapes Go.ChangeAt Go.RowKit Go.Joins
set_option maxRecDepth 10000
/-- Cells of bytes. -/
def bts (l : List Nat) : List VV := l.map fun (x : Nat) => nI .u8 x
def bt (l : List Nat) (i : Nat) : Nat := l.getD (i / 8) 0 / 2 ^ (8 * (i % 8)) % 256
def btsTo (l : List Nat) (i : Nat) : List Nat := (List.range 32).map fun j => if 32 - i ≤ j then bt l (31 - j) else 0
theorem bts_noHs (l : List Nat) : noHs (bts l) = true := noHs_map (fun _ => rfl) l
theorem bts_length (l : List Nat) : (bts l).length = l.length := by simp [bts]
theorem bts_set (l : List Nat) (i x : Nat) : (bts l).set i (nI .u8 (x : Int)) = bts (l.set i x) := by simp [bts, List.map_set]
theorem splice_bts {l : List Nat} {j i x : Nat} (h : j = i) (hi : i < l.length) : (bts l).set j (VV.v (.int .u8 (x : Int))) = bts (l.set i x) := by
  subst h
  exact bts_set l j x
theorem btsTo_length (l : List Nat) (i : Nat) : (btsTo l i).length = 32 := by simp [btsTo]
theorem btsTo_set (l : List Nat) (i : Nat) (h : i < 32) : (btsTo l i).set (31 - i) (bt l i) = btsTo l (i + 1) := by
  refine List.ext_getElem (by simp [btsTo]) fun j h1 h2 => ?_
  have hj : j < 32 := by simpa [btsTo] using h2
  simp only [btsTo, List.getElem_set, List.getElem_map, List.getElem_range]
  by_cases e : 31 - i = j
  · rw [if_pos e, if_pos (by omega), show 31 - j = i by omega]
  · rw [if_neg e]
    by_cases e2 : 32 - i ≤ j
    · rw [if_pos e2, if_pos (by omega)]
    · rw [if_neg e2, if_neg (by omega)]
theorem bytes_fn (l : List Nat) (hl : l.length = 4) (hb : ∀ x ∈ l, x < 2 ^ 64) : FnV Tryd.prog G0 52 [.agg (words l)] (.agg (bts (btsTo l 32))) := by
  refine fn_of_vwp Γok Tryd.func52 (by kernel_rfl) rfl (by simp [Tryd.ntmps52]) (wpv_ok Γok (by kernel_rfl) _ _ _ ?_); conv => whnf
  refine vloop_invP (X := Nat) (fun i => ⟨[(5, nI .i64 i), (3, .ptr 2 0), (2, .ptr 1 0), (1, .ptr 0 0)], Tryd.f52.ntmps, [(2, some (bts (btsTo l i))), (1, some (List.replicate 32 (nI .u8 0))), (0, some (words l))], 3⟩)
    (fun i => i ≤ 32) (fun i => 32 - i) 0
    (sub_conv G0ok [(0, some 0), (1, some 1), (2, some 2)] rfl rfl ⟨⟨_, rfl, conv_nI rfl⟩, ⟨_, rfl, .ptr rfl⟩, ⟨_, rfl, .ptr rfl⟩, ⟨_, rfl, .ptr rfl⟩, trivial⟩
      ⟨.inr ⟨_, _, rfl, rfl, convs_eq rfl (bts_noHs _)⟩, .inr ⟨_, _, rfl, rfl, convs_eq rfl rfl⟩, .inr ⟨_, _, rfl, rfl, convs_eq rfl (words_noHs _)⟩, trivial⟩) (Nat.zero_le _) ?_
  intro i hi
  dsimp only at hi ⊢
  refine wpv_ok Γok (by kernel_rfl) _ _ _ ?_; conv => whnf
  refine bool_cases (fun hc => ?_) (fun hc => ?_)
  · have hc := of_decide_eq_true hc
    conv => whnf
    rw [Int.tdiv_eq_ediv_of_nonneg (by omega), ws_i64 (x := (i : Int) / 8) (by omega) (by omega)]
    conv => whnf
    refine bindP_intro (if_pos (inB_ok (by omega) (by omega))) ?_; conv => whnf
    refine bindP_intro (words_ix (i := i / 8) (by dsimp only; omega) (by omega)) ?_
    conv => whnf
    rw [Int.tmod_eq_emod_of_nonneg (by omega), ws_i64 (x := 8 * ((i : Int) % 8)) (by omega) (by omega), show 8 * ((i : Int) % 8) = ((8 * (i % 8) : Nat) : Int) from by omega]
    conv => whnf
    have hx := getD_lt (by omega) hb (i / 8)
    rw [shr_val (k := .u64) (x := l.getD (i / 8) 0) (n := 8 * (i % 8)) (by simp only [IntKind.bits]; omega), ws_u8, show (((l.getD (i / 8) 0 / 2 ^ (8 * (i % 8)) : Nat) : Int) % 256) = ((bt l i : Nat) : Int) from by unfold bt; push_cast; rfl]
    rw [ws_i64 (x := 31 - (i : Int)) (by omega) (by omega)]
    conv => whnf
    refine bindP_intro (if_pos (inB_ok (by omega) (by omega))) ?_; conv => whnf
    refine onlyIf_intro ?_ ?_
    · simp [bts_length, btsTo_length]
    conv => whnf
    rw [splice_bts (i := 31 - i) (by dsimp only; omega) (by rw [btsTo_length]; omega), btsTo_set l i (by omega)]
    conv => whnf
    refine ⟨i + 1, sub_conv G0ok [(0, some 0), (1, some 1), (2, some 2)] rfl rfl ⟨⟨_, rfl, conv_nI (ws_i64 (by omega) (by omega))⟩, ⟨_, rfl, .ptr rfl⟩, ⟨_, rfl, .ptr rfl⟩, ⟨_, rfl, .ptr rfl⟩, trivial⟩
      ⟨.inr ⟨_, _, rfl, rfl, convs_eq rfl (bts_noHs _)⟩, .inr ⟨_, _, rfl, rfl, convs_eq rfl rfl⟩, .inr ⟨_, _, rfl, rfl, convs_eq rfl (words_noHs _)⟩, trivial⟩, by omega, by omega⟩
  · have hc := of_decide_eq_false hc
    have hi2 : i = 32 := by omega
    subst hi2
    conv => whnf
    exact ⟨_, rfl, rfl⟩
theorem bts_map (l : List Nat) : bts l = (l.map fun (x : Nat) => (x : Int)).map fun x => nI .u8 x := by simp [bts]
theorem eq_b32 {l m : List Nat} (hl : l.length = 32) (hm : m.length = 32) : EqAgg Tryd.prog .eql 36 (bts l) (bts m) (decide (l = m)) := by
  have h := eqAgg_ints (k := .u8) Γok (t := 36) (e := 5) Tryd.underlying36 rfl rfl rfl Tryd.underlying5 (by kernel_rfl) (l.map fun (x : Nat) => (x : Int)) (m.map fun (x : Nat) => (x : Int)) (by simpa using hl) (by simpa using hm)
  rw [← bts_map, ← bts_map] at h
  rw [show decide (l = m) = decide ((l.map fun (x : Nat) => (x : Int)) = m.map fun (x : Nat) => (x : Int)) from decide_eq_decide.2 (map_cast_eq _ _).symm]
  exact h
end Go.Proofs.YtidkdlaihmpjfaaDoor
namespace Go.Proofs.YtidkdlaihmpjfaaDoor
set_option linter.unusedVariables false
set_option linter.unusedSimpArgs false
set_option linter.unusedSectionVars false
open Go.ChangeShapes Go.WideShapes Go.ChangeAt Go.RowKit Go.Joins
set_option maxRecDepth 10000
noncomputable def limL (n : Nat) : List Nat := [lim n 0, lim n 1, lim n 2, lim n 3]
def fromV (c : List Nat) : Nat → Nat
  | 0 => 0
  | i + 1 => fromV c i + c.getD i 0 * 2 ^ (8 * (31 - i))
theorem bts_ix {c : List Nat} {j i : Nat} (h : j = i) (hi : i < c.length) : (bts c)[j]? = some (nI .u8 ((c.getD i 0 : Nat) : Int)) := by
  subst h
  simp [bts, List.getElem?_eq_getElem hi, List.getD]
/-- A byte more, below all that stands. -/
theorem put_byte {v b k : Nat} (hv : v < T256) (hk : k < 32) (hm : v % 2 ^ (8 * (k + 1)) = 0) (hb : b < 256) :
    (limL v).set (k / 8) ((limL v).getD (k / 8) 0 ||| b * 2 ^ (8 * (k % 8))) = limL (v + b * 2 ^ (8 * k)) ∧ v + b * 2 ^ (8 * k) < T256 ∧ (v + b * 2 ^ (8 * k)) % 2 ^ (8 * k) = 0 ∧ b * 2 ^ (8 * (k % 8)) < 2 ^ 64 ∧ (limL v).getD (k / 8) 0 < 2 ^ 64 := by
  obtain ⟨t, rfl⟩ := Nat.dvd_of_mod_eq_zero hm
  have hd : k / 8 < 4 := by omega
  have e1 : 2 ^ (8 * (k + 1)) = B64 ^ (k / 8) * 2 ^ (8 * (k % 8) + 8) := by
    rw [B64_eq, ← Nat.pow_mul, ← Nat.pow_add]
    congr 1; omega
  have e2 : B64 = 2 ^ (8 * (k % 8) + 8) * 2 ^ (56 - 8 * (k % 8)) := by
    rw [B64_eq, ← Nat.pow_add]
    congr 1; omega
  have hB : 0 < B64 ^ (k / 8) := Nat.pow_pos (by decide)
  have e3 : lim (2 ^ (8 * (k + 1)) * t) (k / 8) = 2 ^ (8 * (k % 8) + 8) * (t % 2 ^ (56 - 8 * (k % 8))) := by
    rw [lim_def, e1, Nat.mul_assoc, Nat.mul_div_cancel_left _ hB, e2, Nat.mul_mod_mul_left]
  have hlt : t % 2 ^ (56 - 8 * (k % 8)) < 2 ^ (56 - 8 * (k % 8)) := Nat.mod_lt _ (Nat.pow_pos (by omega))
  have hb2 : b * 2 ^ (8 * (k % 8)) < 2 ^ (8 * (k % 8) + 8) := by
    rw [Nat.pow_add, Nat.mul_comm]
    exact Nat.mul_lt_mul_of_pos_left (by omega) (Nat.pow_pos (by omega))
  have hsum : lim (2 ^ (8 * (k + 1)) * t) (k / 8) + b * 2 ^ (8 * (k % 8)) < B64 := by
    rw [e3]
    have h1 : 2 ^ (8 * (k % 8) + 8) * (t % 2 ^ (56 - 8 * (k % 8)) + 1) ≤ 2 ^ (8 * (k % 8) + 8) * 2 ^ (56 - 8 * (k % 8)) := Nat.mul_le_mul_left _ hlt
    rw [← e2, Nat.mul_add, Nat.mul_one] at h1
    omega
  have e4 : b * 2 ^ (8 * k) = B64 ^ (k / 8) * (b * 2 ^ (8 * (k % 8))) := by
    have : 2 ^ (8 * k) = B64 ^ (k / 8) * 2 ^ (8 * (k % 8)) := by
      rw [B64_eq, ← Nat.pow_mul, ← Nat.pow_add]
      congr 1; omega
    rw [this, Nat.mul_left_comm]
  obtain ⟨p1, p2, p3⟩ := lim_put hv hd hsum
  have e5 : lim (2 ^ (8 * (k + 1)) * t) (k / 8) ||| b * 2 ^ (8 * (k % 8)) = lim (2 ^ (8 * (k + 1)) * t) (k / 8) + b * 2 ^ (8 * (k % 8)) := by
    rw [e3]
    exact (Nat.two_pow_add_eq_or_of_lt hb2 _).symm
  have e6 : ∀ v, (limL v).getD (k / 8) 0 = lim v (k / 8) := by
    intro v
    have : k / 8 = 0 ∨ k / 8 = 1 ∨ k / 8 = 2 ∨ k / 8 = 3 := by omega
    rcases this with h | h | h | h <;> rw [h] <;> rfl
  refine ⟨?_, by rw [e4]; exact p3, ?_, ?_, ?_⟩
  · rw [e6, e5, ← p1, e4]
    generalize 2 ^ (8 * (k + 1)) * t = v at *
    generalize B64 ^ (k / 8) * (b * 2 ^ (8 * (k % 8))) = q at *
    have : k / 8 = 0 ∨ k / 8 = 1 ∨ k / 8 = 2 ∨ k / 8 = 3 := by omega
    rcases this with h | h | h | h <;> rw [h] at p2 ⊢ <;> simp only [limL, List.set_cons_zero, List.set_cons_succ]
    · rw [p2 1 (by omega) (by omega), p2 2 (by omega) (by omega), p2 3 (by omega) (by omega)]
    · rw [p2 0 (by omega) (by omega), p2 2 (by omega) (by omega), p2 3 (by omega) (by omega)]
    · rw [p2 0 (by omega) (by omega), p2 1 (by omega) (by omega), p2 3 (by omega) (by omega)]
    · rw [p2 0 (by omega) (by omega), p2 1 (by omega) (by omega), p2 2 (by omega) (by omega)]
  · have : 2 ^ (8 * (k + 1)) * t = 2 ^ (8 * k) * (256 * t) := by
      rw [show 8 * (k + 1) = 8 * k + 8 by omega, Nat.pow_add]; rw [Nat.mul_assoc]
    rw [this, Nat.mul_comm b, ← Nat.mul_add, Nat.mul_mod_right]
  · rw [B64_eq] at hsum; omega
  · rw [e6, ← B64_eq]; exact lim_lt _ _
theorem from_fn (c : List Nat) (hc : c.length = 32) (hb : ∀ x ∈ c, x < 256) : FnV Tryd.prog G0 32 [.agg (bts c)] (uV (fromV c 32)) := by
  refine fn_of_vwp Γok Tryd.func32 (by kernel_rfl) rfl (by simp [Tryd.ntmps32]) (wpv_ok Γok (by kernel_rfl) _ _ _ ?_); conv => whnf
  refine bindP_intro (load_agg rfl rfl (by simp [bts_length, *])) ?_
  conv => whnf
  refine vloop_invP (X := Nat) (fun i => ⟨[(8, nI .i64 i), (7, .agg (bts c)), (3, .ptr 2 0), (2, .ptr 1 0)], Tryd.f32.ntmps, [(2, some (words (limL (fromV c i)))), (1, some (words [0, 0, 0, 0]))], 3⟩)
    (fun i => i ≤ 32 ∧ fromV c i < T256 ∧ fromV c i % 2 ^ (8 * (32 - i)) = 0) (fun i => 32 - i) 0
    (sub_conv G0ok [(1, some 1), (2, some 2)] rfl rfl ⟨⟨_, rfl, conv_nI rfl⟩, ⟨_, rfl, conv_eq rfl (bts_noHs _)⟩, ⟨_, rfl, .ptr rfl⟩, ⟨_, rfl, .ptr rfl⟩, trivial⟩
      ⟨.inr ⟨_, _, rfl, rfl, convs_eq (by rw [show limL (fromV c 0) = [0, 0, 0, 0] from by simp [limL, lim_def, fromV]]; rfl) (words_noHs _)⟩, .inr ⟨_, _, rfl, rfl, convs_eq rfl rfl⟩, trivial⟩) ⟨Nat.zero_le _, by simp only [fromV]; decide, by simp only [fromV, Nat.zero_mod]⟩ ?_
  rintro i ⟨hi, hv, hm⟩
  dsimp only at hi ⊢
  refine wpv_ok Γok (by kernel_rfl) _ _ _ ?_; conv => whnf
  refine bool_cases (fun hc' => ?_) (fun hc' => ?_)
  · have hc' := of_decide_eq_true hc'
    have hci : c.getD i 0 < 256 := getD_lt (by omega) hb i
    obtain ⟨k, hk⟩ : ∃ k : Nat, 31 - i = k := ⟨_, rfl⟩
    have hm' : fromV c i % 2 ^ (8 * (k + 1)) = 0 := by rw [show k + 1 = 32 - i by omega]; exact hm
    obtain ⟨q1, q2, q3, q4, q5⟩ := put_byte hv (by omega) hm' hci
    conv => whnf
    refine bindP_intro ((if_pos (inB_ok (by omega) (by omega))).trans (bts_ix (i := i) (by dsimp only; omega) (by omega))) ?_
    conv => whnf
    rw [ws_i64 (x := 31 - (i : Int)) (by omega) (by omega), show (31 : Int) - i = (k : Int) from by omega]
    rw [Int.tdiv_eq_ediv_of_nonneg (by omega), ws_i64 (x := (k : Int) / 8) (by omega) (by omega)]
    conv => whnf
    refine bindP_intro (if_pos (inB_ok (by omega) (by omega))) ?_; conv => whnf
    refine bindP_intro (words_ix (i := k / 8) (by dsimp only; omega) (by simp only [limL, List.length_cons, List.length_nil]; omega)) ?_
    conv => whnf
    rw [ws_u64n (x := ((c.getD i 0 : Nat) : Int)) (by omega) (by omega)]
    rw [Int.tmod_eq_emod_of_nonneg (by omega), ws_i64 (x := 8 * ((k : Int) % 8)) (by omega) (by omega), show 8 * ((k : Int) % 8) = ((8 * (k % 8) : Nat) : Int) from by omega]
    conv => whnf
    rw [shl_val (k := .u64) (x := ((c.getD i 0 : Nat) : Int)) (n := 8 * (k % 8)) (by simp only [IntKind.bits]; omega), ← Int.natCast_mul, u64_wrap q4, u64_or q5 q4]
    conv => whnf
    refine bindP_intro (if_pos (inB_ok (by omega) (by omega))) ?_; conv => whnf
    refine onlyIf_intro ?_ ?_
    · simp [words_length, limL]
      omega
    conv => whnf
    rw [splice_words (i := k / 8) (by dsimp only; omega) (by simp only [limL, List.length_cons, List.length_nil]; omega), q1]
    conv => whnf
    refine ⟨by kernel_rfl, ?_⟩
    conv => whnf
    refine ⟨i + 1, sub_conv G0ok [(1, some 1), (2, some 2)] rfl rfl ⟨⟨_, rfl, conv_nI (ws_i64 (by omega) (by omega))⟩, ⟨_, rfl, conv_eq rfl (bts_noHs _)⟩, ⟨_, rfl, .ptr rfl⟩, ⟨_, rfl, .ptr rfl⟩, trivial⟩
      ⟨.inr ⟨_, _, rfl, rfl, convs_eq (by simp only [fromV, hk]) (words_noHs _)⟩, .inr ⟨_, _, rfl, rfl, convs_eq rfl rfl⟩, trivial⟩, ⟨by omega, by simp only [fromV, hk]; exact q2, ?_⟩, by omega⟩
    simp only [fromV, hk]
    rw [show 32 - (i + 1) = k by omega]
    exact q3
  · have hc' := of_decide_eq_false hc'
    have hi2 : i = 32 := by omega
    subst hi2
    conv => whnf
    exact ⟨_, rfl, rfl⟩
end Go.Proofs.YtidkdlaihmpjfaaDoor
namespace Go.Proofs.YtidkdlaihmpjfaaDoor
set_option linter.unusedVariables false
set_option linter.unusedSimpArgs false
set_option linter.unusedSectionVars false
open Go.ChangeShapes Go.WideShapes Go.ChangeAt Go.RowKit Go.Joins
theorem bt_val (n i : Nat) (hi : i < 32) : bt (limL n) i = n / 2 ^ (8 * i) % 256 := by
  have e6 : (limL n).getD (i / 8) 0 = lim n (i / 8) := by
    have : i / 8 = 0 ∨ i / 8 = 1 ∨ i / 8 = 2 ∨ i / 8 = 3 := by omega
    rcases this with h | h | h | h <;> rw [h] <;> rfl
  unfold bt
  rw [e6]
  rw [lim_def, B64_eq, ← Nat.pow_mul, show (256 : Nat) = 2 ^ 8 from rfl]
  refine Nat.eq_of_testBit_eq fun j => ?_
  simp only [Nat.testBit_mod_two_pow, Nat.testBit_div_two_pow]
  by_cases hj : j < 8
  · simp only [hj, decide_true, Bool.true_and]
    rw [decide_eq_true (by omega), Bool.true_and]
    congr 1; omega
  · simp [hj]
theorem btsTo_getD (n j : Nat) (hj : j < 32) : (btsTo (limL n) 32).getD j 0 = n / 2 ^ (8 * (31 - j)) % 256 := by
  rw [← bt_val n (31 - j) (by omega)]
  simp [btsTo, List.getD, hj]
theorem from_bytes (n : Nat) : ∀ i, i ≤ 32 → fromV (btsTo (limL n) 32) i = (n % 2 ^ 256) / 2 ^ (8 * (32 - i)) * 2 ^ (8 * (32 - i))
  | 0, _ => by
    simp only [fromV]
    rw [Nat.div_eq_of_lt (Nat.mod_lt _ (Nat.pow_pos (by omega))), Nat.zero_mul]
  | i + 1, hi => by
    simp only [fromV]
    rw [from_bytes n i (by omega), btsTo_getD n i (by omega)]
    obtain ⟨k, hk⟩ : ∃ k, 31 - i = k := ⟨_, rfl⟩
    rw [hk, show 32 - i = k + 1 by omega, show 32 - (i + 1) = k by omega]
    have e1 : n / 2 ^ (8 * k) % 256 = (n % 2 ^ 256) / 2 ^ (8 * k) % 256 := by
      rw [show (256 : Nat) = 2 ^ 8 from rfl]
      refine Nat.eq_of_testBit_eq fun j => ?_
      simp only [Nat.testBit_mod_two_pow, Nat.testBit_div_two_pow]
      by_cases hj : j < 8
      · simp only [hj, decide_true, Bool.true_and]
        rw [decide_eq_true (by omega), Bool.true_and]
      · simp [hj]
    rw [e1]
    generalize n % 2 ^ 256 = m
    have e2 : 2 ^ (8 * (k + 1)) = 2 ^ (8 * k) * 256 := by rw [show 8 * (k + 1) = 8 * k + 8 by omega, Nat.pow_add]
    rw [e2, ← Nat.div_div_eq_div_mul]
    generalize m / 2 ^ (8 * k) = q
    generalize 2 ^ (8 * k) = p
    have := Nat.div_add_mod q 256
    rw [show q / 256 * (p * 256) + q % 256 * p = (256 * (q / 256) + q % 256) * p by rw [Nat.add_mul]; congr 1; rw [Nat.mul_comm p 256, ← Nat.mul_assoc, Nat.mul_comm (q / 256) 256], this]
theorem from_bytes_all {n : Nat} (h : n < T256) : fromV (btsTo (limL n) 32) 32 = n := by
  rw [from_bytes n 32 (Nat.le_refl _)]
  unfold T256 at h
  simp [Nat.mod_eq_of_lt h]
theorem fromV_rest (c : List Nat) (hb : ∀ x ∈ c, x < 256) (m : Nat) : ∀ t, m + t ≤ 32 → ∃ r, fromV c (m + t) = fromV c m + r ∧ r + 2 ^ (8 * (32 - (m + t))) ≤ 2 ^ (8 * (32 - m))
  | 0, _ => ⟨0, by simp, by simp⟩
  | t + 1, h => by
    obtain ⟨r, h1, h2⟩ := fromV_rest c hb m t (by omega)
    have hc := getD_lt (by omega) hb (m + t)
    obtain ⟨k, hk⟩ : ∃ k, 31 - (m + t) = k := ⟨_, rfl⟩
    refine ⟨r + c.getD (m + t) 0 * 2 ^ (8 * k), ?_, ?_⟩
    · rw [← Nat.add_assoc]
      simp only [fromV, h1, hk]
      omega
    · rw [show 32 - (m + t) = k + 1 by omega, show 8 * (k + 1) = 8 * k + 8 by omega, Nat.pow_add] at h2
      rw [show 32 - (m + (t + 1)) = k by omega]
      have : c.getD (m + t) 0 * 2 ^ (8 * k) ≤ 255 * 2 ^ (8 * k) := Nat.mul_le_mul_right _ (by omega)
      generalize 2 ^ (8 * k) = p at *
      omega
theorem fromV_div (c : List Nat) (hb : ∀ x ∈ c, x < 256) (i : Nat) (hi : i < 32) (hm : fromV c i % 2 ^ (8 * (32 - i)) = 0) : fromV c 32 / 2 ^ (8 * (31 - i)) % 256 = c.getD i 0 := by
  obtain ⟨r, h1, h2⟩ := fromV_rest c hb (i + 1) (32 - (i + 1)) (by omega)
  rw [show i + 1 + (32 - (i + 1)) = 32 by omega] at h1 h2
  have hc := getD_lt (by omega) hb i
  obtain ⟨k, hk⟩ : ∃ k, 31 - i = k := ⟨_, rfl⟩
  obtain ⟨t, ht⟩ := Nat.dvd_of_mod_eq_zero hm
  rw [h1]
  simp only [fromV, hk]
  rw [ht, show 32 - i = k + 1 by omega, show 8 * (k + 1) = 8 * k + 8 by omega, Nat.pow_add]
  rw [show 32 - (i + 1) = k by omega] at h2
  have hr : r < 2 ^ (8 * k) := by simp at h2; omega
  have hp : 0 < 2 ^ (8 * k) := Nat.pow_pos (by omega)
  rw [show (2 : Nat) ^ 8 = 256 from rfl]
  generalize 2 ^ (8 * k) = p at *
  rw [show p * 256 * t + c.getD i 0 * p + r = r + p * (256 * t + c.getD i 0) by rw [Nat.mul_add, Nat.mul_comm p (c.getD i 0), Nat.mul_assoc]; omega]
  rw [Nat.add_mul_div_left _ _ hp, Nat.div_eq_of_lt hr]
  omega
theorem fromV_mod (c : List Nat) : ∀ i, i ≤ 32 → fromV c i % 2 ^ (8 * (32 - i)) = 0
  | 0, _ => by simp [fromV]
  | i + 1, h => by
    have ih := fromV_mod c i (by omega)
    obtain ⟨k, hk⟩ : ∃ k, 31 - i = k := ⟨_, rfl⟩
    obtain ⟨t, ht⟩ := Nat.dvd_of_mod_eq_zero ih
    simp only [fromV, hk]
    rw [ht, show 32 - i = k + 1 by omega, show 32 - (i + 1) = k by omega, show 8 * (k + 1) = 8 * k + 8 by omega, Nat.pow_add, Nat.mul_assoc, Nat.mul_comm (c.getD i 0), ← Nat.mul_add, Nat.mul_mod_right]
theorem fromV_lt (c : List Nat) (hb : ∀ x ∈ c, x < 256) : fromV c 32 < T256 := by
  obtain ⟨r, h1, h2⟩ := fromV_rest c hb 0 32 (by omega)
  rw [Nat.zero_add] at h1 h2
  rw [show fromV c 0 = 0 from rfl, Nat.zero_add] at h1
  rw [show 8 * (32 - 0) = 256 from rfl, show 2 ^ (8 * (32 - 32)) = 1 from rfl] at h2
  rw [h1]
  unfold T256
  exact h2
theorem bytes_from {c : List Nat} (hc : c.length = 32) (hb : ∀ x ∈ c, x < 256) : btsTo (limL (fromV c 32)) 32 = c := by
  refine List.ext_getElem (by rw [btsTo_length, hc]) fun j h1 h2 => ?_
  have hj : j < 32 := by omega
  have e1 := btsTo_getD (fromV c 32) j hj
  rw [fromV_div c hb j hj (fromV_mod c j (by omega))] at e1
  simpa [List.getD, List.getElem?_eq_getElem h1, List.getElem?_eq_getElem h2] using e1
end Go.Proofs.YtidkdlaihmpjfaaDoor
