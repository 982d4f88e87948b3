/- The points of a small curve are added as their numbers are. -/
import Derived.Test.YtdicmddedcfhaaaVGroupT
namespace Go.Proofs.Ytdicmddedcfhaaa
set_option linter.unusedVariables false
set_option linter.unusedSimpArgs false
set_option linter.unusedSectionVars false
open Go.ChangeShapes Go.WideShapes Go.ChangeAt Go.RowKit Go.Joins
set_option maxRecDepth 10000
def chordI (m : Nat) (p q r : PtD) : Prop :=
  cong m (((p.x : Int) + q.x + r.x) * (((q.x : Int) - p.x) * ((q.x : Int) - p.x))) (((q.y : Int) - p.y) * ((q.y : Int) - p.y)) ∧ cong m (((r.y : Int) + p.y) * ((q.x : Int) - p.x)) (((q.y : Int) - p.y) * ((p.x : Int) - r.x))
def ng (m : Nat) (p : PtD) : PtD := ⟨p.x, m - p.y, false⟩
theorem chordI_swap {m : Nat} {p q r : PtD} (h : chordI m p q r) : chordI m q p r := by
  obtain ⟨⟨k1, h1⟩, ⟨k2, h2⟩⟩ := h
  refine ⟨⟨k1, ?_⟩, ⟨-k2, ?_⟩⟩ <;> grind
theorem chordI_ng {m : Nat} {p q r : PtD} (hp : p.y ≤ m) (hq : q.y ≤ m) (hr : r.y ≤ m) (h : chordI m (ng m p) (ng m q) (ng m r)) : chordI m p q r := by
  obtain ⟨⟨k1, h1⟩, ⟨k2, h2⟩⟩ := h
  simp only [ng] at h1 h2
  rw [Int.ofNat_sub hp, Int.ofNat_sub hq] at h1
  rw [Int.ofNat_sub hp, Int.ofNat_sub hq, Int.ofNat_sub hr] at h2
  refine ⟨⟨k1, ?_⟩, ⟨2 * ((q.x : Int) - p.x) - k2, ?_⟩⟩ <;> grind
theorem fermat_coprime {p a : Nat} (h : fermatOk p = true) (hp : 2 ≤ p) (h0 : 0 < a) (h1 : a < p) : Nat.gcd a p = 1 := coprime_of_inv (by omega) (fermat_inv h hp h0 h1)
theorem chord_eqI {m : Nat} {p q r : PtD} {up d : Nat} {U D : Int} (hf : fermatOk m = true) (hm : 1 < m) (hp : p.lt m) (hq : q.lt m) (hr : r.lt m) (hrf : r.far = false) (hd0 : 0 < d) (hd : d < m) (eu : cong m up U) (ed : cong m d D)
    (h1 : cong m (((p.x : Int) + q.x + r.x) * (D * D)) (U * U)) (h2 : cong m (((r.y : Int) + p.y) * D) (U * ((p.x : Int) - r.x))) : chordP m p q (mulM m up (invM m d)) = r := by
  have hv := invM_ok hd (fermat_coprime hf (by omega) hd0 hd)
  obtain ⟨ku, eu⟩ := eu
  obtain ⟨kd, ed⟩ := ed
  obtain ⟨k1, h1⟩ := h1
  obtain ⟨k2, h2⟩ := h2
  refine chord_eq hm hp hq hr hv hrf ⟨k1 + ((p.x : Int) + q.x + r.x) * (2 * D * kd + m * kd * kd) - (2 * U * ku + m * ku * ku), ?_⟩ ⟨k2 + ((r.y : Int) + p.y) * kd - ku * ((p.x : Int) - r.x), ?_⟩
  · rw [eu, ed]; grind
  · rw [eu, ed]; grind
theorem subM_pos {m a b : Nat} (ha : a < m) (hb : b < m) (h : b ≠ a) : 0 < subM m a b := by
  rw [subM_def]
  rcases Nat.lt_or_gt_of_ne h with h1 | h1
  · rw [show a + (m - b) = (a - b) + m by omega, Nat.add_mod_right, Nat.mod_eq_of_lt (by omega)]; omega
  · rw [Nat.mod_eq_of_lt (by omega)]; omega
theorem padd_chord {c : CvD} {p q r : PtD} (hf : fermatOk c.P = true) (hm : 1 < c.P) (hp : p.lt c.P) (hq : q.lt c.P) (hr : r.lt c.P) (fp : p.far = false) (fq : q.far = false) (fr : r.far = false) (hx : p.x ≠ q.x) (h : chordI c.P p q r) : padd c p q = (r, true) := by
  have hd := subM_pos hq.1 hp.1 hx
  have hl : subM c.P q.x p.x < c.P := subM_lt (by omega)
  have e := chord_eqI hf hm hp hq hr fr hd hl (cong_sub (a := q.y) (b := p.y) (Nat.le_of_lt hp.2)) (cong_sub (a := q.x) (b := p.x) (Nat.le_of_lt hp.1)) h.1 h.2
  unfold padd
  rw [if_neg (by rw [fp]; decide), if_neg (by rw [fq]; decide), if_neg hx, if_pos (fermat_coprime hf (by omega) hd hl), e]
theorem padd_tangent {c : CvD} {p r : PtD} (hf : fermatOk c.P = true) (hm : 3 < c.P) (hodd : c.P % 2 = 1) (hA : c.A = 0) (hp : p.lt c.P) (hr : r.lt c.P) (fp : p.far = false) (fr : r.far = false) (hy : 0 < p.y)
    (h1 : cong c.P (((p.x : Int) + p.x + r.x) * (((p.y : Int) + p.y) * ((p.y : Int) + p.y))) ((3 * ((p.x : Int) * p.x)) * (3 * ((p.x : Int) * p.x)))) (h2 : cong c.P (((r.y : Int) + p.y) * ((p.y : Int) + p.y)) ((3 * ((p.x : Int) * p.x)) * ((p.x : Int) - r.x))) : padd c p p = (r, true) := by
  have hl : addM c.P p.y p.y < c.P := addM_lt (by omega)
  have hd : 0 < addM c.P p.y p.y := by
    have hy2 := hp.2
    rw [addM_def]
    rcases Nat.lt_or_ge (p.y + p.y) c.P with h3 | h3
    · rw [Nat.mod_eq_of_lt h3]; omega
    · rw [show p.y + p.y = (p.y + p.y - c.P) + c.P by omega, Nat.add_mod_right, Nat.mod_eq_of_lt (by omega)]; omega
  have e3 : modN 3 c.P = 3 := by rw [modN_def, Nat.mod_eq_of_lt (by omega)]
  have eu : cong c.P (addM c.P (mulM c.P (modN 3 c.P) (mulM c.P p.x p.x)) c.A : Nat) (3 * ((p.x : Int) * p.x)) := by
    rw [hA, e3]
    obtain ⟨k1, g1⟩ := cong_add (m := c.P) (mulM c.P 3 (mulM c.P p.x p.x)) 0
    obtain ⟨k2, g2⟩ := cong_mul (m := c.P) 3 (mulM c.P p.x p.x)
    obtain ⟨k3, g3⟩ := cong_mul (m := c.P) p.x p.x
    refine ⟨k1 + k2 + 3 * k3, ?_⟩
    rw [g1, g2, g3]
    grind
  have e := chord_eqI (q := p) hf (by omega) hp hp hr fr hd hl eu (cong_add (m := c.P) p.y p.y) h1 h2
  unfold padd
  rw [if_neg (by rw [fp]; decide), if_neg (by rw [fp]; decide), if_pos rfl, if_neg (by omega), if_pos rfl, if_pos (fermat_coprime hf (by omega) hd hl), e]
/-- What is reckoned of a curve's table. -/
structure Tells (c : CvD) (T : Nat) : Prop where
  fer : fermatOk c.P = true
  p3 : 3 < c.P
  p1000 : c.P < 1000
  odd : c.P % 2 = 1
  nodd : c.N % 2 = 1
  n1 : 1 < c.N
  A : c.A = 0
  one : ∀ i, 0 < i → i < c.N → chkOne c.P c.B c.N T i = true
  two : ∀ i, 0 < i → i ≤ (c.N - 1) / 2 → chkRow c.P c.N T i = true
def pt (T i : Nat) : PtD := ptA (ent T i)
theorem blt_lt {a b : Nat} (h : Nat.blt a b = true) : a < b := by simpa [Nat.blt_eq] using h
theorem mods_cong {m x y : Nat} (h : Nat.beq (Nat.mod x m) (Nat.mod y m) = true) : cong m x y := cong_mod (Nat.eq_of_beq_eq_true h)
section
variable {c : CvD} {T : Nat} (t : Tells c T)
include t
theorem one_at {i : Nat} (h0 : 0 < i) (h1 : i < c.N) : (pt T i).lt c.P ∧ 0 < (pt T i).y ∧ (pt T i).y * (pt T i).y % c.P = ((pt T i).x * ((pt T i).x * (pt T i).x) + c.B) % c.P ∧ pt T (c.N - i) = ng c.P (pt T i) ∧
    cong c.P ((((pt T i).x : Int) + (pt T i).x + (pt T ((i + i) % c.N)).x) * ((((pt T i).y : Int) + (pt T i).y) * (((pt T i).y : Int) + (pt T i).y))) ((3 * (((pt T i).x : Int) * (pt T i).x)) * (3 * (((pt T i).x : Int) * (pt T i).x))) ∧
    cong c.P ((((pt T ((i + i) % c.N)).y : Int) + (pt T i).y) * (((pt T i).y : Int) + (pt T i).y)) ((3 * (((pt T i).x : Int) * (pt T i).x)) * (((pt T i).x : Int) - (pt T ((i + i) % c.N)).x)) := by
  have h := t.one i h0 h1
  unfold chkOne at h
  simp only [frc_eq] at h
  obtain ⟨g1, h⟩ := band_t h
  obtain ⟨g2, h⟩ := band_t h
  obtain ⟨g3, h⟩ := band_t h
  obtain ⟨g4, h⟩ := band_t h
  obtain ⟨g5, h⟩ := band_t h
  obtain ⟨g6, g7⟩ := band_t h
  have k1 : (pt T i).x < c.P := blt_lt g1
  have k2 : (pt T i).y < c.P := blt_lt g2
  have k3 : 0 < (pt T i).y := blt_lt g3
  have k4 : (pt T i).y * (pt T i).y % c.P = ((pt T i).x * ((pt T i).x * (pt T i).x) + c.B) % c.P := Nat.eq_of_beq_eq_true g4
  have k5 : ent T (c.N - i) = (pt T i).x * 1024 + (c.P - (pt T i).y) := Nat.eq_of_beq_eq_true g5
  have k6 := mods_cong g6
  have k7 := mods_cong g7
  refine ⟨⟨k1, k2⟩, k3, k4, ?_, ?_, ?_⟩
  · have hb := t.p1000
    have e1 : ent T (c.N - i) / 1024 = (pt T i).x := by omega
    have e2 : ent T (c.N - i) % 1024 = c.P - (pt T i).y := by omega
    show PtD.mk (ent T (c.N - i) / 1024) (ent T (c.N - i) % 1024) false = _
    rw [e1, e2]
    rfl
  · obtain ⟨k, hk⟩ := k6
    refine ⟨k, ?_⟩
    have hk : (((((pt T i).x + (pt T i).x) + (pt T ((i + i) % c.N)).x) * (((pt T i).y + (pt T i).y) * ((pt T i).y + (pt T i).y)) : Nat) : Int) = (((3 * ((pt T i).x * (pt T i).x)) * (3 * ((pt T i).x * (pt T i).x)) : Nat) : Int) + (c.P : Int) * k := hk
    push_cast at hk
    exact hk
  · obtain ⟨k, hk⟩ := k7
    have hk : ((((pt T ((i + i) % c.N)).y + (pt T i).y) * ((pt T i).y + (pt T i).y) : Nat) : Int) = (((3 * ((pt T i).x * (pt T i).x)) * ((pt T i).x + (c.P - (pt T ((i + i) % c.N)).x)) : Nat) : Int) + (c.P : Int) * k := hk
    have hle : (pt T ((i + i) % c.N)).x ≤ c.P := by
      have hn := t.n1
      have hno := t.nodd
      have hi2 : 0 < (i + i) % c.N := by
        rcases Nat.lt_or_ge (i + i) c.N with h3 | h3
        · rw [Nat.mod_eq_of_lt h3]; omega
        · rw [show i + i = (i + i - c.N) + c.N by omega, Nat.add_mod_right, Nat.mod_eq_of_lt (by omega)]; omega
      have h := t.one _ hi2 (Nat.mod_lt _ (by omega))
      unfold chkOne at h
      simp only [frc_eq] at h
      obtain ⟨g1, _⟩ := band_t h
      have : (pt T ((i + i) % c.N)).x < c.P := blt_lt g1
      omega
    push_cast [Int.ofNat_sub hle] at hk
    refine ⟨k + 3 * (((pt T i).x : Int) * (pt T i).x), ?_⟩
    rw [hk]
    grind
theorem pt_lt {i : Nat} (h0 : 0 < i) (h1 : i < c.N) : (pt T i).lt c.P := (one_at t h0 h1).1
theorem two_at {i j : Nat} (h0 : 0 < i) (h1 : i < j) (h2 : i + j < c.N) : (pt T i).x ≠ (pt T j).x ∧ chordI c.P (pt T i) (pt T j) (pt T (i + j)) := by
  have h := t.two i h0 (by omega)
  have l1 := pt_lt t h0 (show i < c.N by omega)
  have l2 := pt_lt t (show 0 < j by omega) (show j < c.N by omega)
  have l3 := pt_lt t (show 0 < i + j by omega) h2
  unfold chkRow at h
  simp only [frc_eq] at h
  have h := allN_at _ _ h j (by omega) (by have : c.N - (i + i) - 1 = Nat.sub (Nat.sub c.N (Nat.add i i)) 1 := rfl; omega)
  simp only [frc_eq, chkTwo] at h
  obtain ⟨h, g3⟩ := band_t h
  obtain ⟨g1, g2⟩ := band_t h
  obtain ⟨k1, g1⟩ := mods_cong g1
  obtain ⟨k2, g2⟩ := mods_cong g2
  obtain ⟨l11, l12⟩ := l1
  obtain ⟨l21, l22⟩ := l2
  obtain ⟨l31, l32⟩ := l3
  have g1 : (((((pt T i).x + (pt T j).x) + (pt T (i + j)).x) * (((pt T j).x + (c.P - (pt T i).x)) * ((pt T j).x + (c.P - (pt T i).x))) : Nat) : Int) = ((((pt T j).y + (c.P - (pt T i).y)) * ((pt T j).y + (c.P - (pt T i).y)) : Nat) : Int) + (c.P : Int) * k1 := g1
  have g2 : ((((pt T (i + j)).y + (pt T i).y) * ((pt T j).x + (c.P - (pt T i).x)) : Nat) : Int) = ((((pt T j).y + (c.P - (pt T i).y)) * ((pt T i).x + (c.P - (pt T (i + j)).x)) : Nat) : Int) + (c.P : Int) * k2 := g2
  have g3 : (!Nat.beq (pt T i).x (pt T j).x) = true := g3
  refine ⟨fun e => ?_, ⟨?_, ?_⟩⟩
  · rw [e] at g3; simp at g3
  · push_cast [Int.ofNat_sub (Nat.le_of_lt l11), Int.ofNat_sub (Nat.le_of_lt l12)] at g1
    refine ⟨k1 + 2 * (((pt T j).y : Int) - (pt T i).y) + c.P - (((pt T i).x : Int) + (pt T j).x + (pt T (i + j)).x) * (2 * (((pt T j).x : Int) - (pt T i).x) + c.P), ?_⟩
    grind
  · push_cast [Int.ofNat_sub (Nat.le_of_lt l11), Int.ofNat_sub (Nat.le_of_lt l12), Int.ofNat_sub (Nat.le_of_lt l31)] at g2
    refine ⟨k2 + (((pt T j).y : Int) - (pt T i).y) + (((pt T i).x : Int) - (pt T (i + j)).x) + c.P - (((pt T (i + j)).y : Int) + (pt T i).y), ?_⟩
    grind
theorem two_all {i j : Nat} (h0 : 0 < i) (h1 : i < j) (h2 : j < c.N) (h3 : i + j ≠ c.N) : (pt T i).x ≠ (pt T j).x ∧ chordI c.P (pt T i) (pt T j) (pt T ((i + j) % c.N)) := by
  rcases Nat.lt_or_ge (i + j) c.N with h4 | h4
  · rw [Nat.mod_eq_of_lt h4]; exact two_at t h0 h1 h4
  · have e : (i + j) % c.N = i + j - c.N := by
      rw [show i + j = (i + j - c.N) + c.N by omega, Nat.add_mod_right, Nat.mod_eq_of_lt (by omega)]; omega
    rw [e]
    obtain ⟨g1, g2⟩ := two_at t (show 0 < c.N - j by omega) (show c.N - j < c.N - i by omega) (by omega)
    have e1 := (one_at t (show 0 < i by omega) (show i < c.N by omega)).2.2.2.1
    have e2 := (one_at t (show 0 < j by omega) (show j < c.N by omega)).2.2.2.1
    have e3 := (one_at t (show 0 < i + j - c.N by omega) (show i + j - c.N < c.N by omega)).2.2.2.1
    rw [show c.N - j + (c.N - i) = c.N - (i + j - c.N) by omega, e1, e2, e3] at g2
    rw [e1, e2] at g1
    have l1 := pt_lt t (show 0 < i by omega) (show i < c.N by omega)
    have l2 := pt_lt t (show 0 < j by omega) (show j < c.N by omega)
    have l3 := pt_lt t (show 0 < i + j - c.N by omega) (show i + j - c.N < c.N by omega)
    exact ⟨fun e => g1 (by simpa [ng] using e.symm), chordI_swap (chordI_ng (Nat.le_of_lt l2.2) (Nat.le_of_lt l1.2) (Nat.le_of_lt l3.2) g2)⟩
theorem two_sum {i j : Nat} (h0 : 0 < i) (h1 : i < c.N) (k0 : 0 < j) (k1 : j < c.N) (hs : i + j ≠ c.N) : padd c (pt T i) (pt T j) = (pt T ((i + j) % c.N), true) := by
  have hn := t.n1
  have hp3 := t.p3
  have l1 := pt_lt t h0 h1
  have l2 := pt_lt t k0 k1
  have hne : 0 < (i + j) % c.N := by
    rcases Nat.lt_or_ge (i + j) c.N with h3 | h3
    · rw [Nat.mod_eq_of_lt h3]; omega
    · rw [show i + j = (i + j - c.N) + c.N by omega, Nat.add_mod_right, Nat.mod_eq_of_lt (by omega)]; omega
  have l3 := pt_lt t hne (Nat.mod_lt _ (by omega))
  rcases Nat.lt_trichotomy i j with h | h | h
  · obtain ⟨g1, g2⟩ := two_all t h0 h k1 hs
    exact padd_chord t.fer (by omega) l1 l2 l3 rfl rfl rfl g1 g2
  · subst h
    obtain ⟨_, g2, _, _, g5, g6⟩ := one_at t h0 h1
    exact padd_tangent t.fer t.p3 t.odd t.A l1 l3 rfl rfl g2 g5 g6
  · obtain ⟨g1, g2⟩ := two_all t k0 h h1 (by omega)
    rw [Nat.add_comm j i] at g2
    exact padd_chord t.fer (by omega) l1 l2 l3 rfl rfl rfl (fun e => g1 e.symm) (chordI_swap g2)
end
/-- The base so often. -/
def gpt (c : CvD) (T i : Nat) : PtD := if i % c.N = 0 then farP else pt T (i % c.N)
theorem padd_gpt {c : CvD} {T : Nat} (t : Tells c T) (i j : Nat) : padd c (gpt c T i) (gpt c T j) = (gpt c T (i + j), true) := by
  have hn := t.n1
  have hi := Nat.mod_lt i (show 0 < c.N by omega)
  have hj := Nat.mod_lt j (show 0 < c.N by omega)
  unfold gpt
  rw [Nat.add_mod i j]
  refine gen_ex (i % c.N) fun a ea => ?_
  refine gen_ex (j % c.N) fun b eb => ?_
  rw [← ea] at hi ⊢
  rw [← eb] at hj ⊢
  clear ea eb
  by_cases ha : a = 0
  · subst ha
    rw [if_pos rfl, Nat.zero_add, Nat.mod_eq_of_lt hj]
    unfold padd
    rw [if_pos (show farP.far = true from rfl)]
  · rw [if_neg ha]
    by_cases hb : b = 0
    · subst hb
      rw [if_pos rfl, Nat.add_zero, Nat.mod_eq_of_lt hi, if_neg ha]
      unfold padd
      rw [if_neg (show ¬ (pt T a).far = true from Bool.false_ne_true), if_pos (show farP.far = true from rfl)]
    · rw [if_neg hb]
      by_cases hs : a + b = c.N
      · rw [hs, Nat.mod_self, if_pos rfl]
        obtain ⟨l, g2, _, e, _⟩ := one_at t (show 0 < a by omega) hi
        rw [show c.N - a = b by omega] at e
        rw [e]
        unfold padd
        rw [if_neg (show ¬ (pt T a).far = true from Bool.false_ne_true), if_neg (show ¬ (ng c.P (pt T a)).far = true from Bool.false_ne_true), if_pos (show (pt T a).x = (ng c.P (pt T a)).x from rfl), if_pos]
        simp only [ng]
        rw [addM_def, show (pt T a).y + (c.P - (pt T a).y) = c.P by have := l.2; omega, Nat.mod_self]
      · have hne : 0 < (a + b) % c.N := by
          rcases Nat.lt_or_ge (a + b) c.N with h3 | h3
          · rw [Nat.mod_eq_of_lt h3]; omega
          · rw [show a + b = (a + b - c.N) + c.N by omega, Nat.add_mod_right, Nat.mod_eq_of_lt (by omega)]; omega
        rw [if_neg (by omega)]
        exact two_sum t (by omega) hi (by omega) hj hs
theorem tells {k : Nat} (h : k < 8) : Tells (crv k) (tbl k) := by
  refine crv_cases (Q := fun k => Tells (crv k) (tbl k)) h ?_ ?_ ?_ ?_ ?_ ?_ ?_ ?_
  · exact ⟨crv_fermat (by decide), by decide, by decide, by decide, by decide, by decide, rfl, fun i h1 h2 => allN_at _ _ one0 i h1 (Nat.lt_of_lt_of_eq h2 rfl), fun i h1 h2 => two0 i h1 h2⟩
  · exact ⟨crv_fermat (by decide), by decide, by decide, by decide, by decide, by decide, rfl, fun i h1 h2 => allN_at _ _ one1 i h1 (Nat.lt_of_lt_of_eq h2 rfl), fun i h1 h2 => two1 i h1 h2⟩
  · exact ⟨crv_fermat (by decide), by decide, by decide, by decide, by decide, by decide, rfl, fun i h1 h2 => allN_at _ _ one2 i h1 (Nat.lt_of_lt_of_eq h2 rfl), fun i h1 h2 => two2 i h1 h2⟩
  · exact ⟨crv_fermat (by decide), by decide, by decide, by decide, by decide, by decide, rfl, fun i h1 h2 => allN_at _ _ one3 i h1 (Nat.lt_of_lt_of_eq h2 rfl), fun i h1 h2 => two3 i h1 h2⟩
  · exact ⟨crv_fermat (by decide), by decide, by decide, by decide, by decide, by decide, rfl, fun i h1 h2 => allN_at _ _ one4 i h1 (Nat.lt_of_lt_of_eq h2 rfl), fun i h1 h2 => two4 i h1 h2⟩
  · exact ⟨crv_fermat (by decide), by decide, by decide, by decide, by decide, by decide, rfl, fun i h1 h2 => allN_at _ _ one5 i h1 (Nat.lt_of_lt_of_eq h2 rfl), fun i h1 h2 => two5 i h1 h2⟩
  · exact ⟨crv_fermat (by decide), by decide, by decide, by decide, by decide, by decide, rfl, fun i h1 h2 => allN_at _ _ one6 i h1 (Nat.lt_of_lt_of_eq h2 rfl), fun i h1 h2 => two6 i h1 h2⟩
  · exact ⟨crv_fermat (by decide), by decide, by decide, by decide, by decide, by decide, rfl, fun i h1 h2 => allN_at _ _ one7 i h1 (Nat.lt_of_lt_of_eq h2 rfl), fun i h1 h2 => two7 i h1 h2⟩
end Go.Proofs.Ytdicmddedcfhaaa
