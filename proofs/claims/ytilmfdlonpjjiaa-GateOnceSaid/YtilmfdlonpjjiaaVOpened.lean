/- basculekeep.opened, by the engine. -/
import Derived.Test.YtilmfdlonpjjiaaVGateN
import Derived.Test.YtilmfdlonpjjiaaBUd
namespace Go.Proofs.Ytilmfdlonpjjiaa
set_option linter.unusedVariables false
set_option linter.unusedSimpArgs false
set_option linter.unusedSectionVars false
open Go.ChangeShapes Go.WideShapes Go.ChangeAt Go.RowKit Go.Joins
set_option maxRecDepth 10000
/-- What passes: an hour, and what passed or was let go in it. -/
structure PaD where
  id : Int
  v : Int
  ch : Int
  t : Int
  held : Bool
def PaD.cells (p : PaD) : List VV := [nI .i64 p.id, nI .i64 p.v, nI .i64 p.ch, nI .i64 p.t, bI p.held]
theorem pad_noHs (p : PaD) : noHs p.cells = true := rfl
def entP (p : PaD) : VV := ent .i64 p.id (.agg p.cells)
theorem entP_noHs (l : List PaD) : noHs (l.map entP) = true := noHs_map (fun _ => rfl) l
theorem mfind_none {l : List PaD} {z : Int} (h : ∀ p ∈ l, p.id ≠ z) : MFind .i64 z (l.map entP) none := fun j c hc => by
  rw [List.getElem?_map] at hc
  obtain ⟨p, hp, rfl⟩ := Option.map_eq_some_iff.1 hc
  exact ⟨p.id, _, rfl, h p (List.mem_of_getElem? hp)⟩
theorem mfind_some : ∀ {l : List PaD} {z : Int} {p : PaD}, l.find? (fun p => p.id == z) = some p → ∃ j, MFind .i64 z (l.map entP) (some (j, .agg p.cells))
  | [], z, p, h => by cases h
  | a :: l, z, p, h => by
    rw [List.find?_cons] at h
    by_cases e : a.id = z
    · rw [show (a.id == z) = true from by rw [beq_iff_eq]; exact e] at h
      cases h
      exact ⟨0, by subst e; rfl, fun j hj => absurd hj (Nat.not_lt_zero _)⟩
    · rw [show (a.id == z) = false from by rw [beq_eq_false_iff_ne]; exact e] at h
      obtain ⟨j, h1, h2⟩ := mfind_some h
      refine ⟨j + 1, by simpa using h1, fun i hi => ?_⟩
      cases i with
      | zero => exact ⟨a.id, _, rfl, e⟩
      | succ i => obtain ⟨y, v, h3, h4⟩ := h2 i (by omega); exact ⟨y, v, by simpa using h3, h4⟩
structure OpS where
  g : GtD
  out : List PaD
  ids : List PaD
def pz : PaD := ⟨0, 0, 0, 0, false⟩
def getP (l : List PaD) (z : Int) : PaD := (l.find? fun p => p.id == z).getD pz
def relP (N : Int) (p : PaD) : PaD := { p with held := decide (N - p.t ≥ 24), t := N }
def offX (g : GtD) (i : Nat) (r : RawD) : QD := ⟨i, r.a % 70, r.b % 3, g.now⟩
def offP (g : GtD) (i : Nat) (r : RawD) : PaD := ⟨i, r.a % 70, r.b % 3, g.now, false⟩
open Classical in
noncomputable def opStep (s : OpS) (i : Nat) (r : RawD) : OpS :=
  if r.k % 3 = 0 then ⟨tickG s.g (1 + r.a % 9), s.out ++ (tickS s.g (1 + r.a % 9)).out.map fun z => relP (s.g.now + (1 + r.a % 9)) (getP s.ids z), s.ids⟩
  else if fitsB s.g (offX s.g i r) = true then ⟨{ s.g with past := s.g.past ++ [offX s.g i r] }, s.out ++ [offP s.g i r], s.ids ++ [offP s.g i r]⟩
  else ⟨{ s.g with queue := s.g.queue ++ [offX s.g i r] }, s.out, s.ids ++ [offP s.g i r]⟩
def rz0 : RawD := ⟨0, 0, 0, ByteArray.empty⟩
noncomputable def opRun (g : GtD) (l : List RawD) : Nat → OpS
  | 0 => ⟨g, [], []⟩
  | i + 1 => opStep (opRun g l i) i (l.getD i rz0)
/-- What is known of a gate that was opened. -/
structure OpOk (g0 : GtD) (i : Nat) (s : OpS) : Prop where
  chk : chkGt s.g = 0
  lim : ∀ c, s.g.lim c = g0.lim c ∧ s.g.big c = g0.big c
  now : g0.now ≤ s.g.now ∧ s.g.now ≤ g0.now + 9 * (i : Int)
  ql : s.g.queue.length ≤ i
  il : s.ids.length ≤ i
  ids : ∀ p ∈ s.ids, 0 ≤ p.id ∧ p.id < (i : Int)
  past : ∀ q ∈ s.g.past, 0 ≤ q.id ∧ q.id < (i : Int)
  found : ∀ q ∈ s.g.queue, ∃ p, s.ids.find? (fun p => p.id == q.id) = some p ∧ p.v = q.v ∧ p.ch = q.ch ∧ p.t = q.t ∧ p.id = q.id
  nd : (s.ids.map PaD.id).Nodup
  perm : (s.out.map PaD.id ++ s.g.queue.map QD.id).Perm (s.ids.map PaD.id)
theorem op_first {g : GtD} (h : chkGt g = 0) (hq : g.queue = []) (hp : g.past = []) : OpOk g 0 ⟨g, [], []⟩ :=
  { chk := h
    lim := fun _ => ⟨rfl, rfl⟩
    now := ⟨Int.le_refl _, by show g.now ≤ g.now + 9 * ((0 : Nat) : Int); omega⟩
    ql := by show g.queue.length ≤ 0; rw [hq]; exact Nat.le_refl _
    il := Nat.le_refl _
    ids := fun p hp => by cases hp
    past := fun q hh => by
      have hh : q ∈ g.past := hh
      rw [hp] at hh; cases hh
    found := fun q hh => by
      have hh : q ∈ g.queue := hh
      rw [hq] at hh; cases hh
    nd := List.nodup_nil
    perm := by show ([] ++ g.queue.map QD.id).Perm []; rw [hq]; exact List.Perm.refl _ }
theorem getP_of {l : List PaD} {z : Int} {p : PaD} (h : l.find? (fun p => p.id == z) = some p) : getP l z = p := by unfold getP; rw [h]; rfl
theorem tick_out_mem {g : GtD} {h z : Int} (hz : z ∈ (tickS g h).out) : ∃ q ∈ g.queue, q.id = z := by
  have p := tk_perm (g := g) (N := g.now + h) g.queue.length (Nat.le_refl _)
  rw [List.take_length] at p
  have := (p.mem_iff (a := z)).1 (List.mem_append_left _ hz)
  obtain ⟨q, h1, h2⟩ := List.mem_map.1 this
  exact ⟨q, h1, h2⟩
theorem op_next {g0 : GtD} {i : Nat} {s : OpS} {r : RawD} (h : OpOk g0 i s) (hi : i < 40) (h0 : 0 ≤ g0.now ∧ g0.now ≤ 50) : OpOk g0 (i + 1) (opStep s i r) := by
  obtain ⟨n1, n2⟩ := h.now
  obtain ⟨ok, nd⟩ := chk_iff.1 h.chk
  unfold opStep
  have wk : ∀ (x : Int), x < (i : Int) → x < ((i + 1 : Nat) : Int) := fun x hx => by omega
  split
  · have hh : 1 ≤ 1 + r.a % 9 ∧ 1 + r.a % 9 ≤ 9 := by omega
    have tp := tk_past (g := s.g) (N := s.g.now + (1 + r.a % 9)) s.g.queue.length (Nat.le_refl _)
    have tq := tk_queue (g := s.g) (N := s.g.now + (1 + r.a % 9)) s.g.queue.length (Nat.le_refl _)
    have tm := tk_perm (g := s.g) (N := s.g.now + (1 + r.a % 9)) s.g.queue.length (Nat.le_refl _)
    have ta := tk_all ok (N := s.g.now + (1 + r.a % 9)) (by omega) s.g.queue.length (Nat.le_refl _)
    rw [List.take_length] at tm
    have outid : ∀ z ∈ (tickS s.g (1 + r.a % 9)).out, (relP (s.g.now + (1 + r.a % 9)) (getP s.ids z)).id = z := fun z hz => by
      obtain ⟨q, hq, rfl⟩ := tick_out_mem hz
      obtain ⟨p, hp, _, _, _, e⟩ := h.found q hq
      rw [getP_of hp]
      exact e
    refine ⟨tick_ok h.chk ⟨hh.1, by omega⟩, fun c => h.lim c, ⟨by show g0.now ≤ s.g.now + _; omega, by show s.g.now + (1 + r.a % 9) ≤ _; push_cast; omega⟩, Nat.le_trans ta.lq (Nat.le_succ_of_le h.ql), Nat.le_succ_of_le h.il, fun p hp => ⟨(h.ids p hp).1, wk _ (h.ids p hp).2⟩, fun q hq => ?_, fun q hq => h.found q (tq q hq), h.nd, ?_⟩
    · rcases tp q hq with ⟨h1, _⟩ | ⟨_, _, x, hx, e, _⟩
      · exact ⟨(h.past q h1).1, wk _ (h.past q h1).2⟩
      · obtain ⟨p, hp, _, _, _, e2⟩ := h.found x hx
        have := h.ids p (List.mem_of_find?_eq_some hp)
        rw [← e, ← e2]
        exact ⟨this.1, wk _ this.2⟩
    · show ((s.out ++ _).map PaD.id ++ ((tkRun s.g (s.g.now + (1 + r.a % 9)) s.g.queue.length).queue).map QD.id).Perm _
      rw [List.map_append, List.map_map, List.append_assoc]
      refine List.Perm.trans ?_ h.perm
      refine List.Perm.append_left _ ?_
      refine List.Perm.trans ?_ tm
      refine List.Perm.append_right _ (List.Perm.of_eq ?_)
      refine (List.map_congr_left fun z hz => ?_).trans (List.map_id _)
      exact outid z hz
  · have xb : (0 ≤ r.a % 70 ∧ r.a % 70 < 70) ∧ 0 ≤ r.b % 3 ∧ r.b % 3 < 3 := by omega
    have rowx : (0 ≤ (offX s.g i r).v ∧ (offX s.g i r).v ≤ 1073741824) ∧ (0 ≤ (offX s.g i r).ch ∧ (offX s.g i r).ch < 3) ∧ 0 ≤ (offX s.g i r).t ∧ (offX s.g i r).t ≤ s.g.now := ⟨⟨xb.1.1, by show r.a % 70 ≤ _; omega⟩, xb.2, ok.now.1, Int.le_refl _⟩
    have ipq : ∀ q, q ∈ s.g.past ∨ q ∈ s.g.queue → q.id < (i : Int) := fun q hq => by
      rcases hq with hq | hq
      · exact (h.past q hq).2
      · obtain ⟨p, hp, _, _, _, e⟩ := h.found q hq
        rw [← e]
        exact (h.ids p (List.mem_of_find?_eq_some hp)).2
    have ndi : ((s.ids ++ [offP s.g i r]).map PaD.id).Nodup := by
      rw [List.map_append, List.nodup_append]
      refine ⟨h.nd, List.nodup_cons.2 ⟨by simp, List.nodup_nil⟩, fun a ha b hb e => ?_⟩
      obtain ⟨p, hp, rfl⟩ := List.mem_map.1 ha
      have hb : b = (offP s.g i r).id := by simpa using hb
      have hb : b = (i : Int) := hb
      have := (h.ids p hp).2
      omega
    have idn : ∀ p ∈ s.ids ++ [offP s.g i r], 0 ≤ p.id ∧ p.id < ((i + 1 : Nat) : Int) := fun p hp => by
      rcases List.mem_append.1 hp with hp | hp
      · exact ⟨(h.ids p hp).1, wk _ (h.ids p hp).2⟩
      · rw [List.mem_singleton.1 hp]
        exact ⟨by show (0 : Int) ≤ (i : Int); omega, by show (i : Int) < _; omega⟩
    have fnd : ∀ q ∈ s.g.queue, ∃ p, (s.ids ++ [offP s.g i r]).find? (fun p => p.id == q.id) = some p ∧ p.v = q.v ∧ p.ch = q.ch ∧ p.t = q.t ∧ p.id = q.id := fun q hq => by
      obtain ⟨p, hp, e⟩ := h.found q hq
      exact ⟨p, by rw [List.find?_append, hp]; rfl, e⟩
    have ndg : ∀ (a b c : List QD), a ++ b = s.g.past ++ s.g.queue → c.Perm (a ++ ([offX s.g i r] ++ b)) → (c.map QD.id).Nodup := fun a b c e1 e2 => by
      refine (List.Perm.nodup_iff (e2.map QD.id)).2 ?_
      have : (a ++ ([offX s.g i r] ++ b)).Perm ([offX s.g i r] ++ (a ++ b)) := by
        rw [← List.append_assoc, ← List.append_assoc]
        exact List.Perm.append_right _ List.perm_append_comm
      refine (List.Perm.nodup_iff (this.map QD.id)).2 ?_
      rw [e1]
      show ((i : Int) :: (s.g.past ++ s.g.queue).map QD.id).Nodup
      rw [List.nodup_cons]
      refine ⟨fun hm => ?_, nd⟩
      obtain ⟨q, hq, e⟩ := List.mem_map.1 hm
      have := ipq q (List.mem_append.1 hq)
      omega
    split
    · rename_i hf
      have hl : s.g.past.length < 40 := by
        unfold fitsB at hf
        simp only [Bool.and_eq_true, decide_eq_true_eq] at hf
        exact hf.2.2
      refine ⟨chk_iff.2 ⟨⟨by show (s.g.past ++ [_]).length ≤ 40; rw [List.length_append]; exact hl, ok.lq, ok.now, ok.lim, ok.big, fun q hq => ?_⟩, ?_⟩, fun c => h.lim c, ⟨n1, by show s.g.now ≤ _; push_cast; omega⟩, Nat.le_succ_of_le h.ql, by show (s.ids ++ [_]).length ≤ _; rw [List.length_append]; exact Nat.succ_le_succ h.il, idn, fun q hq => ?_, fnd, ndi, ?_⟩
      · rcases hq with hq | hq
        · rcases List.mem_append.1 hq with hq | hq
          · exact ok.row q (.inl hq)
          · rw [List.mem_singleton.1 hq]; exact rowx
        · exact ok.row q (.inr hq)
      · exact ndg s.g.past s.g.queue _ rfl (by show ((s.g.past ++ [_]) ++ s.g.queue).Perm _; rw [List.append_assoc])
      · rcases List.mem_append.1 hq with hq | hq
        · exact ⟨(h.past q hq).1, wk _ (h.past q hq).2⟩
        · rw [List.mem_singleton.1 hq]
          exact ⟨by show (0 : Int) ≤ (i : Int); omega, by show (i : Int) < _; omega⟩
      · show ((s.out ++ [_]).map PaD.id ++ s.g.queue.map QD.id).Perm ((s.ids ++ [_]).map PaD.id)
        rw [List.map_append, List.map_append]
        refine List.Perm.trans ?_ (List.Perm.append_right _ h.perm)
        rw [List.append_assoc, List.append_assoc]
        exact List.Perm.append_left _ List.perm_append_comm
    · refine ⟨chk_iff.2 ⟨⟨ok.lp, by show (s.g.queue ++ [_]).length ≤ 40; rw [List.length_append]; have := h.ql; show s.g.queue.length + 1 ≤ 40; omega, ok.now, ok.lim, ok.big, fun q hq => ?_⟩, ?_⟩, fun c => h.lim c, ⟨n1, by show s.g.now ≤ _; push_cast; omega⟩, by show (s.g.queue ++ [_]).length ≤ _; rw [List.length_append]; exact Nat.succ_le_succ h.ql, by show (s.ids ++ [_]).length ≤ _; rw [List.length_append]; exact Nat.succ_le_succ h.il, idn, fun q hq => ⟨(h.past q hq).1, wk _ (h.past q hq).2⟩, fun q hq => ?_, ndi, ?_⟩
      · rcases hq with hq | hq
        · exact ok.row q (.inl hq)
        · rcases List.mem_append.1 hq with hq | hq
          · exact ok.row q (.inr hq)
          · rw [List.mem_singleton.1 hq]; exact rowx
      · exact ndg (s.g.past ++ s.g.queue) [] _ (List.append_nil _) (by show (s.g.past ++ (s.g.queue ++ [_])).Perm _; rw [List.append_nil, List.append_assoc])
      · rcases List.mem_append.1 hq with hq | hq
        · exact fnd q hq
        · rw [List.mem_singleton.1 hq]
          refine ⟨offP s.g i r, ?_, rfl, rfl, rfl, rfl⟩
          rw [List.find?_append, List.find?_eq_none.2 fun p hp => ?_, Option.none_or]
          · show (List.find? (fun p => p.id == (offX s.g i r).id) [offP s.g i r]) = _
            rw [List.find?_cons, show ((offP s.g i r).id == (offX s.g i r).id) = true from beq_self_eq_true _]
          · have h1 := (h.ids p hp).2
            have h2 : (offX s.g i r).id = (i : Int) := rfl
            simp only [beq_iff_eq]
            omega
      · show (s.out.map PaD.id ++ (s.g.queue ++ [_]).map QD.id).Perm ((s.ids ++ [_]).map PaD.id)
        rw [List.map_append, List.map_append, ← List.append_assoc]
        exact List.Perm.append_right _ h.perm
end Go.Proofs.Ytilmfdlonpjjiaa
