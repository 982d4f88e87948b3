/- Gates: what is big waits a day; a day lets all go; plain. -/
import Derived.Test.YtilmfdlonpjjiaaBUe
namespace Go.Proofs.Ytilmfdlonpjjiaa
set_option linter.unusedVariables false
set_option linter.unusedSimpArgs false
set_option linter.unusedSectionVars false
open Go.ChangeShapes Go.WideShapes Go.ChangeAt Go.RowKit Go.Joins
/-- What has passed is not big, or has waited. -/
def Bg (big : Int → Int) (out : List PaD) : Prop := ∀ p ∈ out, (0 ≤ p.ch ∧ p.ch < 3) ∧ (p.held = true ∨ p.v < big p.ch)
theorem fits_big {g : GtD} {x : QD} (h : fitsB g x = true) : x.v < g.big x.ch := by
  unfold fitsB at h
  simp only [Bool.and_eq_true, decide_eq_true_eq] at h
  exact h.1
theorem bg_tick {g : GtD} {N : Int} {ids out : List PaD} (ok : GtOk g) (hb : Bg g.big out) (fd : ∀ q ∈ g.queue, ∃ p, ids.find? (fun p => p.id == q.id) = some p ∧ p.v = q.v ∧ p.ch = q.ch ∧ p.t = q.t ∧ p.id = q.id) :
    ∀ i, i ≤ g.queue.length → Bg g.big (out ++ (tkRun g N i).out.map fun z => relP N (getP ids z))
  | 0, _ => by
    show Bg g.big (out ++ [])
    rw [List.append_nil]
    exact hb
  | i + 1, h => by
    have hc : i < g.queue.length := h
    have ih := bg_tick (N := N) ok hb fd i (Nat.le_of_lt hc)
    have hx := ok.row _ (.inr (List.getElem_mem hc))
    obtain ⟨p, hp, e1, e2, e3, _⟩ := fd _ (List.getElem_mem hc)
    have add : ∀ (L : List Int), (0 ≤ p.ch ∧ p.ch < 3) ∧ ((relP N p).held = true ∨ p.v < g.big p.ch) → Bg g.big (out ++ L.map fun z => relP N (getP ids z)) → Bg g.big (out ++ (L ++ [g.queue[i].id]).map fun z => relP N (getP ids z)) := fun L h1 h2 => by
      rw [List.map_append, ← List.append_assoc]
      intro y hy
      rcases List.mem_append.1 hy with hy | hy
      · exact h2 y hy
      · have hy : y = relP N (getP ids g.queue[i].id) := by simpa using hy
        rw [hy, getP_of hp]
        exact h1
    have pc : 0 ≤ p.ch ∧ p.ch < 3 := by rw [e2]; exact hx.2.1
    rw [tkRun_succ g N hc]
    unfold tkStep
    split
    · rename_i h24
      exact add _ ⟨pc, .inl (by show decide (N - p.t ≥ 24) = true; rw [e3]; exact decide_eq_true h24)⟩ ih
    · split
      · rename_i hf
        refine add _ ⟨pc, .inr ?_⟩ ih
        rw [e1, e2]
        have := fits_big hf
        exact this
      · exact ih
theorem bg_next {g0 : GtD} {i : Nat} {s : OpS} {r : RawD} (h : OpOk g0 i s) (hb : Bg g0.big s.out) : Bg g0.big (opStep s i r).out := by
  obtain ⟨ok, _⟩ := chk_iff.1 h.chk
  have hbig : g0.big = s.g.big := funext fun c => (h.lim c).2.symm
  rw [hbig] at hb ⊢
  unfold opStep
  split
  · exact bg_tick (N := s.g.now + (1 + r.a % 9)) ok hb h.found s.g.queue.length (Nat.le_refl _)
  · split
    · rename_i hf
      intro y hy
      rcases List.mem_append.1 hy with hy | hy
      · exact hb y hy
      · rw [List.mem_singleton.1 hy]
        exact ⟨⟨by show 0 ≤ r.b % 3; omega, by show r.b % 3 < 3; omega⟩, .inr (fits_big hf)⟩
    · exact hb
theorem bg_all {g : GtD} {M : List RawD} (al : ∀ i, i ≤ 40 → OpOk g i (opRun g M i)) : ∀ i, i ≤ 40 → Bg g.big (opRun g M i).out
  | 0, _ => fun p h => by cases h
  | i + 1, h => bg_next (al i (Nat.le_of_succ_le h)) (bg_all al i (Nat.le_of_succ_le h))
theorem day_run {g : GtD} (ok : GtOk g) : ∀ i, i ≤ g.queue.length → (tkRun g (g.now + 24) i).queue = [] ∧ (tkRun g (g.now + 24) i).out = (g.queue.take i).map QD.id
  | 0, _ => ⟨rfl, rfl⟩
  | i + 1, h => by
    have hc : i < g.queue.length := h
    obtain ⟨h1, h2⟩ := day_run ok i (Nat.le_of_lt hc)
    have hx := (ok.row _ (.inr (List.getElem_mem hc))).2.2
    rw [tkRun_succ g _ hc]
    unfold tkStep
    rw [if_pos (by omega), List.take_add_one, List.getElem?_eq_getElem hc, List.map_append]
    exact ⟨h1, by show _ ++ _ = _; rw [h2]; rfl⟩
theorem day_all {g : GtD} (ok : GtOk g) : (tickG g 24).queue = [] ∧ (tickS g 24).out = g.queue.map QD.id := by
  obtain ⟨h1, h2⟩ := day_run ok g.queue.length (Nat.le_refl _)
  rw [List.take_length] at h2
  exact ⟨h1, h2⟩
/-- Each number once. -/
def oneE (z : Int) : VV := ent .i64 z (nI .i64 1)
theorem oneE_noHs (l : List Int) : noHs (l.map oneE) = true := noHs_map (fun _ => rfl) l
theorem one_new {l : List Int} {z : Int} (h : z ∉ l) : MFind .i64 z (l.map oneE) none := fun j c hc => by
  rw [List.getElem?_map] at hc
  obtain ⟨y, hy, rfl⟩ := Option.map_eq_some_iff.1 hc
  exact ⟨y, _, rfl, fun e => h (e ▸ List.mem_of_getElem? hy)⟩
theorem nodup_new {l : List Int} (h : l.Nodup) {i : Nat} (hi : i < l.length) : l[i] ∉ l.take i := by
  intro hm
  rw [← List.take_append_drop i l, List.drop_eq_getElem_cons hi, List.nodup_append] at h
  exact h.2.2 _ hm _ List.mem_cons_self rfl
end Go.Proofs.Ytilmfdlonpjjiaa
