/- Gates: plain laws. -/
import Derived.Test.YtilmfdlonpjjiaaVGateT
namespace Go.Proofs.Ytilmfdlonpjjiaa
set_option linter.unusedVariables false
set_option linter.unusedSimpArgs false
set_option linter.unusedSectionVars false
open Go.ChangeShapes Go.WideShapes Go.ChangeAt Go.RowKit Go.Joins
theorem getD_of {L : List QD} {i : Nat} (h : i < L.length) : L.getD i qz = L[i] := by rw [List.getD_eq_getElem?_getD, List.getElem?_eq_getElem h]; rfl
theorem difTo_iff {L : List QD} {x : QD} : ∀ n, n ≤ L.length → (difTo L x n = true ↔ ∀ y ∈ L.take n, x.id ≠ y.id)
  | 0, _ => by simp [difTo]
  | n + 1, h => by
    have hn : n < L.length := h
    have ih := difTo_iff (L := L) (x := x) n (Nat.le_of_lt hn)
    unfold difTo
    rw [List.take_add_one, List.getElem?_eq_getElem hn, getD_of hn, Bool.and_eq_true, ih, decide_eq_true_eq]
    constructor
    · rintro ⟨h1, h2⟩ y hy
      rcases List.mem_append.1 hy with hy | hy
      · exact h1 y hy
      · have : y = L[n] := by simpa using hy
        rw [this]; exact h2
    · intro h1
      exact ⟨fun y hy => h1 y (List.mem_append_left _ hy), h1 _ (List.mem_append_right _ (by simp))⟩
theorem rowsOk_iff {g : GtD} {L : List QD} : ∀ n, n ≤ L.length → (rowsOk g L n = true ↔ limTo g 3 = true ∧ (∀ q ∈ L.take n, qOk g.now q = true) ∧ ((L.take n).map QD.id).Nodup)
  | 0, _ => by simp [rowsOk]
  | n + 1, h => by
    have hn : n < L.length := h
    have ih := rowsOk_iff (g := g) (L := L) n (Nat.le_of_lt hn)
    have dj := difTo_iff (L := L) (x := L[n]) n (Nat.le_of_lt hn)
    unfold rowsOk
    rw [getD_of hn, Bool.and_eq_true, Bool.and_eq_true, ih, dj, List.take_add_one, List.getElem?_eq_getElem hn]
    simp only [Option.toList_some, List.mem_append, List.mem_singleton, List.map_append, List.map_cons, List.map_nil, List.nodup_append, List.nodup_cons, List.not_mem_nil, not_false_eq_true, List.nodup_nil, and_self, and_true, true_and, List.mem_map]
    constructor
    · rintro ⟨⟨⟨h1, h2, h3⟩, h4⟩, h5⟩
      refine ⟨h1, fun q hq => hq.elim (h2 q) fun e => by rw [e]; exact h4, h3, ?_⟩
      rintro a ⟨y, hy, rfl⟩ b rfl e
      exact h5 y hy e.symm
    · rintro ⟨h1, h2, h3, h4⟩
      exact ⟨⟨⟨h1, fun q hq => h2 q (.inl hq), h3⟩, h2 _ (.inr rfl)⟩, fun y hy e => h4 _ ⟨y, hy, rfl⟩ _ rfl e.symm⟩
theorem valB_iff {n : Int} : valB n = true ↔ 0 ≤ n ∧ n ≤ 1073741824 := by unfold valB; simp
theorem qOk_iff {now : Int} {q : QD} : qOk now q = true ↔ (0 ≤ q.v ∧ q.v ≤ 1073741824) ∧ (0 ≤ q.ch ∧ q.ch < 3) ∧ 0 ≤ q.t ∧ q.t ≤ now := by
  unfold qOk
  simp only [Bool.and_eq_true, decide_eq_true_eq, valB_iff]
  constructor
  · rintro ⟨h1, h2, h3, h4, h5⟩; exact ⟨h1, ⟨h2, h3⟩, h4, h5⟩
  · rintro ⟨h1, ⟨h2, h3⟩, h4, h5⟩; exact ⟨h1, h2, h3, h4, h5⟩
theorem limTo_iff {g : GtD} : limTo g 3 = true ↔ (0 ≤ g.now ∧ g.now ≤ 1099511627776) ∧ (∀ c, 0 ≤ g.lim c ∧ g.lim c ≤ 1073741824) ∧ ∀ c, 0 ≤ g.big c ∧ g.big c ≤ 1073741824 := by
  have e : limTo g 3 = ((((decide (g.now ≥ 0) && decide (g.now ≤ 1099511627776)) && (valB g.l0 && valB g.b0)) && (valB g.l1 && valB g.b1)) && (valB g.l2 && valB g.b2)) := rfl
  rw [e]
  simp only [Bool.and_eq_true, decide_eq_true_eq, valB_iff]
  constructor
  · rintro ⟨⟨⟨⟨h1, h2⟩, h3, h4⟩, h5, h6⟩, h7, h8⟩
    refine ⟨⟨h1, h2⟩, fun c => ?_, fun c => ?_⟩
    · unfold GtD.lim; split; exact h3; split; exact h5; exact h7
    · unfold GtD.big; split; exact h4; split; exact h6; exact h8
  · rintro ⟨⟨h1, h2⟩, h3, h4⟩
    exact ⟨⟨⟨⟨h1, h2⟩, h3 0, h4 0⟩, h3 1, h4 1⟩, h3 2, h4 2⟩
/-- A gate that may be. -/
theorem chk_iff {g : GtD} : chkGt g = 0 ↔ GtOk g ∧ ((g.past ++ g.queue).map QD.id).Nodup := by
  have r := rowsOk_iff (g := g) (L := g.past ++ g.queue) (g.past ++ g.queue).length (Nat.le_refl _)
  rw [List.take_length] at r
  unfold chkGt
  constructor
  · intro h
    split at h
    · cases h
    · rename_i hl
      split at h
      · rename_i hr
        obtain ⟨h1, h2, h3⟩ := r.1 hr
        obtain ⟨g1, g2, g3⟩ := limTo_iff.1 h1
        exact ⟨⟨by omega, by omega, g1, g2, g3, fun q hq => qOk_iff.1 (h2 q (List.mem_append.2 hq))⟩, h3⟩
      · cases h
  · rintro ⟨ok, nd⟩
    have h1 := ok.lp
    have h2 := ok.lq
    rw [if_neg (by omega), if_pos (r.2 ⟨limTo_iff.2 ⟨ok.now, ok.lim, ok.big⟩, fun q hq => qOk_iff.2 (ok.row q (List.mem_append.1 hq)), nd⟩)]
/-- What a gate at work holds, told apart. -/
theorem tk_perm {g : GtD} {N : Int} : ∀ i, i ≤ g.queue.length → ((tkRun g N i).out ++ (tkRun g N i).queue.map QD.id).Perm ((g.queue.take i).map QD.id)
  | 0, _ => by rw [List.take_zero]; exact List.Perm.refl _
  | i + 1, h => by
    have hc : i < g.queue.length := h
    have ih := tk_perm (g := g) (N := N) i (Nat.le_of_lt hc)
    rw [tkRun_succ g N hc, List.take_add_one, List.getElem?_eq_getElem hc, List.map_append]
    show (_ : List Int).Perm ((g.queue.take i).map QD.id ++ [g.queue[i].id])
    refine List.Perm.trans ?_ (List.Perm.append_right _ ih)
    unfold tkStep
    have mid : ∀ (a b : List Int) (x : Int), (a ++ [x] ++ b).Perm (a ++ b ++ [x]) := fun a b x => by
      rw [List.append_assoc, List.append_assoc]
      exact List.Perm.append_left _ List.perm_append_comm
    split
    · exact mid _ _ _
    · split
      · exact mid _ _ _
      · dsimp only
        rw [List.map_append, ← List.append_assoc]
        exact List.Perm.refl _
theorem tk_past {g : GtD} {N : Int} : ∀ i, i ≤ g.queue.length → ∀ q ∈ (tkRun g N i).past, (q ∈ g.past ∧ N - q.t < 24) ∨ (q.id ∈ (tkRun g N i).out ∧ q.t = N ∧ ∃ x ∈ g.queue, x.id = q.id ∧ x.v = q.v ∧ x.ch = q.ch ∧ N - x.t < 24)
  | 0, _ => fun q hq => by
    have := List.mem_filter.1 hq
    exact .inl ⟨this.1, of_decide_eq_true this.2⟩
  | i + 1, h => by
    have hc : i < g.queue.length := h
    have ih := tk_past (g := g) (N := N) i (Nat.le_of_lt hc)
    rw [tkRun_succ g N hc]
    unfold tkStep
    split
    · intro q hq
      rcases ih q hq with h1 | ⟨h1, h2⟩
      · exact .inl h1
      · exact .inr ⟨List.mem_append_left _ h1, h2⟩
    · rename_i h24
      split
      · intro q hq
        rcases List.mem_append.1 hq with hq | hq
        · rcases ih q hq with h1 | ⟨h1, h2⟩
          · exact .inl h1
          · exact .inr ⟨List.mem_append_left _ h1, h2⟩
        · rw [List.mem_singleton.1 hq]
          exact .inr ⟨List.mem_append_right _ (by simp), rfl, g.queue[i], List.getElem_mem hc, rfl, rfl, rfl, by omega⟩
      · intro q hq
        rcases ih q hq with h1 | h1
        · exact .inl h1
        · exact .inr h1
theorem tk_queue {g : GtD} {N : Int} : ∀ i, i ≤ g.queue.length → ∀ q ∈ (tkRun g N i).queue, q ∈ g.queue
  | 0, _ => fun q hq => by cases hq
  | i + 1, h => by
    have hc : i < g.queue.length := h
    have ih := tk_queue (g := g) (N := N) i (Nat.le_of_lt hc)
    rw [tkRun_succ g N hc]
    unfold tkStep
    split
    · exact ih
    · split
      · exact ih
      · intro q hq
        rcases List.mem_append.1 hq with hq | hq
        · exact ih q hq
        · rw [List.mem_singleton.1 hq]; exact List.getElem_mem hc
theorem tk_all {g : GtD} {N : Int} (ok : GtOk g) (hN : g.now ≤ N) : ∀ i, i ≤ g.queue.length → TkOk g N i (tkRun g N i)
  | 0, _ => tk_first ok hN
  | i + 1, h => tk_next (tk_all ok hN i (Nat.le_of_succ_le h)) ok hN h
/-- The ids of what a gate holds stay apart. -/
theorem tk_nodup {g : GtD} {N : Int} (nd : ((g.past ++ g.queue).map QD.id).Nodup) : ∀ i, i ≤ g.queue.length → (((tkRun g N i).past ++ ((tkRun g N i).queue ++ g.queue.drop i)).map QD.id).Nodup
  | 0, _ => by
    rw [List.drop_zero]
    refine List.Nodup.sublist ?_ nd
    exact List.Sublist.map _ (List.Sublist.append (l₁ := keptP g.past N) (r₁ := [] ++ g.queue) List.filter_sublist (List.Sublist.refl _))
  | i + 1, h => by
    have hc : i < g.queue.length := h
    have ih := tk_nodup (N := N) nd i (Nat.le_of_lt hc)
    rw [List.drop_eq_getElem_cons hc] at ih
    rw [tkRun_succ g N hc]
    unfold tkStep
    split
    · refine List.Nodup.sublist ?_ ih
      simp only [List.map_append, List.map_cons]
      exact List.Sublist.append_left (List.Sublist.append_left (List.sublist_cons_self _ _) _) _
    · split
      · refine (List.Perm.nodup_iff ?_).1 ih
        simp only [List.map_append, List.map_cons, List.map_nil]
        refine List.Perm.trans ?_ (List.Perm.of_eq (List.append_assoc _ _ _).symm)
        refine List.Perm.append_left _ ?_
        exact List.perm_middle
      · dsimp only
        rw [List.append_assoc]
        exact ih
theorem tick_ok {g : GtD} {h : Int} (ck : chkGt g = 0) (hr : 1 ≤ h ∧ g.now + h ≤ 1099511627776) : chkGt (tickG g h) = 0 := by
  obtain ⟨ok, nd⟩ := chk_iff.1 ck
  have n0 := ok.now.1
  have t := tk_all ok (N := g.now + h) (by omega) g.queue.length (Nat.le_refl _)
  have n := tk_nodup (N := g.now + h) nd g.queue.length (Nat.le_refl _)
  rw [List.drop_length, List.append_nil] at n
  refine chk_iff.2 ⟨⟨t.lp, Nat.le_trans t.lq ok.lq, ⟨by show 0 ≤ g.now + h; omega, hr.2⟩, ok.lim, ok.big, t.row⟩, n⟩
end Go.Proofs.Ytilmfdlonpjjiaa
