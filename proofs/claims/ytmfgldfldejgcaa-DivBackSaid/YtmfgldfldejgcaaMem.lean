/- What is known of a world in the middle of a function: below B it is as it was; and of each of the function's own variables, what it holds. -/
import Derived.Test.YtmfgldfldejgcaaJoin
namespace Go.Proofs.Ytmfgldfldejgcaa
set_option linter.unusedVariables false
set_option linter.unusedSimpArgs false
open Go.RowKit

abbrev Var := Nat × Array Value × TypeId
structure Mem (B : Nat) (w0 w : World) (L : List Var) : Prop where
  below : Below B w0 w
  base : B ≤ w.heap.size
  blk : ∀ x ∈ L, B ≤ x.1 ∧ x.1 < w.heap.size ∧ w.heap[x.1]? = some (.cells x.2.1 x.2.2 (0, 0))
  apart : L.Pairwise fun a b => a.1 ≠ b.1

section
variable {B : Nat} {w0 w w' : World} {L : List Var}
theorem Mem.begin (w : World) : Mem w.heap.size w w [] := ⟨Below.refl _ _, Nat.le_refl _, (fun _ h => by cases h), List.Pairwise.nil⟩
theorem Mem.drew (h : Mem B w0 w L) : Mem B w0 w.drew L := ⟨h.below.drew, h.base, h.blk, h.apart⟩
theorem Mem.call (h : Mem B w0 w L) (hb : Below w.heap.size w w') : Mem B w0 w' L :=
  ⟨h.below.trans (hb.mono h.base), Nat.le_trans h.base hb.size, fun x hx => by
    obtain ⟨h1, h2, h3⟩ := h.blk x hx
    exact ⟨h1, Nat.lt_of_lt_of_le h2 hb.size, by rw [hb.block _ h2]; exact h3⟩, h.apart⟩
theorem Mem.alloc (h : Mem B w0 w L) {cs : Array Value} {T : TypeId} : Mem B w0 (w.alloc (.cells cs T)) ((w.heap.size, cs, T) :: L) := by
  have hb : Below w.heap.size w (w.alloc (.cells cs T)) := (Below.refl _ _).alloc (Nat.le_refl _) _
  have h' := h.call hb
  refine ⟨h'.below, h'.base, fun x hx => ?_, List.Pairwise.cons (fun x hx => ?_) h.apart⟩
  · rcases List.mem_cons.1 hx with rfl | hx
    · exact ⟨h.base, by simp, heap_alloc_new w _⟩
    · exact h'.blk x hx
  · have := (h.blk x hx).2.1
    show w.heap.size ≠ x.1
    omega
/-- A new block of another kind. -/
theorem Mem.allocAny (h : Mem B w0 w L) (o : Obj) : Mem B w0 (w.alloc o) L := h.call ((Below.refl _ _).alloc (Nat.le_refl _) _)
theorem Mem.setRow (h : Mem B w0 w L) (k : Nat) {b : Nat} {cs : Array Value} {T : TypeId} (hk : L[k]? = some (b, cs, T)) (c : Array Value) : Mem B w0 (w.setRow b c) (L.set k (b, c, T)) := by
  obtain ⟨g1, g2, g3⟩ := h.blk _ (List.mem_of_getElem? hk)
  have hkl : k < L.length := (List.getElem?_eq_some_iff.1 hk).1
  have hkv : L[k] = (b, cs, T) := (List.getElem?_eq_some_iff.1 hk).2
  refine ⟨h.below.trans ⟨rfl, rfl, rfl, by simp, fun m hm => setRow_other _ _ _ _ (by simp only at g1; omega)⟩, by simpa using h.base, fun x hx => ?_, ?_⟩
  · obtain ⟨j, hj⟩ := List.getElem?_of_mem hx
    by_cases e : j = k
    · subst e
      simp [hkl] at hj
      subst hj
      exact ⟨g1, by simpa using g2, setRow_heap w b cs c T _ g3⟩
    · rw [List.getElem?_set_ne (Ne.symm e)] at hj
      obtain ⟨h1, h2, h3⟩ := h.blk x (List.mem_of_getElem? hj)
      refine ⟨h1, by simpa using h2, ?_⟩
      rw [setRow_other]
      · exact h3
      · obtain ⟨hjl, hjv⟩ := List.getElem?_eq_some_iff.1 hj
        have hp := List.pairwise_iff_getElem.1 h.apart
        rcases Nat.lt_or_gt_of_ne e with hlt | hgt
        · have := hp j k hjl hkl hlt; rw [hjv, hkv] at this; exact this
        · have := hp k j hkl hjl hgt; rw [hjv, hkv] at this; exact Ne.symm this
  · have := h.apart
    rw [List.pairwise_iff_getElem] at *
    intro i j hi hj hlt
    have hi' : i < L.length := by simpa using hi
    have hj' : j < L.length := by simpa using hj
    have key : ∀ m (hm : m < (L.set k (b, c, T)).length), ((L.set k (b, c, T))[m]).1 = (L[m]'(by simpa using hm)).1 := by
      intro m hm
      rw [List.getElem_set]
      split
      · rename_i e; subst e; rw [hkv]
      · rfl
    rw [key i hi, key j hj]
    exact this i j hi' hj' hlt
theorem Mem.setCell (h : Mem B w0 w L) (k : Nat) {b : Nat} {cs : Array Value} {T : TypeId} (hk : L[k]? = some (b, cs, T)) (i : Nat) (v : Value) :
    Mem B w0 (w.setCell ⟨b, i, none⟩ v) (L.set k (b, cs.setIfInBounds i v, T)) := by
  obtain ⟨g1, g2, g3⟩ := h.blk _ (List.mem_of_getElem? hk)
  rw [setCell_eq_setRow w b i cs T (0, 0) v g3]
  exact h.setRow k hk _
/-- A variable that is needed no more. -/
theorem Mem.drop (h : Mem B w0 w L) (k : Nat) : Mem B w0 w (L.eraseIdx k) :=
  ⟨h.below, h.base, fun x hx => h.blk x (List.mem_of_mem_eraseIdx hx), h.apart.sublist (List.eraseIdx_sublist L k)⟩

theorem Mem.cast (h : Mem B w0 w L) {L' : List Var} (e : L = L') : Mem B w0 w L' := e ▸ h
theorem Mem.take (h : Mem B w0 w L) (k : Nat) : Mem B w0 w (L.take k) :=
  ⟨h.below, h.base, fun x hx => h.blk x (List.mem_of_mem_take hx), h.apart.sublist (List.take_sublist k L)⟩

def cellsFrom (w : World) (b : Nat) : Nat → List Value → Prop
  | _, [] => True
  | i, c :: l => w.cell? ⟨b, i, none⟩ = some c ∧ cellsFrom w b (i + 1) l
def Cells (w : World) : List Var → Prop
  | [] => True
  | (b, cs, _) :: L => (b < w.heap.size ∧ b ≤ w.heap.size ∧ b ≤ w.heap.size + 1 ∧ b ≤ w.heap.size + 1 + 1 ∧ b ≤ w.heap.size + 1 + 1 + 1) ∧ (∀ o, w.frozen? ⟨b, o, none⟩ = false) ∧ cellsFrom w b 0 cs.toList ∧ Cells w L
theorem cellsFrom_of {b : Nat} {cs : Array Value} {T : TypeId} (h : w.heap[b]? = some (.cells cs T (0, 0))) : ∀ (l : List Value) (i : Nat), cs.toList.drop i = l → cellsFrom w b i l
  | [], _, _ => trivial
  | c :: l, i, hd => by
    have hi : cs.toList[i]? = some c := by
      have := congrArg (·[0]?) hd
      simpa using this
    refine ⟨?_, cellsFrom_of h l (i + 1) ?_⟩
    · simp only [World.cell?, h]
      simpa using hi
    · have := congrArg List.tail hd
      simpa [List.tail_drop] using this
theorem Mem.cells : ∀ {L : List Var}, Mem B w0 w L → Cells w L
  | [], _ => trivial
  | (b, cs, T) :: L, h => by
    obtain ⟨h1, h2, h3⟩ := h.blk (b, cs, T) (by simp)
    simp only at h1 h2 h3
    exact ⟨⟨h2, by omega, by omega, by omega, by omega⟩, fun o => by simp [World.frozen?, h3], cellsFrom_of h3 _ 0 rfl, Mem.cells ⟨h.below, h.base, fun x hx => h.blk x (by simp [hx]), (List.pairwise_cons.1 h.apart).2⟩⟩
/-- What lay there when the function began reads as it did. -/
theorem Mem.old (h : Mem B w0 w L) : ∀ b o, b < B → w.cell? ⟨b, o, none⟩ = w0.cell? ⟨b, o, none⟩ := fun b o hb => h.below.cell (p := ⟨b, o, none⟩) hb

/-- Behind a region by 'wp_join'. -/
def joined (ρ : Nat → Nat) (all : List RSpec) : Nat → List RSpec → List Var
  | _, [] => []
  | i, .new T zs :: l => (ρ i, content all i zs, T) :: joined ρ all (i + 1) l
  | i, _ :: l => joined ρ all (i + 1) l
theorem joined_blk (ρ : Nat → Nat) (all : List RSpec) : ∀ (l : List RSpec) (i : Nat), Facts all w ρ w' i l → ∀ x ∈ joined ρ all i l, w.heap.size ≤ x.1 ∧ x.1 < w'.heap.size ∧ w'.heap[x.1]? = some (.cells x.2.1 x.2.2 (0, 0))
  | [], _, _, _, h => by cases h
  | s :: l, i, hf, x, hx => by
    cases s with
    | val v => exact joined_blk ρ all l (i + 1) hf x hx
    | put k c => exact joined_blk ρ all l (i + 1) hf x hx
    | fill b c => exact joined_blk ρ all l (i + 1) hf x hx
    | new T zs =>
      rcases List.mem_cons.1 hx with rfl | hx
      · exact hf.1
      · exact joined_blk ρ all l (i + 1) hf.2 x hx
theorem joined_news (ρ : Nat → Nat) (all : List RSpec) : ∀ (l : List RSpec) (i : Nat), (joined ρ all i l).map (·.1) = (newsOf i l).map ρ
  | [], _ => rfl
  | s :: l, i => by
    cases s with
    | val v => exact joined_news ρ all l (i + 1)
    | put k c => exact joined_news ρ all l (i + 1)
    | fill b c => exact joined_news ρ all l (i + 1)
    | new T zs => simp [joined, newsOf, joined_news ρ all l (i + 1)]
theorem Mem.join (h : Mem B w0 w L) {ρ : Nat → Nat} {ss : List RSpec} (hb : Below w.heap.size w w') (hf : Facts ss w ρ w' 0 ss) (hd : ((newsOf 0 ss).map ρ).Pairwise (· ≠ ·)) : Mem B w0 w' (joined ρ ss 0 ss ++ L) := by
  have h' := h.call hb
  have hj := joined_blk ρ ss ss 0 hf
  refine ⟨h'.below, h'.base, fun x hx => ?_, ?_⟩
  · rcases List.mem_append.1 hx with hx | hx
    · obtain ⟨h1, h2, h3⟩ := hj x hx
      exact ⟨Nat.le_trans h.base h1, h2, h3⟩
    · exact h'.blk x hx
  · rw [List.pairwise_append]
    refine ⟨?_, h.apart, fun x hx y hy => ?_⟩
    · rw [← joined_news ρ ss ss 0, List.pairwise_map] at hd
      exact hd
    · have h1 := (hj x hx).1
      have h2 := (h.blk y hy).2.1
      omega

/-- Of the variables that are filled anew: what they held. -/
def OldsIn (L : List Var) : List RSpec → Prop
  | [] => True
  | .fill b c :: l => (∃ old T, (b, old, T) ∈ L ∧ old.size = c.size) ∧ OldsIn L l
  | _ :: l => OldsIn L l
theorem Mem.olds (h : Mem B w0 w L) : ∀ (ss : List RSpec), OldsIn L ss → Olds w ss
  | [], _ => trivial
  | s :: l, ho => by
    cases s with
    | fill b c =>
      obtain ⟨⟨old, T, h1, h2⟩, h3⟩ := ho
      exact ⟨⟨old, T, (h.blk _ h1).2.2, h2⟩, Mem.olds h l h3⟩
    | val v => exact Mem.olds h l ho
    | new T zs => exact Mem.olds h l ho
    | put k c => exact Mem.olds h l ho
theorem Mem.exb (h : Mem B w0 w L) {S : List Nat} (hb : ExB S w w') (hS : ∀ b ∈ S, B ≤ b) : Below B w0 w' :=
  ⟨hb.os.trans h.below.os, hb.tape.trans h.below.tape, hb.output.trans h.below.output, Nat.le_trans h.below.size hb.size, fun k hk => by
    rw [hb.block k (Nat.lt_of_lt_of_le hk h.base) (fun hs => by have := hS k hs; omega)]; exact h.below.block k hk⟩

/-- No two variables lie in one block. -/
def DistFrom (b : Nat) : List Var → Prop
  | [] => True
  | (c, _, _) :: L => (¬ b = c) ∧ (¬ c = b) ∧ DistFrom b L
def Dist : List Var → Prop
  | [] => True
  | (b, _, _) :: L => DistFrom b L ∧ Dist L
theorem distFrom_of {b : Nat} : ∀ {L : List Var}, (∀ x ∈ L, b ≠ x.1) → DistFrom b L
  | [], _ => trivial
  | (c, cs, T) :: L, h => ⟨h (c, cs, T) (by simp), Ne.symm (h (c, cs, T) (by simp)), distFrom_of fun x hx => h x (by simp [hx])⟩
theorem dist_of : ∀ {L : List Var}, (L.Pairwise fun a b => a.1 ≠ b.1) → Dist L
  | [], _ => trivial
  | (b, cs, T) :: L, h => ⟨distFrom_of (List.pairwise_cons.1 h).1, dist_of (List.pairwise_cons.1 h).2⟩
theorem Mem.dist (h : Mem B w0 w L) : Dist L := dist_of h.apart
/-- The variable in block b has a cell anew. -/
def updL (b i : Nat) (v : Value) (L : List Var) : List Var := L.map fun x => if x.1 = b then (x.1, x.2.1.setIfInBounds i v, x.2.2) else x
theorem Mem.setCellU (h : Mem B w0 w L) {b i : Nat} {v : Value} (hx : ∃ x ∈ L, x.1 = b) : Mem B w0 (w.setCell ⟨b, i, none⟩ v) (updL b i v L) := by
  obtain ⟨⟨b', cs, T⟩, hm, rfl⟩ := hx
  obtain ⟨g1, g2, g3⟩ := h.blk _ hm
  simp only at g1 g2 g3
  refine ⟨h.below.setCell g1 v, by simpa using h.base, fun x hx => ?_, ?_⟩
  · obtain ⟨y, hy, rfl⟩ := List.mem_map.1 hx
    obtain ⟨h1, h2, h3⟩ := h.blk y hy
    by_cases e : y.1 = b'
    · simp only [if_pos e]
      refine ⟨h1, by simpa using h2, ?_⟩
      rw [setCell_eq_setRow w b' i y.2.1 y.2.2 (0, 0) v (by rw [← e]; exact h3), e]
      exact setRow_heap w b' y.2.1 _ _ _ (by rw [← e]; exact h3)
    · simp only [if_neg e]
      refine ⟨h1, by simpa using h2, ?_⟩
      rw [Below.heap_setCell _ _ _ _ e]
      exact h3
  · rw [updL, List.pairwise_map]
    refine h.apart.imp fun {a c} hac => ?_
    have key : ∀ x : Var, (if x.1 = b' then (x.1, x.2.1.setIfInBounds i v, x.2.2) else x).1 = x.1 := fun x => by split <;> rfl
    rw [key, key]; exact hac

/-- The variables behind a region that fills some of them. -/
def refill : List RSpec → Var → Var
  | [], x => x
  | .fill b c :: l, x => if x.1 = b then (x.1, c, x.2.2) else refill l x
  | _ :: l, x => refill l x
theorem refill_spec : ∀ (ss : List RSpec) (x : Var), (x.1 ∉ setsOf ss ∧ refill ss x = x) ∨ (∃ (j : Nat) (c : Array Value), ss[j]? = some (.fill x.1 c) ∧ refill ss x = (x.1, c, x.2.2))
  | [], x => .inl ⟨by simp [setsOf], rfl⟩
  | s :: l, x => by
    have tl : (x.1 ∉ setsOf l ∧ refill l x = x) ∨ (∃ (j : Nat) (c : Array Value), (s :: l)[j]? = some (.fill x.1 c) ∧ refill l x = (x.1, c, x.2.2)) := by
      rcases refill_spec l x with h | ⟨j, c, h1, h2⟩
      · exact .inl h
      · exact .inr ⟨j + 1, c, by simpa using h1, h2⟩
    cases s with
    | val v => exact tl
    | new T zs => exact tl
    | put k c => exact tl
    | fill b c =>
      by_cases e : x.1 = b
      · exact .inr ⟨0, c, by simp [e], by simp [refill, e]⟩
      · rcases tl with ⟨h1, h2⟩ | h
        · exact .inl ⟨by simp [setsOf, e, h1], by simp only [refill, if_neg e]; exact h2⟩
        · obtain ⟨j, c', h1, h2⟩ := h
          exact .inr ⟨j, c', h1, by simp only [refill, if_neg e]; exact h2⟩
theorem refill_fst (ss : List RSpec) (x : Var) : (refill ss x).1 = x.1 := by
  rcases refill_spec ss x with ⟨_, h⟩ | ⟨_, _, _, h⟩ <;> rw [h]
theorem Mem.joinSet (h : Mem B w0 w L) {ρ : Nat → Nat} {ss : List RSpec} (hb : ExB (setsOf ss) w w')
    (hs : ∀ (j b : Nat) (c : Array Value), ss[j]? = some (.fill b c) → ∃ (T : TypeId) (old : Array Value), w'.heap[b]? = some (.cells c T (0, 0)) ∧ w.heap[b]? = some (.cells old T (0, 0)))
    (hin : ∀ b ∈ setsOf ss, ∃ x ∈ L, x.1 = b) (hf : Facts ss w ρ w' 0 ss) (hd : ((newsOf 0 ss).map ρ).Pairwise (· ≠ ·)) : Mem B w0 w' (joined ρ ss 0 ss ++ L.map (refill ss)) := by
  have hj := joined_blk ρ ss ss 0 hf
  refine ⟨h.exb hb fun b hbs => ?_, Nat.le_trans h.base hb.size, fun x hx => ?_, ?_⟩
  · obtain ⟨x, hx, rfl⟩ := hin b hbs
    exact (h.blk x hx).1
  · rcases List.mem_append.1 hx with hx | hx
    · obtain ⟨h1, h2, h3⟩ := hj x hx
      exact ⟨Nat.le_trans h.base h1, h2, h3⟩
    · obtain ⟨y, hy, rfl⟩ := List.mem_map.1 hx
      obtain ⟨g1, g2, g3⟩ := h.blk y hy
      rw [refill_fst]
      refine ⟨g1, Nat.lt_of_lt_of_le g2 hb.size, ?_⟩
      rcases refill_spec ss y with ⟨h1, h2⟩ | ⟨j, c, h1, h2⟩
      · rw [h2, hb.block _ g2 h1]; exact g3
      · obtain ⟨T, old, e1, e2⟩ := hs j y.1 c h1
        rw [g3] at e2
        cases e2
        rw [h2]; exact e1
  · rw [List.pairwise_append]
    refine ⟨?_, ?_, fun x hx y hy => ?_⟩
    · rw [← joined_news ρ ss ss 0, List.pairwise_map] at hd
      exact hd
    · rw [List.pairwise_map]
      refine h.apart.imp fun {a b} hab => ?_
      rw [refill_fst, refill_fst]; exact hab
    · obtain ⟨z, hz, rfl⟩ := List.mem_map.1 hy
      have h1 := (hj x hx).1
      have h2 := (h.blk z hz).2.1
      rw [refill_fst]
      omega
theorem Mem.one (h : Mem B w0 w L) {b i : Nat} {cs c : Array Value} {T : TypeId} {v : Value} (hx : (b, cs, T) ∈ L) (hi : i < cs.size) (hc : c = cs.setIfInBounds i v) :
    ∀ (old : Array Value) (T : TypeId), w.heap[b]? = some (.cells old T (0, 0)) → i < old.size ∧ c = old.setIfInBounds i v := by
  intro old T' h'
  have h2 := (h.blk _ hx).2.2
  simp only at h2
  rw [h2] at h'
  cases h'
  exact ⟨hi, hc⟩
/-- The world gets a name of its own: of it no more is known than of its variables. -/
theorem wp_world {P : Program} {Q : Exit → Act → World → Prop} {a : Act} {c : Code} (h : Mem B w0 w L) (k : ∀ w2, Mem B w0 w2 L → c.wp P Q a w2) : c.wp P Q a w := k w h
end
end Go.Proofs.Ytmfgldfldejgcaa
