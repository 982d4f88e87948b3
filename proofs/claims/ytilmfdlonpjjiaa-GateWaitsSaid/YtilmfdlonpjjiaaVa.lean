/- The engine, part 1: values, states, code, plain operations. -/
import Derived.Orders
import Derived.OrdersHeld
import Derived.Laws.Tables
import Derived.Laws.IdiomCopy
import Derived.Below
import Derived.ArgAppend
import Derived.Laws.Concat
namespace Go.Proofs.Ytilmfdlonpjjiaa
set_option linter.unusedVariables false
set_option linter.unusedSimpArgs false
set_option linter.unusedSectionVars false
open Go

/-- A value as the engine sees it: plain; made of cells; a tuple; a pointer into, a slice of, a block that is owned; a slice that is only read, with its cells; a pointer among such; a closure; nothing known. -/
inductive VV where
  | v (x : Value)
  | agg (cs : List VV)
  | tup (vs : List VV)
  | ptr (h off : Nat)
  | sl (h off n wd : Nat)
  | ds (full : Bool) (n : Nat) (es : List VV)
  | dp (es : List VV) (off : Nat)
  | fn (f : Fn) (caps : List VV)
  | ifc (t : TypeId) (x : VV)
  | mp (h : Nat)
  | it (h : Nat)
  | any
  deriving Inhabited

structure Env where
  w : World
  ρ : Nat → Option (Option Nat)
  A : Nat → Prop

/-- Cell i of a block holds u. -/
def Env.cell (E : Env) (b i : Nat) : Option Value := E.w.cell? ⟨b, i, none⟩

/-- A function and what it carries; a method and whose it is. -/
def mkF : Fn → List Value → Value
  | .method nm, us => .func (.method nm) us.toArray #[]
  | f, us => .func f #[] us.toArray
def ones (us : List Value) : Prop := ∀ u ∈ us, u.oneCell' = true
mutual
def VR (E : Env) : VV → Value → Prop
  | .v x, y => y = x
  | .agg cs, y => ∃ us : List Value, y = .agg us.toArray ∧ VRs E cs us ∧ ones us
  | .tup cs, y => ∃ us : List Value, y = .tuple us.toArray ∧ VRs E cs us
  | .ptr h off, y => ∃ b, E.ρ h = some (some b) ∧ y = .pointer (some ⟨b, off, none⟩) ∧ ∃ us T fr, E.w.heap[b]? = some (.cells us T fr)
  | .sl h off n wd, y => (E.ρ h = some none ∧ off = 0 ∧ n = 0 ∧ ∃ ao, y = .slice ao 0 0) ∨
      ∃ b cap, E.ρ h = some (some b) ∧ y = .slice (some ⟨b, off, none⟩) n cap ∧ n ≤ cap ∧ cap ≤ maxLen ∧ (∃ us T fr, E.w.heap[b]? = some (.cells us T fr) ∧ off + cap * wd ≤ us.size)
  | .ds full n es, y => (n = 0 ∧ es = [] ∧ ∃ ao, y = .slice ao 0 0) ∨
      ∃ b off cap, E.A b ∧ b < E.w.heap.size ∧ y = .slice (some ⟨b, off, none⟩) n cap ∧ n ≤ cap ∧ (full = true → cap = n) ∧ ∃ us : List Value, (∀ (i : Nat) (u : Value), us[i]? = some u → E.cell b (off + i) = some u) ∧ VRs E es us ∧ ones us
  | .dp es off, y => ∃ b base, E.A b ∧ b < E.w.heap.size ∧ y = .pointer (some ⟨b, base + off, none⟩) ∧ ∃ us : List Value, (∀ (i : Nat) (u : Value), us[i]? = some u → E.cell b (base + i) = some u) ∧ VRs E es us ∧ ones us
  | .fn f caps, y => ∃ us : List Value, y = mkF f us ∧ VRs E caps us
  | .ifc t x, y => ∃ u, y = .iface t u ∧ VR E x u
  | .mp h, y => ∃ b, E.ρ h = some (some b) ∧ y = .map (some b) ∧ ∃ es k, E.w.heap[b]? = some (.map es k)
  | .it h, y => ∃ b, E.ρ h = some (some b) ∧ y = .pointer (some ⟨b, 0, none⟩)
  | .any, _ => True
def VRs (E : Env) : List VV → List Value → Prop
  | [], us => us = []
  | c :: cs, us => ∃ u us', us = u :: us' ∧ VR E c u ∧ VRs E cs us'
end

theorem VRs.length {E : Env} : ∀ {cs : List VV} {us : List Value}, VRs E cs us → us.length = cs.length
  | [], us, h => by simp [VRs] at h; simp [h]
  | c :: cs, us, h => by
    simp only [VRs] at h
    obtain ⟨u, us', rfl, _, h2⟩ := h
    simp [VRs.length h2]
theorem VRs.get {E : Env} : ∀ {cs : List VV} {us : List Value}, VRs E cs us → ∀ {i : Nat} {c : VV}, cs[i]? = some c → ∃ u, us[i]? = some u ∧ VR E c u
  | [], us, h, i, c, hi => by simp at hi
  | x :: cs, us, h, i, c, hi => by
    simp only [VRs] at h
    obtain ⟨u, us', rfl, h1, h2⟩ := h
    cases i with
    | zero => simp at hi; subst hi; exact ⟨u, by simp, h1⟩
    | succ i => simp at hi; obtain ⟨u', h3, h4⟩ := VRs.get h2 hi; exact ⟨u', by simpa using h3, h4⟩
theorem VRs.of_get {E : Env} : ∀ {cs : List VV} {us : List Value}, us.length = cs.length → (∀ (i : Nat) (c : VV) (u : Value), cs[i]? = some c → us[i]? = some u → VR E c u) → VRs E cs us
  | [], us, hl, h => by simp at hl; simp [VRs, hl]
  | c :: cs, [], hl, h => by simp at hl
  | c :: cs, u :: us, hl, h => by
    simp only [VRs]
    exact ⟨u, us, rfl, h 0 c u (by simp) (by simp), VRs.of_get (by simpa using hl) fun i c' u' h1 h2 => h (i + 1) c' u' (by simpa using h1) (by simpa using h2)⟩
theorem VRs.append {E : Env} {cs ds : List VV} {us vs : List Value} (h : VRs E cs us) (k : VRs E ds vs) : VRs E (cs ++ ds) (us ++ vs) := by
  refine VRs.of_get (by simp [h.length, k.length]) fun i c u h1 h2 => ?_
  rw [List.getElem?_append] at h1 h2
  rw [h.length] at h2
  split at h1
  · rename_i hlt; rw [if_pos hlt] at h2
    obtain ⟨u', h3, h4⟩ := h.get h1
    rw [h2] at h3; cases h3; exact h4
  · rename_i hlt; rw [if_neg hlt] at h2
    obtain ⟨u', h3, h4⟩ := k.get h1
    rw [h2] at h3; cases h3; exact h4
theorem VRs.take {E : Env} {cs : List VV} {us : List Value} (h : VRs E cs us) (n : Nat) : VRs E (cs.take n) (us.take n) := by
  refine VRs.of_get (by simp [h.length]) fun i c u h1 h2 => ?_
  rw [List.getElem?_take] at h1 h2
  split at h1
  · rename_i hlt; rw [if_pos hlt] at h2
    obtain ⟨u', h3, h4⟩ := h.get h1
    rw [h2] at h3; cases h3; exact h4
  · cases h1
theorem VRs.drop {E : Env} {cs : List VV} {us : List Value} (h : VRs E cs us) (n : Nat) : VRs E (cs.drop n) (us.drop n) := by
  refine VRs.of_get (by simp [h.length]) fun i c u h1 h2 => ?_
  rw [List.getElem?_drop] at h1 h2
  obtain ⟨u', h3, h4⟩ := h.get h1
  rw [h2] at h3; cases h3; exact h4
theorem VRs.set {E : Env} {cs : List VV} {us : List Value} (h : VRs E cs us) (i : Nat) {c : VV} {u : Value} (hc : VR E c u) : VRs E (cs.set i c) (us.set i u) := by
  refine VRs.of_get (by simp [h.length]) fun j c' u' h1 h2 => ?_
  rw [List.getElem?_set] at h1 h2
  rw [h.length] at h2
  split at h1
  · rename_i e; rw [if_pos e] at h2
    split at h1
    · rename_i e2; rw [if_pos e2] at h2; cases h1; cases h2; exact hc
    · cases h1
  · rename_i e; rw [if_neg e] at h2
    obtain ⟨u', h3, h4⟩ := h.get h1
    rw [h2] at h3; cases h3; exact h4
theorem VRs.snoc_nil {E : Env} : VRs E [] [] := by simp [VRs]
theorem VRs.cons {E : Env} {c : VV} {cs : List VV} {u : Value} {us : List Value} (h : VR E c u) (k : VRs E cs us) : VRs E (c :: cs) (u :: us) := by
  simp only [VRs]; exact ⟨u, us, rfl, h, k⟩

/-- What holds in E holds in E'. -/
structure Env.Keep (E E' : Env) : Prop where
  size : E.w.heap.size ≤ E'.w.heap.size
  ρ : ∀ h x, E.ρ h = some x → E'.ρ h = some x
  A : ∀ b, b < E.w.heap.size → E.A b → E'.A b ∧ E'.w.heap[b]? = E.w.heap[b]?
  shape : ∀ (b : Nat) (us : Array Value) (T : TypeId) (fr : Nat × Nat), E.w.heap[b]? = some (.cells us T fr) → ∃ (us' : Array Value) (fr' : Nat × Nat), E'.w.heap[b]? = some (.cells us' T fr') ∧ us'.size = us.size
  mshape : ∀ (b : Nat) (es : Array MapEntry) (k : Nat), E.w.heap[b]? = some (.map es k) → ∃ (es' : Array MapEntry) (k' : Nat), E'.w.heap[b]? = some (.map es' k')

theorem Env.Keep.refl (E : Env) : E.Keep E := ⟨Nat.le_refl _, fun _ _ h => h, fun _ _ h => ⟨h, rfl⟩, fun _ us _ fr h => ⟨us, fr, h, rfl⟩, fun _ es k h => ⟨es, k, h⟩⟩
theorem Env.Keep.trans {E F G : Env} (h : E.Keep F) (k : F.Keep G) : E.Keep G where
  size := Nat.le_trans h.size k.size
  ρ := fun x y e => k.ρ x y (h.ρ x y e)
  A := fun b hb ha => by
    obtain ⟨h1, h2⟩ := h.A b hb ha
    obtain ⟨h3, h4⟩ := k.A b (Nat.lt_of_lt_of_le hb h.size) h1
    exact ⟨h3, h4.trans h2⟩
  shape := fun b us T fr e => by
    obtain ⟨u1, f1, h1, h2⟩ := h.shape b us T fr e
    obtain ⟨u2, f2, h3, h4⟩ := k.shape b u1 T f1 h1
    exact ⟨u2, f2, h3, h4.trans h2⟩
  mshape := fun b es m e => by
    obtain ⟨e1, k1, h1⟩ := h.mshape b es m e
    exact k.mshape b e1 k1 h1

mutual
theorem VR.keep {E E' : Env} (k : E.Keep E') : ∀ (c : VV) {u : Value}, VR E c u → VR E' c u
  | .v x, u, h => by simpa [VR] using h
  | .agg cs, u, h => by
    simp only [VR] at h ⊢
    obtain ⟨us, rfl, h, h1⟩ := h
    exact ⟨us, rfl, VRs.keep k cs h, h1⟩
  | .tup cs, u, h => by
    simp only [VR] at h ⊢
    obtain ⟨us, rfl, h⟩ := h
    exact ⟨us, rfl, VRs.keep k cs h⟩
  | .ptr h off, u, hh => by
    simp only [VR] at hh ⊢
    obtain ⟨b, h1, rfl, us, T, fr, h2⟩ := hh
    obtain ⟨us', fr', h3, _⟩ := k.shape b us T fr h2
    exact ⟨b, k.ρ _ _ h1, rfl, us', T, fr', h3⟩
  | .sl h off n wd, u, hh => by
    simp only [VR] at hh ⊢
    rcases hh with ⟨h1, h2, h3, h4⟩ | ⟨b, cap, h1, rfl, h2, hm, us, T, fr, h3, h4⟩
    · exact .inl ⟨k.ρ _ _ h1, h2, h3, h4⟩
    · obtain ⟨us', fr', h5, h6⟩ := k.shape b us T fr h3
      exact .inr ⟨b, cap, k.ρ _ _ h1, rfl, h2, hm, us', T, fr', h5, by omega⟩
  | .ds full n es, u, hh => by
    simp only [VR] at hh ⊢
    rcases hh with h | ⟨b, off, cap, hA, hb, rfl, h1, h2, us, h3, h4, ho⟩
    · exact .inl h
    · obtain ⟨h5, h6⟩ := k.A b hb hA
      refine .inr ⟨b, off, cap, h5, Nat.lt_of_lt_of_le hb k.size, rfl, h1, h2, us, fun i u hu => ?_, VRs.keep k es h4, ho⟩
      have := h3 i u hu
      simp only [Env.cell] at this ⊢
      rw [World.cell?_of_block (w := E.w) (by simpa using h6)]
      exact this
  | .dp es off, u, hh => by
    simp only [VR] at hh ⊢
    obtain ⟨b, base, hA, hb, rfl, us, h3, h4, ho⟩ := hh
    obtain ⟨h5, h6⟩ := k.A b hb hA
    refine ⟨b, base, h5, Nat.lt_of_lt_of_le hb k.size, rfl, us, fun i u hu => ?_, VRs.keep k es h4, ho⟩
    have := h3 i u hu
    simp only [Env.cell] at this ⊢
    rw [World.cell?_of_block (w := E.w) (by simpa using h6)]
    exact this
  | .fn f caps, u, h => by
    simp only [VR] at h ⊢
    obtain ⟨us, rfl, h⟩ := h
    exact ⟨us, rfl, VRs.keep k caps h⟩
  | .ifc t x, u, h => by
    simp only [VR] at h ⊢
    obtain ⟨u', rfl, h⟩ := h
    exact ⟨u', rfl, VR.keep k x h⟩
  | .mp h, u, hh => by
    simp only [VR] at hh ⊢
    obtain ⟨b, h1, rfl, es, m, h2⟩ := hh
    obtain ⟨es', m', h3⟩ := k.mshape b es m h2
    exact ⟨b, k.ρ _ _ h1, rfl, es', m', h3⟩
  | .it h, u, hh => by
    simp only [VR] at hh ⊢
    obtain ⟨b, h1, rfl⟩ := hh
    exact ⟨b, k.ρ _ _ h1, rfl⟩
  | .any, u, h => by simp [VR]
theorem VRs.keep {E E' : Env} (k : E.Keep E') : ∀ (cs : List VV) {us : List Value}, VRs E cs us → VRs E' cs us
  | [], us, h => by simpa [VRs] using h
  | c :: cs, us, h => by
    simp only [VRs] at h ⊢
    obtain ⟨u, us', rfl, h1, h2⟩ := h
    exact ⟨u, us', rfl, VR.keep k c h1, VRs.keep k cs h2⟩
end

-- no handle is named
mutual
def noH : VV → Bool
  | .v _ => true
  | .agg cs => noHs cs
  | .tup cs => noHs cs
  | .ptr _ _ => false
  | .sl _ _ _ _ => false
  | .ds _ _ es => noHs es
  | .dp es _ => noHs es
  | .fn _ caps => noHs caps
  | .ifc _ x => noH x
  | .mp _ => false
  | .it _ => false
  | .any => true
def noHs : List VV → Bool
  | [] => true
  | c :: cs => noH c && noHs cs
end
theorem noHs_iff : ∀ {cs : List VV}, noHs cs = true ↔ ∀ c ∈ cs, noH c = true
  | [] => by simp [noHs]
  | c :: cs => by simp [noHs, noHs_iff (cs := cs)]
theorem noHs_append {cs ds : List VV} : noHs (cs ++ ds) = (noHs cs && noHs ds) := by
  induction cs with
  | nil => simp [noHs]
  | cons c cs ih => simp [noHs, ih, Bool.and_assoc]
theorem noHs_take {cs : List VV} (n : Nat) (h : noHs cs = true) : noHs (cs.take n) = true := by
  rw [noHs_iff] at *; exact fun c hc => h c (List.mem_of_mem_take hc)
theorem noHs_drop {cs : List VV} (n : Nat) (h : noHs cs = true) : noHs (cs.drop n) = true := by
  rw [noHs_iff] at *; exact fun c hc => h c (List.mem_of_mem_drop hc)
theorem noHs_map {α : Type} {f : α → VV} (hf : ∀ x, noH (f x) = true) (l : List α) : noHs (l.map f) = true := by
  rw [noHs_iff]; intro c hc; obtain ⟨x, _, rfl⟩ := List.mem_map.1 hc; exact hf x
theorem noHs_flatMap {α : Type} {f : α → List VV} (hf : ∀ x, noHs (f x) = true) (l : List α) : noHs (l.flatMap f) = true := by
  rw [noHs_iff]; intro c hc; obtain ⟨x, _, h⟩ := List.mem_flatMap.1 hc; exact noHs_iff.1 (hf x) c h
theorem noHs_replicate {c : VV} (h : noH c = true) (n : Nat) : noHs (List.replicate n c) = true := by
  rw [noHs_iff]; intro d hd; rw [List.eq_of_mem_replicate hd]; exact h

/-- Values without handles go from world to world where the blocks that are read stand. -/
structure Env.Same (E E' : Env) : Prop where
  A : ∀ b, b < E.w.heap.size → E.A b → E'.A b ∧ b < E'.w.heap.size ∧ E'.w.heap[b]? = E.w.heap[b]?
mutual
theorem VR.same {E E' : Env} (k : E.Same E') : ∀ (c : VV) {u : Value}, noH c = true → VR E c u → VR E' c u
  | .v x, u, _, h => by simpa [VR] using h
  | .agg cs, u, hn, h => by
    simp only [VR] at h ⊢
    obtain ⟨us, rfl, h, h1⟩ := h
    exact ⟨us, rfl, VRs.same k cs (by simpa [noH] using hn) h, h1⟩
  | .tup cs, u, hn, h => by
    simp only [VR] at h ⊢
    obtain ⟨us, rfl, h⟩ := h
    exact ⟨us, rfl, VRs.same k cs (by simpa [noH] using hn) h⟩
  | .ptr h off, u, hn, hh => by simp [noH] at hn
  | .sl h off n wd, u, hn, hh => by simp [noH] at hn
  | .ds full n es, u, hn, hh => by
    simp only [VR] at hh ⊢
    rcases hh with h | ⟨b, off, cap, hA, hb, rfl, h1, h2, us, h3, h4, ho⟩
    · exact .inl h
    · obtain ⟨h5, h7, h6⟩ := k.A b hb hA
      refine .inr ⟨b, off, cap, h5, h7, rfl, h1, h2, us, fun i u hu => ?_, VRs.same k es (by simpa [noH] using hn) h4, ho⟩
      have := h3 i u hu
      simp only [Env.cell] at this ⊢
      rw [World.cell?_of_block (w := E.w) (by simpa using h6)]
      exact this
  | .dp es off, u, hn, hh => by
    simp only [VR] at hh ⊢
    obtain ⟨b, base, hA, hb, rfl, us, h3, h4, ho⟩ := hh
    obtain ⟨h5, h7, h6⟩ := k.A b hb hA
    refine ⟨b, base, h5, h7, rfl, us, fun i u hu => ?_, VRs.same k es (by simpa [noH] using hn) h4, ho⟩
    have := h3 i u hu
    simp only [Env.cell] at this ⊢
    rw [World.cell?_of_block (w := E.w) (by simpa using h6)]
    exact this
  | .fn f caps, u, hn, h => by
    simp only [VR] at h ⊢
    obtain ⟨us, rfl, h⟩ := h
    exact ⟨us, rfl, VRs.same k caps (by simpa [noH] using hn) h⟩
  | .ifc t x, u, hn, h => by
    simp only [VR] at h ⊢
    obtain ⟨u', rfl, h⟩ := h
    exact ⟨u', rfl, VR.same k x (by simpa [noH] using hn) h⟩
  | .mp h, u, hn, hh => by simp [noH] at hn
  | .it h, u, hn, hh => by simp [noH] at hn
  | .any, u, _, h => by simp [VR]
theorem VRs.same {E E' : Env} (k : E.Same E') : ∀ (cs : List VV) {us : List Value}, noHs cs = true → VRs E cs us → VRs E' cs us
  | [], us, _, h => by simpa [VRs] using h
  | c :: cs, us, hn, h => by
    simp only [VRs] at h ⊢
    simp [noHs] at hn
    obtain ⟨u, us', rfl, h1, h2⟩ := h
    exact ⟨u, us', rfl, VR.same k c hn.1 h1, VRs.same k cs hn.2 h2⟩
end

structure Cf where
  ρ : Nat → Option (Option Nat)
  A : Nat → Prop
  look : Nat → Option (List VV)
  w : World
def Cf.env (c : Cf) : Env := ⟨c.w, c.ρ, c.A⟩
def Cf.Owned (c : Cf) (b : Nat) : Prop := ∃ h cs, c.look h = some cs ∧ c.ρ h = some (some b)

/-- What is not to be written lies behind the cells. -/
def FrOk (fr : Nat × Nat) (n : Nat) : Prop := fr.1 = fr.2 ∨ n ≤ fr.1
theorem FrOk.not {fr : Nat × Nat} {n : Nat} (h : FrOk fr n) : ∀ i, i < n → ¬ (fr.1 ≤ i ∧ i < fr.2) := fun i hi => by unfold FrOk at h; omega
/-- A block with the cells cs. -/
def CellsAt (E : Env) (b : Nat) (cs : List VV) : Prop :=
  ∃ (us : Array Value) (T : TypeId) (fr : Nat × Nat), E.w.heap[b]? = some (.cells us T fr) ∧ FrOk fr us.size ∧ cs.length ≤ us.size ∧
    VRs E cs (us.toList.take cs.length) ∧ ones (us.toList.take cs.length)
/-- An entry of a map as a value. -/
def entV (e : MapEntry) : Value := .tuple #[e.key, e.val]
/-- A map with the entries cs: pairs of key and value. -/
inductive Shows : Obj → List Value → Prop
  | map {es : Array MapEntry} {k : Nat} : k = es.size → (∀ (i : Nat) (e : MapEntry), es.toList[i]? = some e → e.born = i) → Shows (.map es k) (es.toList.map entV)
  | iter {m : Option Nat} {since : Nat} {seen : Array Nat} {clock : Nat} : seen.toList.Nodup → (∀ x ∈ seen.toList, x < since) → since = clock → Shows (.mapIter m since seen clock) [.tuple #[.map m, .int .i64 (seen.size : Nat), .int .i64 (since : Nat)]]
def MapAt (E : Env) (b : Nat) (cs : List VV) : Prop :=
  ∃ (o : Obj) (us : List Value), E.w.heap[b]? = some o ∧ VRs E cs us ∧ Shows o us
def BlkAt (E : Env) (b : Nat) (cs : List VV) : Prop := ¬ E.A b ∧ (CellsAt E b cs ∨ MapAt E b cs)
theorem BlkAt.lt {E : Env} {b : Nat} {cs : List VV} (h : BlkAt E b cs) : b < E.w.heap.size := by
  obtain ⟨_, ⟨us, T, fr, h2, _⟩ | ⟨es, k, h2, _⟩⟩ := h <;> exact (Array.getElem?_eq_some_iff.1 h2).1
theorem BlkAt.cells {E : Env} {b : Nat} {cs : List VV} (h : BlkAt E b cs) {us : Array Value} {T : TypeId} {fr : Nat × Nat} (hb : E.w.heap[b]? = some (.cells us T fr)) :
    ¬ E.A b ∧ FrOk fr us.size ∧ cs.length ≤ us.size ∧ VRs E cs (us.toList.take cs.length) ∧ ones (us.toList.take cs.length) := by
  obtain ⟨hA, ⟨us', T', fr', h2, h3⟩ | ⟨es, k, h2, _⟩⟩ := h
  · rw [hb] at h2; cases h2; exact ⟨hA, h3⟩
  · rename_i hs; rw [hb] at h2; cases h2; cases hs.2
theorem BlkAt.map {E : Env} {b : Nat} {cs : List VV} (h : BlkAt E b cs) {es : Array MapEntry} {k : Nat} (hb : E.w.heap[b]? = some (.map es k)) :
    ¬ E.A b ∧ VRs E cs (es.toList.map entV) ∧ k = es.size ∧ ∀ (i : Nat) (e : MapEntry), es.toList[i]? = some e → e.born = i := by
  obtain ⟨hA, ⟨us', T', fr', h2, h3⟩ | ⟨o, us, h2, h3, h4⟩⟩ := h
  · rw [hb] at h2; cases h2
  · rw [hb] at h2; cases h2; cases h4 with | map a b => exact ⟨hA, h3, a, b⟩
structure HRel (c : Cf) : Prop where
  blk : ∀ h cs, c.look h = some cs → (c.ρ h = some none ∧ cs = []) ∨ ∃ b, c.ρ h = some (some b) ∧ BlkAt c.env b cs
  inj : ∀ h h' cs cs' b, c.look h = some cs → c.look h' = some cs' → c.ρ h = some (some b) → c.ρ h' = some (some b) → h = h'

/-- From configuration to configuration: nothing turns but what is owned. -/
structure Le (c c' : Cf) : Prop where
  keep : c.env.Keep c'.env
  os : c'.w.os = c.w.os
  tape : c'.w.tape = c.w.tape
  output : c'.w.output = c.w.output
  block : ∀ b, b < c.w.heap.size → ¬ c.Owned b → c'.w.heap[b]? = c.w.heap[b]? ∧ ¬ c'.Owned b
  back : ∀ b, c'.A b → c.A b ∨ c.Owned b ∨ c.w.heap.size ≤ b
theorem Le.refl (c : Cf) : Le c c := ⟨Env.Keep.refl _, rfl, rfl, rfl, fun _ _ h => ⟨rfl, h⟩, fun _ h => .inl h⟩
theorem Le.trans {a b c : Cf} (h : Le a b) (k : Le b c) : Le a c where
  keep := h.keep.trans k.keep
  os := k.os.trans h.os
  tape := k.tape.trans h.tape
  output := k.output.trans h.output
  block := fun x hx ho => by
    obtain ⟨h1, h2⟩ := h.block x hx ho
    obtain ⟨h3, h4⟩ := k.block x (Nat.lt_of_lt_of_le hx h.keep.size) h2
    exact ⟨h3.trans h1, h4⟩
  back := fun x hx => by
    rcases k.back x hx with h1 | h1 | h1
    · exact h.back x h1
    · rcases Nat.lt_or_ge x a.w.heap.size with h2 | h2
      · rcases Classical.em (a.Owned x) with h3 | h3
        · exact .inr (.inl h3)
        · exact absurd h1 (h.block x h2 h3).2
      · exact .inr (.inr h2)
    · exact .inr (.inr (Nat.le_trans h.keep.size h1))

/-- The same, whatever the handles are called. -/
structure LeW (K : Nat) (c c' : Cf) : Prop where
  size : c.w.heap.size ≤ c'.w.heap.size
  shape : ∀ (b : Nat) (us : Array Value) (T : TypeId) (fr : Nat × Nat), c.w.heap[b]? = some (.cells us T fr) → ∃ (us' : Array Value) (fr' : Nat × Nat), c'.w.heap[b]? = some (.cells us' T fr') ∧ us'.size = us.size
  mshape : ∀ (b : Nat) (es : Array MapEntry) (k : Nat), c.w.heap[b]? = some (.map es k) → ∃ (es' : Array MapEntry) (k' : Nat), c'.w.heap[b]? = some (.map es' k')
  os : c'.w.os = c.w.os
  tape : c'.w.tape = c.w.tape
  output : c'.w.output = c.w.output
  A : ∀ b, b < c.w.heap.size → c.A b → c'.A b ∧ c'.w.heap[b]? = c.w.heap[b]?
  block : ∀ b, b < c.w.heap.size → ¬ c.Owned b → c'.w.heap[b]? = c.w.heap[b]? ∧ ¬ c'.Owned b
  back : ∀ b, c'.A b → c.A b ∨ c.Owned b ∨ c.w.heap.size ≤ b
  anc : ∀ h x, h < K → c.ρ h = some x → c'.ρ h = some x
section
variable {K : Nat}
theorem Le.w {c c' : Cf} (h : Le c c') : LeW K c c' := ⟨h.keep.size, h.keep.shape, h.keep.mshape, h.os, h.tape, h.output, h.keep.A, h.block, h.back, fun x y _ e => h.keep.ρ x y e⟩
theorem LeW.refl (c : Cf) : LeW K c c := (Le.refl c).w
theorem LeW.trans {a b c : Cf} (h : LeW K a b) (k : LeW K b c) : LeW K a c where
  size := Nat.le_trans h.size k.size
  shape := fun x us T fr e => by
    obtain ⟨u1, f1, h1, h2⟩ := h.shape x us T fr e
    obtain ⟨u2, f2, h3, h4⟩ := k.shape x u1 T f1 h1
    exact ⟨u2, f2, h3, h4.trans h2⟩
  mshape := fun b es m e => by
    obtain ⟨e1, k1, h1⟩ := h.mshape b es m e
    exact k.mshape b e1 k1 h1
  os := k.os.trans h.os
  tape := k.tape.trans h.tape
  output := k.output.trans h.output
  A := fun x hx ha => by
    obtain ⟨h1, h2⟩ := h.A x hx ha
    obtain ⟨h3, h4⟩ := k.A x (Nat.lt_of_lt_of_le hx h.size) h1
    exact ⟨h3, h4.trans h2⟩
  block := fun x hx ho => by
    obtain ⟨h1, h2⟩ := h.block x hx ho
    obtain ⟨h3, h4⟩ := k.block x (Nat.lt_of_lt_of_le hx h.size) h2
    exact ⟨h3.trans h1, h4⟩
  back := fun x hx => by
    rcases k.back x hx with h1 | h1 | h1
    · exact h.back x h1
    · rcases Nat.lt_or_ge x a.w.heap.size with h2 | h2
      · rcases Classical.em (a.Owned x) with h3 | h3
        · exact .inr (.inl h3)
        · exact absurd h1 (h.block x h2 h3).2
      · exact .inr (.inr h2)
    · exact .inr (.inr (Nat.le_trans h.size h1))
  anc := fun x y hx e => k.anc x y hx (h.anc x y hx e)
end

def lk : List (Nat × Option (List VV)) → Nat → Option (List VV)
  | [], _ => none
  | (k, x) :: l, h => match decEq h k with
    | isTrue _ => x
    | isFalse _ => lk l h
def setL (h : Nat) (x : Option (List VV)) : List (Nat × Option (List VV)) → List (Nat × Option (List VV))
  | [] => [(h, x)]
  | p :: l => match Nat.beq p.1 h with
    | true => (h, x) :: l
    | false => p :: setL h x l
def ups (H : List (Nat × Option (List VV))) : List (Nat × Option (List VV)) → List (Nat × Option (List VV))
  | [] => H
  | p :: l => ups (setL p.1 p.2 H) l
def fup (f : Nat → Option (List VV)) : List (Nat × Option (List VV)) → Nat → Option (List VV)
  | [] => f
  | (h, x) :: l => fup (fun h' => if h' = h then x else f h') l
theorem lk_cons (k : Nat) (x : Option (List VV)) (l : List (Nat × Option (List VV))) (h : Nat) : lk ((k, x) :: l) h = if h = k then x else lk l h := by
  simp only [lk]
  cases hd : decEq h k with
  | isTrue e => rw [if_pos e]
  | isFalse e => rw [if_neg e]
theorem lk_setL (k : Nat) (x : Option (List VV)) (h : Nat) : ∀ (l : List (Nat × Option (List VV))), lk (setL k x l) h = if h = k then x else lk l h
  | [] => by simp only [setL]; rw [lk_cons]
  | (j, y) :: l => by
    simp only [setL]
    cases hb : Nat.beq j k with
    | true =>
      have := Nat.eq_of_beq_eq_true hb
      subst this
      simp only []
      rw [lk_cons, lk_cons]
      split <;> rfl
    | false =>
      have := Nat.ne_of_beq_eq_false hb
      simp only []
      rw [lk_cons, lk_setL k x h l, lk_cons]
      by_cases e : h = j
      · subst e; rw [if_pos rfl, if_pos rfl, if_neg this]
      · rw [if_neg e, if_neg e]
theorem lk_ups : ∀ (u : List (Nat × Option (List VV))) (H : List (Nat × Option (List VV))), lk (ups H u) = fup (lk H) u
  | [], _ => rfl
  | (h, x) :: l, H => by
    simp only [ups, fup]
    rw [lk_ups l]
    congr 1
    funext h'
    exact lk_setL h x h' H

def lkt : List (Nat × VV) → Nat → Option VV
  | [], _ => none
  | (k, v) :: l, t => match decEq t k with
    | isTrue _ => some v
    | isFalse _ => lkt l t
theorem lkt_cons (k : Nat) (v : VV) (l : List (Nat × VV)) (t : Nat) : lkt ((k, v) :: l) t = if t = k then some v else lkt l t := by
  simp only [lkt]
  cases hd : decEq t k with
  | isTrue e => rw [if_pos e]
  | isFalse e => rw [if_neg e]
/-- The slots of a frame hold what is said. -/
def SlR (E : Env) (T : List (Nat × VV)) (tmps : Array Value) : Prop := ∀ t v, lkt T t = some v → ∃ u, tmps[t]? = some u ∧ VR E v u
theorem SlR.keep {E E' : Env} (k : E.Keep E') {T : List (Nat × VV)} {tmps : Array Value} (h : SlR E T tmps) : SlR E' T tmps := fun t v ht => by
  obtain ⟨u, h1, h2⟩ := h t v ht
  exact ⟨u, h1, VR.keep k _ h2⟩
/-- A state: the slots (the last one that is said counts), how many there are, the blocks, the next handle. -/
structure VS where
  T : List (Nat × VV)
  sz : Nat
  H : List (Nat × Option (List VV))
  n : Nat

def Globs := Nat → Option (List VV)
structure St (G : Globs) (c : Cf) (σ : VS) (a : Act) : Prop where
  tmps : SlR c.env σ.T a.tmps
  size : a.tmps.size = σ.sz
  defers : a.defers = []
  look : c.look = lk σ.H
  heap : HRel c
  fresh : ∀ h, σ.n ≤ h → c.ρ h = none
  glob : ∀ g es, G g = some es → VR c.env (.dp es 0) (.pointer (some ⟨g, 0, none⟩))

theorem St.keep_glob {G : Globs} {c c' : Cf} (h : ∀ g es, G g = some es → VR c.env (.dp es 0) (.pointer (some ⟨g, 0, none⟩))) (k : Le c c') :
    ∀ g es, G g = some es → VR c'.env (.dp es 0) (.pointer (some ⟨g, 0, none⟩)) := fun g es e => VR.keep k.keep _ (h g es e)

section
variable (P : Program) (G : Globs) (K : Nat)
def Post (c : Cf) (Q : Exit → VS → Prop) : Exit → Act → World → Prop := fun e a' w' => ∃ c' σ', c'.w = w' ∧ Q e σ' ∧ St G c' σ' a' ∧ LeW K c c'
structure VWP (x : Code) (Q : Exit → VS → Prop) (σ : VS) : Prop where
  out : ∀ c a, St G c σ a → x.wp P (Post G K c Q) a c.w
def Around (c : Code) (Q : Exit → Act → World → Prop) (a : Act) (w : World) : Prop :=
  ∀ (b : Frame) (k : List Item) (cs : List Frame), ∃ e a' w', Q e a' w' ∧ Arrives P (lone (b.at a (.code c :: .inLoop c :: k)) cs w) b k cs e a' w'
structure VLoop (x : Code) (Q : Exit → VS → Prop) (σ : VS) : Prop where
  out : ∀ c a, St G c σ a → Around P x (Post G K c Q) a c.w
def VThen (next : VS → Prop) (Q : Exit → VS → Prop) : Exit → VS → Prop
  | .normal, σ => next σ
  | e, σ => Q e σ
def VBlock (id : Nat) (Q : Exit → VS → Prop) : Exit → VS → Prop
  | .exit id', σ => if id' = id then Q .normal σ else Q (.exit id') σ
  | e, σ => Q e σ
/-- All that is known in σ' is known in σ. -/
structure Sub (σ σ' : VS) : Prop where
  out : ∀ c a, St G c σ a → ∃ c', c'.w = c.w ∧ St G c' σ' a ∧ LeW K c c'
end
section
variable {P : Program} {G : Globs} {K : Nat}
theorem Post.le {c c1 : Cf} {Q : Exit → VS → Prop} (h : LeW K c c1) {e : Exit} {a : Act} {w : World} (k : Post G K c1 Q e a w) : Post G K c Q e a w := by
  obtain ⟨c2, σ2, h1, h2, h3, h4⟩ := k
  exact ⟨c2, σ2, h1, h2, h3, h.trans h4⟩
theorem vwp_mono {x : Code} {Q Q' : Exit → VS → Prop} {σ : VS} (h : VWP P G K x Q σ) (k : ∀ e σ, Q e σ → Q' e σ) : VWP P G K x Q' σ :=
  ⟨fun c a hs => Go.wp_mono (h.out c a hs) fun e a w ⟨c', σ', h1, h2, h3, h4⟩ => ⟨c', σ', h1, k _ _ h2, h3, h4⟩⟩
theorem vwp_sub {x : Code} {Q : Exit → VS → Prop} {σ σ' : VS} (hs : Sub G K σ σ') (h : VWP P G K x Q σ') : VWP P G K x Q σ := by
  refine ⟨fun c a st => ?_⟩
  obtain ⟨c', hw, st', hle⟩ := hs.out c a st
  have := h.out c' a st'
  rw [hw] at this
  exact Go.wp_mono this fun e a w k => k.le hle
theorem vloop_sub {x : Code} {Q : Exit → VS → Prop} {σ σ' : VS} (hs : Sub G K σ σ') (h : VLoop P G K x Q σ') : VLoop P G K x Q σ := by
  refine ⟨fun c a st => ?_⟩
  obtain ⟨c', hw, st', hle⟩ := hs.out c a st
  have := h.out c' a st'
  rw [hw] at this
  intro b k cs
  obtain ⟨e, a', w', h1, h2⟩ := this b k cs
  exact ⟨e, a', w', h1.le hle, h2⟩
theorem vwp_skip {Q : Exit → VS → Prop} {σ : VS} (h : Q .normal σ) : VWP P G K .skip Q σ := ⟨fun c a hs => Go.wp_skip ⟨c, σ, rfl, h, hs, LeW.refl c⟩⟩
theorem vwp_label {l : Nat} {Q : Exit → VS → Prop} {σ : VS} (h : Q .normal σ) : VWP P G K (.label l) Q σ := ⟨fun c a hs => Go.wp_label ⟨c, σ, rfl, h, hs, LeW.refl c⟩⟩
theorem vwp_exit {id : Nat} {Q : Exit → VS → Prop} {σ : VS} (h : Q (.exit id) σ) : VWP P G K (.exit id) Q σ := ⟨fun c a hs => Go.wp_exit ⟨c, σ, rfl, h, hs, LeW.refl c⟩⟩
theorem vwp_ret {Q : Exit → VS → Prop} {σ : VS} (h : Q .ret σ) : VWP P G K .ret Q σ := ⟨fun c a hs => Go.wp_ret ⟨c, σ, rfl, h, hs, LeW.refl c⟩⟩
theorem vwp_seq {x y : Code} {Q : Exit → VS → Prop} {σ : VS} (h : VWP P G K x (VThen (VWP P G K y Q) Q) σ) : VWP P G K (.seq x y) Q σ := by
  refine ⟨fun c a hs => ?_⟩
  refine Go.wp_seq (Go.wp_mono (h.out c a hs) fun e a1 w1 ⟨c1, σ1, hw, hq, hs1, hle⟩ => ?_)
  subst hw
  cases e with
  | normal => exact Go.wp_mono (hq.out c1 a1 hs1) fun e a w k => k.le hle
  | exit id => exact ⟨c1, σ1, rfl, hq, hs1, hle⟩
  | goto l => exact ⟨c1, σ1, rfl, hq, hs1, hle⟩
  | ret => exact ⟨c1, σ1, rfl, hq, hs1, hle⟩
  | panic ch => exact ⟨c1, σ1, rfl, hq, hs1, hle⟩
  | outgrown => exact ⟨c1, σ1, rfl, hq, hs1, hle⟩
theorem vwp_block {id : Nat} {x : Code} {Q : Exit → VS → Prop} {σ : VS} (h : VWP P G K x (VBlock id Q) σ) : VWP P G K (.block id x) Q σ := by
  refine ⟨fun c a hs => ?_⟩
  refine Go.wp_block (Go.wp_mono (h.out c a hs) fun e a1 w1 ⟨c1, σ1, hw, hq, hs1, hle⟩ => ?_)
  cases e with
  | exit id' =>
    simp only [Exit.inBlock, VBlock] at hq ⊢
    split at hq
    · rename_i e; rw [if_pos e]; exact ⟨c1, σ1, hw, hq, hs1, hle⟩
    · rename_i e; rw [if_neg e]; exact ⟨c1, σ1, hw, hq, hs1, hle⟩
  | normal => exact ⟨c1, σ1, hw, hq, hs1, hle⟩
  | goto l => exact ⟨c1, σ1, hw, hq, hs1, hle⟩
  | ret => exact ⟨c1, σ1, hw, hq, hs1, hle⟩
  | panic ch => exact ⟨c1, σ1, hw, hq, hs1, hle⟩
  | outgrown => exact ⟨c1, σ1, hw, hq, hs1, hle⟩
theorem around_unroll {x : Code} {Q : Exit → Act → World → Prop} {a : Act} {w : World} (h : x.wp P (Exit.then (Around P x Q) Q) a w) : Around P x Q a w := by
  intro b k cs
  obtain ⟨e, a₁, w₁, hq, harr⟩ := h b (.inLoop x :: k) cs
  cases e with
  | normal =>
    obtain ⟨e₂, a₂, w₂, hq₂, harr₂⟩ := hq b k cs
    exact ⟨e₂, a₂, w₂, hq₂, .of_steps (Steps.trans harr (.one Go.step_inLoop)) harr₂⟩
  | exit id => exact ⟨_, a₁, w₁, hq, .pass (x := .inLoop x) rfl (fun _ _ => .inl (by simp)) harr⟩
  | goto l => exact ⟨_, a₁, w₁, hq, .pass (x := .inLoop x) rfl (fun _ _ => .inl (by simp)) harr⟩
  | ret => exact ⟨_, a₁, w₁, hq, .pass (x := .inLoop x) rfl (fun _ _ => .inl (by simp)) harr⟩
  | panic ch => exact ⟨_, a₁, w₁, hq, .pass (x := .inLoop x) rfl (fun _ _ => .inl (by simp)) harr⟩
  | outgrown => exact ⟨_, a₁, w₁, hq, .pass (x := .inLoop x) rfl (fun _ _ => .inl (by simp)) harr⟩
theorem vwp_loop {x : Code} {Q : Exit → VS → Prop} {σ : VS} (h : VLoop P G K x Q σ) : VWP P G K (.loop x) Q σ := by
  refine ⟨fun c a hs b k cs => ?_⟩
  obtain ⟨e, a', w', hq, harr⟩ := h.out c a hs b k cs
  exact ⟨e, a', w', hq, .of_steps (.one Go.step_loop) harr⟩
theorem vloop_unroll {x : Code} {Q : Exit → VS → Prop} {σ : VS} (h : VWP P G K x (VThen (VLoop P G K x Q) Q) σ) : VLoop P G K x Q σ := by
  refine ⟨fun c a hs => ?_⟩
  refine around_unroll (Go.wp_mono (h.out c a hs) fun e a1 w1 ⟨c1, σ1, hw, hq, hs1, hle⟩ => ?_)
  subst hw
  cases e with
  | normal =>
    intro b k cs
    obtain ⟨e, a', w', h1, h2⟩ := hq.out c1 a1 hs1 b k cs
    exact ⟨e, a', w', h1.le hle, h2⟩
  | exit id => exact ⟨c1, σ1, rfl, hq, hs1, hle⟩
  | goto l => exact ⟨c1, σ1, rfl, hq, hs1, hle⟩
  | ret => exact ⟨c1, σ1, rfl, hq, hs1, hle⟩
  | panic ch => exact ⟨c1, σ1, rfl, hq, hs1, hle⟩
  | outgrown => exact ⟨c1, σ1, rfl, hq, hs1, hle⟩
/-- A loop by what is known ahead of each round, a number falling. -/
theorem vloop_inv {x : Code} {Q : Exit → VS → Prop} {σ : VS} {X : Type} (inv : X → VS) (μ : X → Nat) (x0 : X) (h0 : Sub G K σ (inv x0))
    (h : ∀ y, VWP P G K x (VThen (fun σ' => ∃ z, Sub G K σ' (inv z) ∧ μ z < μ y) Q) (inv y)) : VLoop P G K x Q σ := by
  refine vloop_sub h0 ?_
  have key : ∀ n y, μ y = n → VLoop P G K x Q (inv y) := by
    intro n
    induction n using Nat.strongRecOn with
    | _ n ih =>
      intro y hy
      refine vloop_unroll (vwp_mono (h y) fun e σ' q => ?_)
      cases e with
      | normal =>
        obtain ⟨z, h1, h2⟩ := q
        exact vloop_sub h1 (ih (μ z) (by omega) z rfl)
      | exit id => exact q
      | goto l => exact q
      | ret => exact q
      | panic ch => exact q
      | outgrown => exact q
  exact key _ x0 rfl
theorem vloop_invP {x : Code} {Q : Exit → VS → Prop} {σ : VS} {X : Type} (inv : X → VS) (I : X → Prop) (μ : X → Nat) (x0 : X) (h0 : Sub G K σ (inv x0)) (hI : I x0)
    (h : ∀ y, I y → VWP P G K x (VThen (fun σ' => ∃ z, Sub G K σ' (inv z) ∧ I z ∧ μ z < μ y) Q) (inv y)) : VLoop P G K x Q σ := by
  refine vloop_inv (X := {y : X // I y}) (fun y => inv y.1) (fun y => μ y.1) ⟨x0, hI⟩ h0 fun y => vwp_mono (h y.1 y.2) fun e σ' q => ?_
  cases e with
  | normal => obtain ⟨z, h1, h2, h3⟩ := q; exact ⟨⟨z, h2⟩, h1, h3⟩
  | exit id => exact q
  | goto l => exact q
  | ret => exact q
  | panic ch => exact q
  | outgrown => exact q
end

inductive TD where
  | int (k : IntKind) | bool | str | ptr | arr (n : Nat) (e : TypeId) | slice (e : TypeId) | struct (fs : List (Nat × TypeId)) | other
structure TR where
  d : TD
  size : Nat
  bytes : Nat
  zero : List VV
def Tab := TypeId → Option TR
def TD.agg : TD → Bool
  | .arr _ _ | .struct _ => true
  | _ => false
def cellV : Value → VV
  | .slice none 0 0 => .ds true 0 []
  | x => .v x
def TDok : TD → TypeDesc → Prop
  | .int k, d => d = .int k
  | .bool, d => d = .bool
  | .str, d => d = .string
  | .ptr, d => ∃ e, d = .pointer e
  | .arr n e, d => d = .array n e
  | .slice e, d => d = .slice e
  | .struct fs, d => ∃ fields : Array Field, d = .struct fields ∧ fields.toList.map (fun f => (f.offset, f.type)) = fs
  | .other, d => (match d with | .struct _ | .array _ _ | .interface _ => False | _ => True)
structure TROk (P : Program) (t : TypeId) (r : TR) : Prop where
  ex : ∃ d i z, P.underlying t = some d ∧ TDok r.d d ∧ P.info? t = some i ∧ i.size = r.size ∧ i.bytes = r.bytes ∧ i.zero = some z ∧ z.cells.toList.map cellV = r.zero ∧ z.cells.size = r.size ∧ (z.cells.all (·.oneCell')) = true
def TabOk (P : Program) (Γ : Tab) : Prop := ∀ t r, Γ t = some r → TROk P t r

theorem cellV_VR (E : Env) (x : Value) : VR E (cellV x) x := by
  unfold cellV
  split
  · simp [VR]
  · simp [VR]
theorem cellVs_VRs (E : Env) : ∀ us : List Value, VRs E (us.map cellV) us
  | [] => by simp [VRs]
  | u :: us => VRs.cons (cellV_VR E u) (cellVs_VRs E us)

section
variable {P : Program} {Γ : Tab} (hΓ : TabOk P Γ)
include hΓ
theorem run_isAgg_tab {t : TypeId} {r : TR} (h : Γ t = some r) (w : World) : (isAgg t).run P w = .ok r.d.agg w := by
  obtain ⟨d, i, z, h1, h2, _⟩ := (hΓ t r h).ex
  unfold isAgg
  rw [Sem.run_bind, run_underlying h1 w]
  cases hd : r.d <;> rw [hd] at h2 <;> simp only [TDok] at h2
  all_goals (try subst h2)
  all_goals (try rfl)
  · obtain ⟨e, rfl⟩ := h2; rfl
  · obtain ⟨fl, rfl, _⟩ := h2; rfl
  · cases d <;> first | (exact h2.elim) | rfl
theorem run_sizeOf_tab {t : TypeId} {r : TR} (h : Γ t = some r) (w : World) : (sizeOf t).run P w = .ok r.size w := by
  obtain ⟨d, i, z, _, _, h3, h4, _⟩ := (hΓ t r h).ex
  simp [sizeOf, typeInfo, h3, h4]
end

/-- Part of cells, as a value of type t. -/
def vpart (Γ : Tab) (t : TypeId) (cs : List VV) (off : Nat) : Option VV :=
  match Γ t with
  | some r => match r.d.agg with
    | true => (match Nat.beq off 0 && Nat.beq r.size cs.length with
      | true => some (.agg cs)
      | false => some (.agg ((cs.drop off).take r.size)))
    | false => cs[off]?
  | none => none
def vload (Γ : Tab) (t : TypeId) (cs : List VV) (off : Nat) : Option VV :=
  match Γ t with
  | some r => match r.d.agg with
    | true => (match Nat.beq off 0 && Nat.beq r.size cs.length with
      | true => some (.agg cs)
      | false => (match Nat.ble (off + r.size) cs.length with
        | true => some (.agg ((cs.drop off).take r.size))
        | false => none))
    | false => cs[off]?
  | none => none
theorem whole_of {cs : List VV} {off n : Nat} (h : (Nat.beq off 0 && Nat.beq n cs.length) = true) : cs = (cs.drop off).take n ∧ off + n ≤ cs.length := by
  rw [Bool.and_eq_true] at h
  have h1 := Nat.eq_of_beq_eq_true h.1
  have h2 := Nat.eq_of_beq_eq_true h.2
  subst h1
  exact ⟨by rw [List.drop_zero, List.take_of_length_le (by omega)], by omega⟩

theorem ones_take {us : List Value} (h : ones us) (n : Nat) : ones (us.take n) := fun u hu => h u (List.mem_of_mem_take hu)
theorem ones_drop {us : List Value} (h : ones us) (n : Nat) : ones (us.drop n) := fun u hu => h u (List.mem_of_mem_drop hu)
theorem ones_append {us vs : List Value} (h : ones us) (k : ones vs) : ones (us ++ vs) := fun u hu => (List.mem_append.1 hu).elim (h u) (k u)

theorem vpart_ok {P : Program} {Γ : Tab} (hΓ : TabOk P Γ) {E : Env} {t : TypeId} {cs : List VV} {us : List Value} {off : Nat} {v : VV} (h : vpart Γ t cs off = some v) (hr : VRs E cs us) (ho : ones us) (w : World) :
    ∃ u, (part t us.toArray off).run P w = .ok u w ∧ VR E v u := by
  unfold vpart at h
  cases ht : Γ t with
  | none => simp [ht] at h
  | some r =>
    simp only [ht] at h
    have hA := run_isAgg_tab hΓ ht w
    have hS := run_sizeOf_tab hΓ ht w
    cases hd : r.d.agg with
    | true =>
      simp only [hd] at h hA
      have hv : v = .agg ((cs.drop off).take r.size) := by
        split at h
        · rename_i hw; cases h; exact congrArg VV.agg (whole_of hw).1
        · cases h; rfl
      subst hv; clear h
      refine ⟨.agg ((us.drop off).take r.size).toArray, ?_, ?_⟩
      · unfold part
        simp [Sem.run_bind, hA, hS]
      · simp only [VR]
        exact ⟨_, rfl, (hr.drop off).take _, ones_take (ones_drop ho _) _⟩
    | false =>
      simp only [hd] at h hA
      obtain ⟨u, h1, h2⟩ := hr.get h
      refine ⟨u, ?_, h2⟩
      unfold part
      simp [Sem.run_bind, hA, h1]

/-- A load out of cells that are there. -/
theorem vload_ok {P : Program} {Γ : Tab} (hΓ : TabOk P Γ) {E : Env} {t : TypeId} {cs : List VV} {us : List Value} {b base off : Nat} {v : VV} (h : vload Γ t cs off = some v) (hr : VRs E cs us) (ho : ones us)
    (hc : ∀ (i : Nat) (u : Value), us[i]? = some u → E.cell b (base + i) = some u) :
    ∃ u, (loadVar t ⟨b, base + off, none⟩).run P E.w = .ok u E.w ∧ VR E v u := by
  unfold vload at h
  cases ht : Γ t with
  | none => simp [ht] at h
  | some r =>
    simp only [ht] at h
    have hA := run_isAgg_tab hΓ ht E.w
    have hS := run_sizeOf_tab hΓ ht E.w
    cases hd : r.d.agg with
    | true =>
      simp only [hd] at h hA
      have hv : v = .agg ((cs.drop off).take r.size) ∧ off + r.size ≤ cs.length := by
        split at h
        · rename_i hw; cases h; exact ⟨congrArg VV.agg (whole_of hw).1, (whole_of hw).2⟩
        · split at h
          · rename_i hw; cases h; exact ⟨rfl, Nat.le_of_ble_eq_true hw⟩
          · cases h
      clear h
      obtain ⟨rfl, hle⟩ := hv
      · have hlen := hr.length
        have hl := run_loadCells_list (P := P) E.w ⟨b, base + off, none⟩ ((us.drop off).take r.size) (fun j x hx => by
          rw [Addr.add_lit]
          rw [List.getElem?_take] at hx
          split at hx
          · rw [List.getElem?_drop] at hx
            have := hc _ _ hx
            rw [Nat.add_assoc]
            exact this
          · cases hx)
        have hl2 : ((us.drop off).take r.size).length = r.size := by simp; omega
        rw [hl2] at hl
        refine ⟨.agg ((us.drop off).take r.size).toArray, ?_, ?_⟩
        · unfold loadVar
          simp [Sem.run_bind, hA, hS, hl]
        · simp only [VR]
          exact ⟨_, rfl, (hr.drop off).take _, ones_take (ones_drop ho _) _⟩
    | false =>
      simp only [hd] at h hA
      obtain ⟨u, h1, h2⟩ := hr.get h
      refine ⟨u, ?_, h2⟩
      have := hc _ _ h1
      simp only [Env.cell] at this
      unfold loadVar
      simp [Sem.run_bind, hA, run_load, this]

def evalV (G : Globs) (T : List (Nat × VV)) : Operand → VV
  | .tmp t => match lkt T t with | some v => v | none => .any
  | .const v => match v with | .agg _ => .v v | x => cellV x
  | .global g => match G g with | some es => .dp es 0 | none => .v (.pointer (some ⟨g, 0, none⟩))
  | .func f => .fn (.func f) []
theorem evalV_ok {G : Globs} {E : Env} {T : List (Nat × VV)} {a : Act} (h : SlR E T a.tmps) (hg : ∀ g es, G g = some es → VR E (.dp es 0) (.pointer (some ⟨g, 0, none⟩))) (x : Operand) : VR E (evalV G T x) (a.eval x) := by
  cases x with
  | tmp t =>
    simp only [evalV, Act.eval, Array.getD_eq_getD_getElem?]
    split
    · rename_i v hv
      obtain ⟨u, h1, h2⟩ := h t v hv
      rw [h1]; exact h2
    · simp [VR]
  | const v =>
    simp only [evalV, Act.eval]
    split
    · simp [VR]
    · exact cellV_VR E _
  | global g =>
    simp only [evalV, Act.eval]
    split
    · rename_i es he; exact hg g es he
    · simp [VR]
  | func f => simp [evalV, Act.eval, VR, VRs, mkF]

/-- The cells of a value. -/
def cellsOf : VV → Option (List VV)
  | .agg cs => some cs
  | .tup _ => none
  | .any => none
  | .v (.agg _) => none
  | .v (.tuple _) => none
  | x => some [x]
theorem cellsOf_ok {E : Env} {x : VV} {y : Value} {cs : List VV} (h : cellsOf x = some cs) (hr : VR E x y) : VRs E cs y.cells.toList ∧ ones y.cells.toList := by
  have key : (∀ us, y ≠ .agg us) → (∀ us, y ≠ .tuple us) → cs = [x] → VRs E cs y.cells.toList ∧ ones y.cells.toList := by
    intro h1 h2 h3
    subst h3
    have : y.cells = #[y] := by cases y <;> first | rfl | exact absurd rfl (h1 _)
    rw [this]
    refine ⟨VRs.cons hr VRs.snoc_nil, fun u hu => ?_⟩
    simp at hu; subst hu
    cases u <;> first | rfl | exact absurd rfl (h1 _) | exact absurd rfl (h2 _)
  cases x with
  | agg ds =>
    simp only [cellsOf] at h; cases h
    simp only [VR] at hr
    obtain ⟨us, rfl, h1, h2⟩ := hr
    exact ⟨by simpa [Value.cells] using h1, by simpa [Value.cells] using h2⟩
  | tup ds => simp [cellsOf] at h
  | any => simp [cellsOf] at h
  | v z =>
    simp only [VR] at hr; subst hr
    cases y <;> simp only [cellsOf] at h <;> first | (cases h; exact key (fun _ e => by cases e) (fun _ e => by cases e) rfl) | cases h
  | ptr hh off => simp only [cellsOf] at h; cases h; have hr' := hr; simp only [VR] at hr'; obtain ⟨b, h1, rfl, _⟩ := hr'; exact key (fun _ e => by cases e) (fun _ e => by cases e) rfl
  | sl hh off n wd =>
    simp only [cellsOf] at h; cases h
    have hr' := hr
    simp only [VR] at hr'
    rcases hr' with ⟨_, _, _, ao, rfl⟩ | ⟨b, cap, _, rfl, _⟩ <;> exact key (fun _ e => by cases e) (fun _ e => by cases e) rfl
  | ds full n es =>
    simp only [cellsOf] at h; cases h
    have hr' := hr
    simp only [VR] at hr'
    rcases hr' with ⟨_, _, ao, rfl⟩ | ⟨b, off, cap, _, _, rfl, _⟩ <;> exact key (fun _ e => by cases e) (fun _ e => by cases e) rfl
  | dp es off => simp only [cellsOf] at h; cases h; have hr' := hr; simp only [VR] at hr'; obtain ⟨b, base, _, _, rfl, _⟩ := hr'; exact key (fun _ e => by cases e) (fun _ e => by cases e) rfl
  | fn f caps => simp only [cellsOf] at h; cases h; have hr' := hr; simp only [VR] at hr'; obtain ⟨us, rfl, _⟩ := hr'; exact key (fun _ e => by cases f <;> cases e) (fun _ e => by cases f <;> cases e) (by cases f <;> rfl)
  | ifc t x => simp only [cellsOf] at h; cases h; have hr' := hr; simp only [VR] at hr'; obtain ⟨us, rfl, _⟩ := hr'; exact key (fun _ e => by cases e) (fun _ e => by cases e) rfl
  | mp hh => simp only [cellsOf] at h; cases h; have hr' := hr; simp only [VR] at hr'; obtain ⟨b, h1, rfl, _⟩ := hr'; exact key (fun _ e => by cases e) (fun _ e => by cases e) rfl
  | it hh => simp only [cellsOf] at h; cases h; have hr' := hr; simp only [VR] at hr'; obtain ⟨b, h1, rfl⟩ := hr'; exact key (fun _ e => by cases e) (fun _ e => by cases e) rfl

/-- A value that no reduction looks into. -/
theorem hid_ex {α : Type} (a : α) : ∃ x, x = a := ⟨a, rfl⟩
noncomputable def hid {α : Type} (a : α) : α := Classical.choose (hid_ex a)
theorem hid_eq {α : Type} (a : α) : hid a = a := Classical.choose_spec (hid_ex a)
noncomputable def wS (k : IntKind) (x : Int) : Int := hid (k.wrap x)
theorem wS_eq (k : IntKind) (x : Int) : wS k x = k.wrap x := hid_eq _
/-- & | ^ &^ of whole numbers. -/
def bitI (op : BinOp) (k : IntKind) (x y : Int) : Int :=
  match op with
  | .and => k.wrap (BitVec.ofInt k.bits x &&& BitVec.ofInt k.bits y).toNat
  | .or => k.wrap (BitVec.ofInt k.bits x ||| BitVec.ofInt k.bits y).toNat
  | .xor => k.wrap (BitVec.ofInt k.bits x ^^^ BitVec.ofInt k.bits y).toNat
  | _ => k.wrap (BitVec.ofInt k.bits x &&& ~~~ BitVec.ofInt k.bits y).toNat
def bI (b : Bool) : VV := .v (.bool b)
def nI (k : IntKind) (x : Int) : VV := .v (.int k x)
noncomputable def bitS (op : BinOp) (k : IntKind) (x y : Int) : Int := hid (bitI op k x y)
theorem bitS_eq (op : BinOp) (k : IntKind) (x y : Int) : bitS op k x y = bitI op k x y := hid_eq _
noncomputable def vint (op : BinOp) (k : IntKind) (x y : Int) : Option VV :=
  match op with
  | .add => some (nI k (wS k (x + y)))
  | .sub => some (nI k (wS k (x - y)))
  | .mul => some (nI k (wS k (x * y)))
  | .quo => if y = 0 then none else some (nI k (wS k (x.tdiv y)))
  | .rem => if y = 0 then none else some (nI k (x.tmod y))
  | .and => some (nI k (bitS .and k x y))
  | .or => some (nI k (bitS .or k x y))
  | .xor => some (nI k (bitS .xor k x y))
  | .andNot => some (nI k (bitS .andNot k x y))
  | .eql => some (bI (x == y))
  | .neq => some (bI (x != y))
  | .lss => some (bI (decide (x < y)))
  | .leq => some (bI (decide (x ≤ y)))
  | .gtr => some (bI (decide (x > y)))
  | .geq => some (bI (decide (x ≥ y)))
  | _ => none
noncomputable def vshift (op : BinOp) (k : IntKind) (x y : Int) : Option VV :=
  if y < 0 then none else
  match op with
  | .shl => some (nI k (wS k (x * 2 ^ (min y.toNat k.bits))))
  | .shr => some (nI k (x.fdiv (2 ^ (min y.toNat k.bits))))
  | _ => none
noncomputable def vstr (op : BinOp) (x y : ByteArray) : Option VV :=
  match op with
  | .eql => some (bI (hid (x.toList == y.toList)))
  | .neq => some (bI (!(hid (x.toList == y.toList))))
  | .lss => some (bI (hid (Op.bytesLess x.toList y.toList)))
  | .leq => some (bI (hid (Op.bytesLess x.toList y.toList) || hid (x.toList == y.toList)))
  | .gtr => some (bI (!(hid (Op.bytesLess x.toList y.toList) || hid (x.toList == y.toList))))
  | .geq => some (bI (!hid (Op.bytesLess x.toList y.toList)))
  | .add => if x.size + y.size ≤ 9223372036854775807 then some (.v (.string (hid (x ++ y)))) else none
  | _ => none
def tdOf (Γ : Tab) (t : TypeId) : Option TD := match Γ t with | some r => some r.d | none => none
theorem tdOf_some {Γ : Tab} {t : TypeId} {d : TD} (h : tdOf Γ t = some d) : ∃ r, Γ t = some r ∧ r.d = d := by
  unfold tdOf at h
  split at h
  · rename_i r hr; cases h; exact ⟨r, hr, rfl⟩
  · cases h
def isShift : BinOp → Bool
  | .shl | .shr => true
  | _ => false
noncomputable def vbin (Γ : Tab) (op : BinOp) (t : TypeId) : VV → VV → Option VV
  | .v (.int k x), .v (.int k' y) => if isShift op then vshift op k x y else if k = k' then vint op k x y else none
  | .v (.string x), .v (.string y) => vstr op x y
  | .v (.bool x), .v (.bool y) => match tdOf Γ t with
      | some .bool => (match op with | .eql => some (bI (x == y)) | .neq => some (bI (!(x == y))) | _ => none)
      | _ => none
  | .ptr _ _, .v (.pointer none) => match tdOf Γ t with
      | some .ptr => (match op with | .eql => some (bI false) | .neq => some (bI true) | _ => none)
      | _ => none
  | .dp _ _, .v (.pointer none) => match tdOf Γ t with
      | some .ptr => (match op with | .eql => some (bI false) | .neq => some (bI true) | _ => none)
      | _ => none
  | .v (.pointer none), .v (.pointer none) => match tdOf Γ t with
      | some .ptr => (match op with | .eql => some (bI true) | .neq => some (bI false) | _ => none)
      | _ => none
  | _, _ => none

theorem run_intBits (P : Program) (op : BinOp) (k : IntKind) (x y : Int) (w : World) (h : op = .and ∨ op = .or ∨ op = .xor ∨ op = .andNot) :
    (Op.intBits op k x y).run P w = .ok (.int k (bitI op k x y)) w := by
  rcases h with rfl | rfl | rfl | rfl <;> rfl


theorem equal_of {P : Program} {t : TypeId} {d : TypeDesc} (h : P.underlying t = some d) (x y : Value) (r : Bool) (w : World)
    (hr : ∀ n, (Op.equalIn (n + 1) t x y).run P w = .ok r w) : (do pure (.bool (← Op.equal t x y)) : Sem Value).run P w = .ok (.bool r) w ∧ (do pure (.bool (!(← Op.equal t x y))) : Sem Value).run P w = .ok (.bool (!r)) w := by
  have := hr 9999
  simp only [Op.equal, Op.maxDepth, Sem.run_bind, this, Result.andThen_ok]
  exact ⟨rfl, rfl⟩
theorem equal_bool {P : Program} {t : TypeId} (h : P.underlying t = some .bool) (x y : Bool) (w : World) (n : Nat) : (Op.equalIn (n + 1) t (.bool x) (.bool y)).run P w = .ok (x == y) w := by
  simp only [Op.equalIn, Sem.run_bind, run_underlying h, Result.andThen_ok]
  rfl
theorem equal_nil {P : Program} {t e : TypeId} (h : P.underlying t = some (.pointer e)) (x : Addr) (w : World) (n : Nat) : (Op.equalIn (n + 1) t (.pointer (some x)) (.pointer none)).run P w = .ok false w := by
  simp only [Op.equalIn, Sem.run_bind, run_underlying h, Result.andThen_ok]
  rfl
theorem equal_nils {P : Program} {t e : TypeId} (h : P.underlying t = some (.pointer e)) (w : World) (n : Nat) : (Op.equalIn (n + 1) t (.pointer none) (.pointer none)).run P w = .ok true w := by
  simp only [Op.equalIn, Sem.run_bind, run_underlying h, Result.andThen_ok]
  rfl

theorem vbin_ok {P : Program} {Γ : Tab} (hΓ : TabOk P Γ) {E : Env} {op : BinOp} {t : TypeId} {x y v : VV} {a b : Value} (h : vbin Γ op t x y = some v) (hx : VR E x a) (hy : VR E y b) (ox oy : Operand) (w : World) :
    ∃ u, (do eqGuard op t ox oy a b; binOp op t a b : Sem Value).run P w = .ok u w ∧ VR E v u := by
  have noG : ∀ (a b : Value), (∀ x y, ¬ (a = .agg x ∧ b = .agg y)) → (¬ (a = .nilIface ∧ b = .nilIface)) → (eqGuard op t ox oy a b).run P w = .ok () w := by
    intro a b h1 h2
    unfold eqGuard
    repeat' split
    all_goals first | rfl | exact absurd ⟨rfl, rfl⟩ (h1 _ _) | exact absurd ⟨rfl, rfl⟩ h2 | contradiction
  have done : ∀ (a b : Value) (u : Value), (∀ x y, ¬ (a = .agg x ∧ b = .agg y)) → (¬ (a = .nilIface ∧ b = .nilIface)) → (binOp op t a b).run P w = .ok u w → VR E v u → ∃ u, (do eqGuard op t ox oy a b; binOp op t a b : Sem Value).run P w = .ok u w ∧ VR E v u := by
    intro a b u h1 h2 h3 h4
    refine ⟨u, ?_, h4⟩
    simp only [Sem.run_bind, noG a b h1 h2, Result.andThen_ok, h3]
  have hptr : ∀ r, Γ t = some r → r.d = .ptr → ∃ e, P.underlying t = some (.pointer e) := by
    intro r hr hd
    obtain ⟨d, i, z, h1, h2, _⟩ := (hΓ t r hr).ex
    rw [hd] at h2
    obtain ⟨e, rfl⟩ := h2
    exact ⟨e, h1⟩
  unfold vbin at h
  split at h
  · -- ints
    rename_i k i k' j
    simp only [VR] at hx hy; subst hx; subst hy
    split at h
    · rename_i hs
      unfold vshift at h
      simp only [wS_eq] at h
      split at h
      · cases h
      · rename_i hj
        cases op <;> simp [isShift] at hs <;> simp only [Option.some.injEq] at h <;> subst h <;>
          refine done _ _ _ (fun _ _ e => by cases e.1) (fun e => by cases e.1) ?_ (by simp only [nI, VR]; rfl) <;>
          simp [binOp, Op.shift, hj]
    · rename_i hs
      split at h
      · rename_i hk; subst hk
        unfold vint at h
        simp only [wS_eq, bitS_eq] at h
        cases op <;> simp [isShift] at hs <;> simp only [Option.some.injEq, reduceCtorEq] at h <;>
          first
          | (split at h
             · cases h
             · rename_i hz
               cases h
               refine done _ _ _ (fun _ _ e => by cases e.1) (fun e => by cases e.1) ?_ (by simp only [nI, VR]; rfl)
               simp [binOp, Op.intDiv, hz])
          | (subst h
             refine done _ _ _ (fun _ _ e => by cases e.1) (fun e => by cases e.1) ?_ (by simp only [nI, bI, VR]; rfl)
             first
             | rfl
             | simp [binOp, Op.intArith, Op.intCmp, run_intBits])
      · cases h
  · -- strings
    rename_i s r
    simp only [VR] at hx hy; subst hx; subst hy
    unfold vstr at h
    simp only [hid_eq] at h
    cases op
    case add =>
      simp only at h
      split at h
      · rename_i hsz
        cases h
        refine done _ _ _ (fun _ _ e => by cases e.1) (fun e => by cases e.1) ?_ (by simp only [VR]; rfl)
        rw [show binOp .add t (.string s) (.string r) = Op.stringOp .add s r by simp [binOp]]
        exact run_string_add_sum w _ _ hsz
      · cases h
    all_goals
      simp only [Option.some.injEq, reduceCtorEq] at h
    all_goals
      subst h
      refine done _ _ _ (fun _ _ e => by cases e.1) (fun e => by cases e.1) ?_ (by simp only [bI, VR]; rfl)
      rfl
  · -- bools
    rename_i s r
    simp only [VR] at hx hy; subst hx; subst hy
    split at h
    · rename_i hd
      obtain ⟨q, hq, hqd⟩ := tdOf_some hd
      obtain ⟨d, i, z, h1, h2, _⟩ := (hΓ t q hq).ex
      rw [hqd] at h2
      simp only [TDok] at h2; subst h2
      cases op <;> simp only [Option.some.injEq, reduceCtorEq] at h <;> subst h <;>
        refine done _ _ _ (fun _ _ e => by cases e.1) (fun e => by cases e.1) ?_ (by simp only [bI, VR]; rfl) <;>
        first | exact (equal_of h1 _ _ _ w (equal_bool h1 _ _ w)).1 | exact (equal_of h1 _ _ _ w (equal_bool h1 _ _ w)).2
    · cases h
  · -- a pointer and nil
    simp only [VR] at hx hy; subst hy
    obtain ⟨b', _, rfl, _⟩ := hx
    split at h
    · rename_i hd
      obtain ⟨q, hq, hqd⟩ := tdOf_some hd
      obtain ⟨e, h1⟩ := hptr q hq hqd
      cases op <;> simp only [Option.some.injEq, reduceCtorEq] at h <;> subst h <;>
        refine done _ _ _ (fun _ _ e => by cases e.1) (fun e => by cases e.1) ?_ (by simp only [bI, VR]; rfl) <;>
        first | exact (equal_of h1 _ _ _ w (equal_nil h1 _ w)).1 | exact (equal_of h1 _ _ _ w (equal_nil h1 _ w)).2
    · cases h
  · simp only [VR] at hx hy; subst hy
    obtain ⟨b', base, _, _, rfl, _⟩ := hx
    split at h
    · rename_i hd
      obtain ⟨q, hq, hqd⟩ := tdOf_some hd
      obtain ⟨e, h1⟩ := hptr q hq hqd
      cases op <;> simp only [Option.some.injEq, reduceCtorEq] at h <;> subst h <;>
        refine done _ _ _ (fun _ _ e => by cases e.1) (fun e => by cases e.1) ?_ (by simp only [bI, VR]; rfl) <;>
        first | exact (equal_of h1 _ _ _ w (equal_nil h1 _ w)).1 | exact (equal_of h1 _ _ _ w (equal_nil h1 _ w)).2
    · cases h
  · simp only [VR] at hx hy; subst hx; subst hy
    split at h
    · rename_i hd
      obtain ⟨q, hq, hqd⟩ := tdOf_some hd
      obtain ⟨e, h1⟩ := hptr q hq hqd
      cases op <;> simp only [Option.some.injEq, reduceCtorEq] at h <;> subst h <;>
        refine done _ _ _ (fun _ _ e => by cases e.1) (fun e => by cases e.1) ?_ (by simp only [bI, VR]; rfl) <;>
        first | exact (equal_of h1 _ _ _ w (equal_nils h1 w)).1 | exact (equal_of h1 _ _ _ w (equal_nils h1 w)).2
    · cases h
  · cases h

noncomputable def vun (op : UnOp) : VV → Option VV
  | .v (.int k n) => match op with
    | .neg => some (nI k (wS k (0 - n)))
    | .xor => some (nI k (bitS .xor k (if k.signed then -1 else k.max) n))
    | _ => none
  | .v (.bool b) => match op with
    | .not => some (bI (!b))
    | _ => none
  | _ => none
theorem vun_ok {P : Program} {E : Env} {op : UnOp} {x v : VV} {a : Value} (h : vun op x = some v) (hx : VR E x a) (w : World) : ∃ u, (Op.unary op a).run P w = .ok u w ∧ VR E v u := by
  unfold vun at h
  simp only [wS_eq, bitS_eq] at h
  split at h
  · simp only [VR] at hx; subst hx
    cases op <;> simp only [Option.some.injEq, reduceCtorEq] at h <;> subst h <;> refine ⟨_, ?_, by simp only [nI, VR]; rfl⟩ <;> first | rfl | simp [Op.unary, run_intBits]
  · simp only [VR] at hx; subst hx
    cases op <;> simp only [Option.some.injEq, reduceCtorEq] at h <;> subst h
    exact ⟨_, rfl, by simp only [bI, VR]⟩
  · cases h
noncomputable def vconv (Γ : Tab) (dst : TypeId) (x : VV) : Option VV :=
  match tdOf Γ dst, x with
  | some (.int k), .v (.int _ n) => some (nI k (wS k n))
  | some .str, .v (.string s) => some (.v (.string s))
  | _, _ => none
theorem vconv_ok {P : Program} {Γ : Tab} (hΓ : TabOk P Γ) {E : Env} {src dst : TypeId} {x v : VV} {a : Value} (h : vconv Γ dst x = some v) (hs : (Γ src).isSome = true) (hx : VR E x a) (w : World) :
    ∃ u, (convert src dst a).run P w = .ok u w ∧ VR E v u := by
  obtain ⟨rs, hrs⟩ := Option.isSome_iff_exists.1 hs
  obtain ⟨ds, is, zs, g1, _⟩ := (hΓ src rs hrs).ex
  unfold vconv at h
  simp only [wS_eq] at h
  split at h
  · rename_i k k' n hd
    obtain ⟨q, hq, hqd⟩ := tdOf_some hd
    obtain ⟨d, i, z, h1, h2, _⟩ := (hΓ dst q hq).ex
    rw [hqd] at h2
    simp only [TDok] at h2; subst h2
    simp only [VR] at hx; subst hx
    cases h
    exact ⟨.int k (k.wrap n), by simp [convert, run_underlying g1, run_underlying h1, Conv.intToInt], by simp only [nI, VR]⟩
  · rename_i s hd
    obtain ⟨q, hq, hqd⟩ := tdOf_some hd
    obtain ⟨d, i, z, h1, h2, _⟩ := (hΓ dst q hq).ex
    rw [hqd] at h2
    simp only [TDok] at h2; subst h2
    simp only [VR] at hx; subst hx
    cases h
    exact ⟨.string s, by simp [convert, run_underlying g1, run_underlying h1], by simp only [VR]⟩
  · cases h

def splice {α : Type} (cs : List α) (off : Nat) (new : List α) : List α := cs.take off ++ (new ++ cs.drop (off + new.length))
theorem splice_length {α : Type} {cs : List α} {off : Nat} {new : List α} (h : off + new.length ≤ cs.length) : (splice cs off new).length = cs.length := by
  simp [splice]; omega
theorem splice_VRs {E : Env} {cs new : List VV} {us nu : List Value} {off : Nat} (h : VRs E cs us) (k : VRs E new nu) : VRs E (splice cs off new) (splice us off nu) := by
  unfold splice
  rw [k.length]
  exact (h.take _).append (k.append (h.drop _))
theorem splice_ones {us nu : List Value} {off : Nat} (h : ones us) (k : ones nu) : ones (splice us off nu) := ones_append (ones_take h _) (ones_append k (ones_drop h _))
/-- Setting cells one by one. -/
theorem setAll_splice : ∀ (new : List Value) (k off : Nat) (cs : Array Value), off + k + new.length ≤ cs.size →
    ((new.zipIdx k).foldl (fun cs (c, j) => cs.setIfInBounds (off + j) c) cs).toList = splice cs.toList (off + k) new
  | [], k, off, cs, h => by simp [splice]
  | u :: new, k, off, cs, h => by
    simp only [List.length_cons] at h
    rw [List.zipIdx_cons, List.foldl_cons, setAll_splice new (k + 1) off _ (by simp; omega), Array.toList_setIfInBounds]
    have hlt : off + k < cs.toList.length := by simp; omega
    generalize cs.toList = l at hlt ⊢
    unfold splice
    apply List.ext_getElem?
    intro i
    have e1 : min (off + (k + 1)) l.length = off + k + 1 := by omega
    have e2 : min (off + k) l.length = off + k := by omega
    simp only [List.getElem?_append, List.length_take, List.length_set, List.length_cons, List.getElem?_take, List.getElem?_set, List.getElem?_drop, e1, e2]
    rcases Nat.lt_trichotomy i (off + k) with h1 | h1 | h1
    · simp (disch := omega) only [if_pos, if_neg]
    · subst h1
      simp (disch := omega) only [if_pos, if_neg]
      simp [hlt]
    · simp (disch := omega) only [if_pos, if_neg]
      by_cases h2 : i - (off + k + 1) < new.length
      · simp (disch := omega) only [if_pos, if_neg]
        rw [show i - (off + k) = (i - (off + k + 1)) + 1 by omega]
        simp
      · simp (disch := omega) only [if_pos, if_neg]
        congr 1
        omega

def vfill (place : Nat → Option (Nat × Nat)) (cells : List VV) : List (Nat × VV) → Option (List VV)
  | [] => some cells
  | (i, v) :: rest =>
    match place i, cellsOf v with
    | some (off, size), some cs => if cs.length = size ∧ off + cs.length ≤ cells.length then vfill place (splice cells off cs) rest else none
    | _, _ => none
theorem vfill_ok {E : Env} {place : Nat → Option (Nat × Nat)} : ∀ (parts : List (Nat × VV)) (vals : List (Nat × Value)) (cells : List VV) (us : Array Value) (r : List VV),
    vfill place cells parts = some r → VRs E cells us.toList → ones us.toList → parts.map (·.1) = vals.map (·.1) → VRs E (parts.map (·.2)) (vals.map (·.2)) →
    ∃ us', Instr.fill place us vals = some us' ∧ VRs E r us'.toList ∧ ones us'.toList
  | [], vals, cells, us, r, h, hr, ho, h1, h2 => by
    simp at h1; subst h1
    simp only [vfill] at h; cases h
    exact ⟨us, rfl, hr, ho⟩
  | (i, v) :: rest, vals, cells, us, r, h, hr, ho, h1, h2 => by
    cases vals with
    | nil => simp at h1
    | cons p vals =>
      obtain ⟨j, u⟩ := p
      simp at h1
      obtain ⟨rfl, h1⟩ := h1
      simp only [List.map_cons, VRs] at h2
      obtain ⟨u', us', e, hv, h2⟩ := h2
      cases e
      unfold vfill at h
      split at h
      · rename_i off size cs hp hc
        split at h
        · rename_i hle
          obtain ⟨k1, k2⟩ := cellsOf_ok hc hv
          have hlen := k1.length
          have hl := hr.length
          have hl' : us.size = cells.length := by simpa using hl
          have hcs : u.cells.size = cs.length := by simpa using hlen
          have hs := setAll_splice u.cells.toList 0 off us (by simp at hlen ⊢; omega)
          obtain ⟨us2, g1, g2, g3⟩ := vfill_ok rest vals (splice cells off cs) ((u.cells.toList.zipIdx 0).foldl (fun cs (c, j) => cs.setIfInBounds (off + j) c) us) r h
            (by rw [hs]; exact splice_VRs hr k1) (by rw [hs]; exact splice_ones ho k2) h1 h2
          refine ⟨us2, ?_, g2, g3⟩
          rw [← g1]
          rw [Instr.fill, hp]
          simp only
          have hcond : (decide (u.cells.size ≠ size) || decide (off + u.cells.size > us.size)) = false := by simp; omega
          simp only [hcond, Bool.false_eq_true, if_false]
          rw [← Array.foldl_toList, Array.toList_zipIdx]
        · cases h
      · cases h

/-- The place of a field. -/
def fieldOff (Γ : Tab) (t : TypeId) (f : Nat) : Option (Nat × TypeId) :=
  match tdOf Γ t with
  | some (.struct fs) => fs[f]?
  | _ => none
def arrOf (Γ : Tab) (t : TypeId) : Option (Nat × TypeId × Nat) :=
  match tdOf Γ t with
  | some (.arr n e) => match Γ e with | some r => some (n, e, r.size) | none => none
  | _ => none
def sliceOf (Γ : Tab) (t : TypeId) : Option (TypeId × TR) :=
  match tdOf Γ t with
  | some (.slice e) => match Γ e with | some r => some (e, r) | none => none
  | _ => none
theorem fieldOff_ok {P : Program} {Γ : Tab} (hΓ : TabOk P Γ) {t : TypeId} {f off : Nat} {ft : TypeId} (h : fieldOff Γ t f = some (off, ft)) :
    ∃ (fields : Array Field) (fd : Field), P.underlying t = some (.struct fields) ∧ fields[f]? = some fd ∧ fd.offset = off ∧ fd.type = ft := by
  unfold fieldOff at h
  split at h
  · rename_i fs hd
    obtain ⟨r, hr, hrd⟩ := tdOf_some hd
    obtain ⟨d, i, z, h1, h2, _⟩ := (hΓ t r hr).ex
    rw [hrd] at h2
    obtain ⟨fields, rfl, hf⟩ := h2
    rw [← hf] at h
    simp at h
    obtain ⟨fd, hfd, e1, e2⟩ := h
    exact ⟨fields, fd, h1, hfd, e1, e2⟩
  · cases h
theorem arrOf_ok {P : Program} {Γ : Tab} (hΓ : TabOk P Γ) {t e : TypeId} {n s : Nat} (h : arrOf Γ t = some (n, e, s)) :
    P.underlying t = some (.array n e) ∧ ∃ r, Γ e = some r ∧ r.size = s := by
  unfold arrOf at h
  split at h
  · rename_i n' e' hd
    obtain ⟨r, hr, hrd⟩ := tdOf_some hd
    obtain ⟨d, i, z, h1, h2, _⟩ := (hΓ t r hr).ex
    rw [hrd] at h2
    simp only [TDok] at h2; subst h2
    split at h
    · rename_i q hq; cases h; exact ⟨h1, q, hq, rfl⟩
    · cases h
  · cases h
theorem sliceOf_ok {P : Program} {Γ : Tab} (hΓ : TabOk P Γ) {t e : TypeId} {r : TR} (h : sliceOf Γ t = some (e, r)) :
    P.underlying t = some (.slice e) ∧ Γ e = some r := by
  unfold sliceOf at h
  split at h
  · rename_i e' hd
    obtain ⟨q, hq, hqd⟩ := tdOf_some hd
    obtain ⟨d, i, z, h1, h2, _⟩ := (hΓ t q hq).ex
    rw [hqd] at h2
    simp only [TDok] at h2; subst h2
    split at h
    · rename_i q' hq'; cases h; exact ⟨h1, hq'⟩
    · cases h
  · cases h

def inB (i : Int) (n : Nat) : Bool := decide (0 ≤ i) && decide (i < n)
def vindexAddr (Γ : Tab) (t : TypeId) (x i : VV) : Option VV :=
  match i with
  | .v (.int _ i) => match x with
    | .ptr h o => match arrOf Γ t with | some (n, _, s) => if inB i n then some (.ptr h (o + i.toNat * s)) else none | none => none
    | .dp es o => match arrOf Γ t with | some (n, _, s) => if inB i n then some (.dp es (o + i.toNat * s)) else none | none => none
    | .sl h o n wd => match sliceOf Γ t with | some (_, r) => if inB i n then some (.ptr h (o + i.toNat * r.size)) else none | none => none
    | .ds _ n es => match sliceOf Γ t with | some (_, r) => if inB i n then some (.dp es (i.toNat * r.size)) else none | none => none
    | _ => none
  | _ => none
theorem inB_iff {i : Int} {n : Nat} (h : inB i n = true) : 0 ≤ i ∧ i < (n : Int) := by simpa [inB] using h
theorem vindexAddr_ok {P : Program} {Γ : Tab} (hΓ : TabOk P Γ) {E : Env} {t : TypeId} {x i v : VV} {a b : Value} (h : vindexAddr Γ t x i = some v) (hx : VR E x a) (hi : VR E i b) (w : World) :
    ∃ u, (Instr.indexAt t a b).run P w = .ok u w ∧ VR E v u := by
  unfold vindexAddr at h
  split at h
  · rename_i k i
    simp only [VR] at hi; subst hi
    split at h
    · rename_i hh o
      split at h
      · rename_i n e s ha
        split at h
        · rename_i hb
          cases h
          have hb := inB_iff hb
          obtain ⟨h1, r, h2, rfl⟩ := arrOf_ok hΓ ha
          simp only [VR] at hx
          obtain ⟨b, h3, rfl, hq⟩ := hx
          refine ⟨.pointer (some ⟨b, o + i.toNat * r.size, none⟩), ?_, by simp only [VR]; exact ⟨b, h3, rfl, hq⟩⟩
          simp [Instr.indexAt, asIntOf, run_underlying h1, Instr.sureAddr, hb, run_sizeOf_tab hΓ h2, Addr.add_lit]
        · cases h
      · cases h
    · rename_i es o
      split at h
      · rename_i n e s ha
        split at h
        · rename_i hb
          cases h
          have hb := inB_iff hb
          obtain ⟨h1, r, h2, rfl⟩ := arrOf_ok hΓ ha
          simp only [VR] at hx
          obtain ⟨b, base, h3, h4, rfl, h5⟩ := hx
          refine ⟨.pointer (some ⟨b, base + (o + i.toNat * r.size), none⟩), ?_, by simp only [VR]; exact ⟨b, base, h3, h4, rfl, h5⟩⟩
          simp [Instr.indexAt, asIntOf, run_underlying h1, Instr.sureAddr, hb, run_sizeOf_tab hΓ h2, Addr.add_lit, Nat.add_assoc]
        · cases h
      · cases h
    · rename_i hh o n wd
      split at h
      · rename_i e r ha
        split at h
        · rename_i hb
          cases h
          have hb := inB_iff hb
          obtain ⟨h1, h2⟩ := sliceOf_ok hΓ ha
          simp only [VR] at hx
          rcases hx with ⟨_, _, rfl, _⟩ | ⟨b, cap, h3, rfl, _, _, us, T, fr, hq, _⟩
          · omega
          · refine ⟨.pointer (some ⟨b, o + i.toNat * r.size, none⟩), ?_, by simp only [VR]; exact ⟨b, h3, rfl, us, T, fr, hq⟩⟩
            simp [Instr.indexAt, asIntOf, run_underlying h1, Instr.sureAddr, hb, run_sizeOf_tab hΓ h2, Addr.add_lit]
        · cases h
      · cases h
    · rename_i full n es
      split at h
      · rename_i e r ha
        split at h
        · rename_i hb
          cases h
          have hb := inB_iff hb
          obtain ⟨h1, h2⟩ := sliceOf_ok hΓ ha
          simp only [VR] at hx
          rcases hx with ⟨rfl, _, _⟩ | ⟨b, off, cap, h3, h4, rfl, _, _, h5⟩
          · omega
          · refine ⟨.pointer (some ⟨b, off + (i.toNat * r.size), none⟩), ?_, by simp only [VR]; exact ⟨b, off, h3, h4, rfl, h5⟩⟩
            simp [Instr.indexAt, asIntOf, run_underlying h1, Instr.sureAddr, hb, run_sizeOf_tab hΓ h2, Addr.add_lit]
        · cases h
      · cases h
    · cases h
  · cases h

def vfieldAddr (Γ : Tab) (t : TypeId) (x : VV) (f : Nat) : Option VV :=
  match fieldOff Γ t f with
  | some (off, ft) => match Γ ft with
    | some r => if r.size = 0 then none else match x with
      | .ptr h o => some (.ptr h (o + off))
      | .dp es o => some (.dp es (o + off))
      | _ => none
    | none => none
  | none => none
theorem vfieldAddr_ok {P : Program} {Γ : Tab} (hΓ : TabOk P Γ) {E : Env} {t : TypeId} {x v : VV} {f : Nat} {a : Value} (h : vfieldAddr Γ t x f = some v) (hx : VR E x a) (w : World) :
    ∃ u, (Instr.fieldAt t a f).run P w = .ok u w ∧ VR E v u := by
  unfold vfieldAddr at h
  split at h
  · rename_i off ft hf
    obtain ⟨fields, fd, h1, h2, rfl, rfl⟩ := fieldOff_ok hΓ hf
    split at h
    · rename_i r hr
      split at h
      · cases h
      · rename_i hz
        split at h
        · rename_i hh o
          cases h
          simp only [VR] at hx
          obtain ⟨b, h3, rfl, hq⟩ := hx
          refine ⟨.pointer (some ⟨b, o + fd.offset, none⟩), ?_, by simp only [VR]; exact ⟨b, h3, rfl, hq⟩⟩
          simp [Instr.fieldAt, run_underlying h1, h2, Instr.sureAddr, fieldPlace, run_sizeOf_tab hΓ hr, hz, Addr.add_lit]
        · rename_i es o
          cases h
          simp only [VR] at hx
          obtain ⟨b, base, h3, h4, rfl, h5⟩ := hx
          refine ⟨.pointer (some ⟨b, base + (o + fd.offset), none⟩), ?_, by simp only [VR]; exact ⟨b, base, h3, h4, rfl, h5⟩⟩
          simp [Instr.fieldAt, run_underlying h1, h2, Instr.sureAddr, fieldPlace, run_sizeOf_tab hΓ hr, hz, Addr.add_lit, Nat.add_assoc]
        · cases h
    · cases h
  · cases h
def vfield (Γ : Tab) (t : TypeId) (x : VV) (f : Nat) : Option VV :=
  match fieldOff Γ t f, x with
  | some (off, ft), .agg cs => vpart Γ ft cs off
  | _, _ => none
theorem vfield_ok {P : Program} {Γ : Tab} (hΓ : TabOk P Γ) {E : Env} {t : TypeId} {x v : VV} {f : Nat} {a : Value} (h : vfield Γ t x f = some v) (hx : VR E x a) (w : World) :
    ∃ u, (Instr.field t a f).run P w = .ok u w ∧ VR E v u := by
  unfold vfield at h
  split at h
  · rename_i off ft cs hf
    obtain ⟨fields, fd, h1, h2, rfl, rfl⟩ := fieldOff_ok hΓ hf
    simp only [VR] at hx
    obtain ⟨us, rfl, h3, h4⟩ := hx
    obtain ⟨u, h5, h6⟩ := vpart_ok hΓ h h3 h4 w
    exact ⟨u, by simp [Instr.field, run_underlying h1, h2, asAgg, h5], h6⟩
  · cases h
def vindex (Γ : Tab) (t : TypeId) (x i : VV) : Option VV :=
  match x, i with
  | .agg cs, .v (.int _ i) => match arrOf Γ t with | some (n, e, s) => if inB i n then vpart Γ e cs (i.toNat * s) else none | none => none
  | .v (.string s), .v (.int _ i) => match tdOf Γ t with
    | some .str => if 0 ≤ i then (match s[i.toNat]? with | some b => some (nI .u8 b.toNat) | none => none) else none
    | _ => none
  | _, _ => none
theorem vindex_ok {P : Program} {Γ : Tab} (hΓ : TabOk P Γ) {E : Env} {t : TypeId} {x i v : VV} {a b : Value} (h : vindex Γ t x i = some v) (hx : VR E x a) (hi : VR E i b) (w : World) :
    ∃ u, (Instr.index t a b).run P w = .ok u w ∧ VR E v u := by
  unfold vindex at h
  split at h
  · rename_i cs k i
    simp only [VR] at hi; subst hi
    split at h
    · rename_i n e s ha
      split at h
      · rename_i hb
        have hb := inB_iff hb
        obtain ⟨h1, r, h2, rfl⟩ := arrOf_ok hΓ ha
        simp only [VR] at hx
        obtain ⟨us, rfl, h3, h4⟩ := hx
        obtain ⟨u, h5, h6⟩ := vpart_ok hΓ h h3 h4 w
        exact ⟨u, by simp [Instr.index, asIntOf, run_underlying h1, hb, run_sizeOf_tab hΓ h2, h5], h6⟩
      · cases h
    · cases h
  · rename_i s k i
    simp only [VR] at hi hx; subst hi; subst hx
    split at h
    · rename_i hd
      obtain ⟨q, hq, hqd⟩ := tdOf_some hd
      obtain ⟨d, i', z, h1, h2, _⟩ := (hΓ t q hq).ex
      rw [hqd] at h2
      simp only [TDok] at h2; subst h2
      split at h
      · rename_i hb
        split at h
        · rename_i c hc
          cases h
          exact ⟨.int .u8 c.toNat, by simp [Instr.index, asIntOf, run_underlying h1, hb, hc], by simp [nI, VR]⟩
        · cases h
      · cases h
    · cases h
  · cases h

def vplaces (Γ : Tab) : List (Nat × TypeId) → Option (List (Nat × Nat))
  | [] => some []
  | (off, ft) :: fs => match Γ ft, vplaces Γ fs with
    | some q, some l => some ((off, q.size) :: l)
    | _, _ => none
def vbuild (Γ : Tab) (t : TypeId) (parts : List (Nat × VV)) : Option VV :=
  match Γ t with
  | some r => match r.d with
    | .arr _ e => match Γ e with
      | some q => match vfill (fun i => some (i * q.size, q.size)) r.zero parts with
        | some cs => some (.agg cs)
        | none => none
      | none => none
    | .struct fs => match vplaces Γ fs with
      | some pl => match vfill (fun i => pl[i]?) r.zero parts with
        | some cs => some (.agg cs)
        | none => none
      | none => none
    | _ => none
  | none => none
theorem vplaces_ok {P : Program} {Γ : Tab} (hΓ : TabOk P Γ) : ∀ (fields : List Field) (pl : List (Nat × Nat)), vplaces Γ (fields.map fun f => (f.offset, f.type)) = some pl →
    fields.mapM (fun f => (P.info? f.type).map fun i => (f.offset, i.size)) = some pl
  | [], pl, h => by simp [vplaces] at h; simp [h]
  | f :: fs, pl, h => by
    simp only [List.map_cons, vplaces] at h
    split at h
    · rename_i q l h1 h2
      cases h
      obtain ⟨d, i, z, _, _, h3, h4, _⟩ := (hΓ f.type q h1).ex
      simp [List.mapM_cons, h3, vplaces_ok hΓ fs l h2, h4]
    · cases h
theorem zero_ok {P : Program} {Γ : Tab} (hΓ : TabOk P Γ) {t : TypeId} {r : TR} (h : Γ t = some r) (E : Env) :
    ∃ z, (∀ w, (zeroValue t).run P w = .ok z w) ∧ VRs E r.zero z.cells.toList ∧ ones z.cells.toList ∧ z.cells.size = r.size ∧ ∃ i, P.info? t = some i ∧ i.zero = some z := by
  obtain ⟨d, i, z, _, _, h3, h4, h5, h6, h7, h8, h9⟩ := (hΓ t r h).ex
  refine ⟨z, fun w => by simp [zeroValue, typeInfo, h3, h6], by rw [← h7]; exact cellVs_VRs E _, ?_, h8, i, h3, h6⟩
  intro u hu
  exact (Array.all_eq_true_iff_forall_mem.1 h9) u (by simpa using hu)
theorem vbuild_ok {P : Program} {Γ : Tab} (hΓ : TabOk P Γ) {E : Env} {t : TypeId} {parts : List (Nat × VV)} {vals : Array (Nat × Value)} {v : VV} (h : vbuild Γ t parts = some v)
    (h1 : parts.map (·.1) = vals.toList.map (·.1)) (h2 : VRs E (parts.map (·.2)) (vals.toList.map (·.2))) (w : World) : ∃ u, (Instr.build t vals).run P w = .ok u w ∧ VR E v u := by
  unfold vbuild at h
  split at h
  · rename_i r hr
    obtain ⟨z, _, z1, z2, _, i, z3, z4⟩ := zero_ok hΓ hr E
    obtain ⟨d, _, _, g1, g2, _⟩ := (hΓ t r hr).ex
    split at h
    · rename_i n e hd
      rw [hd] at g2; simp only [TDok] at g2; subst g2
      split at h
      · rename_i q hq
        obtain ⟨_, ie, _, _, _, e3, e4, _⟩ := (hΓ e q hq).ex
        split at h
        · rename_i cs hf
          cases h
          obtain ⟨us, f1, f2, f3⟩ := vfill_ok parts vals.toList _ z.cells cs hf z1 z2 h1 h2
          refine ⟨.agg us, run_build w t vals us ?_, by simp only [VR]; exact ⟨us.toList, by simp, f2, f3⟩⟩
          simp only [Program.built, z3, g1, z4, e3, e4]
          exact f1
        · cases h
      · cases h
    · rename_i fs hd
      rw [hd] at g2
      obtain ⟨fields, rfl, hfs⟩ := g2
      split at h
      · rename_i pl hp
        rw [← hfs] at hp
        have hp := vplaces_ok hΓ fields.toList pl hp
        split at h
        · rename_i cs hf
          cases h
          obtain ⟨us, f1, f2, f3⟩ := vfill_ok parts vals.toList _ z.cells cs hf z1 z2 h1 h2
          refine ⟨.agg us, run_build w t vals us ?_, by simp only [VR]; exact ⟨us.toList, by simp, f2, f3⟩⟩
          simp only [Program.built, z3, g1, z4, hp]
          rw [← f1]
          simp
        · cases h
      · cases h
    · cases h
  · cases h

/-- A bound of a slice expression. -/
def vb (x : Option VV) (d : Nat) : Option Nat :=
  match x with
  | none => some d
  | some (.v (.int _ i)) => if 0 ≤ i then some i.toNat else none
  | _ => none
def VRo (E : Env) : Option VV → Option Value → Prop
  | none, none => True
  | some c, some u => VR E c u
  | _, _ => False
theorem vb_ok {E : Env} {x : Option VV} {y : Option Value} {d n : Nat} (h : vb x d = some n) (hr : VRo E x y) : (y = none ∧ n = d ∧ x = none) ∨ ∃ k i, y = some (.int k i) ∧ 0 ≤ i ∧ i.toNat = n := by
  unfold vb at h
  split at h
  · cases y with
    | none => cases h; exact .inl ⟨rfl, rfl, rfl⟩
    | some u => simp [VRo] at hr
  · rename_i k i
    cases y with
    | none => simp [VRo] at hr
    | some u =>
      simp only [VRo, VR] at hr; subst hr
      split at h
      · rename_i h0; cases h; exact .inr ⟨k, i, rfl, h0, rfl⟩
      · cases h
  · cases h
theorem run_sliceBound {P : Program} {k : IntKind} {i : Int} {y : Nat} {code : BoundsCode} (h0 : 0 ≤ i) (h : i.toNat ≤ y) (w : World) : (Instr.sliceBound (.int k i) y code).run P w = .ok i.toNat w := by
  have h2 : i ≤ (y : Int) := by omega
  simp [Instr.sliceBound, asIntOf, h0, h2]
theorem run_sliceBounds {P : Program} {E : Env} {isS : Bool} {len cap l h m : Nat} {lo hi mx : Option VV} {lo' hi' mx' : Option Value} (r1 : VRo E lo lo') (r2 : VRo E hi hi') (r3 : VRo E mx mx')
    (b1 : vb lo 0 = some l) (b2 : vb hi len = some h) (b3 : vb mx cap = some m) (hm : mx.isSome = true → hi.isSome = true) (c1 : l ≤ h) (c2 : h ≤ m) (c3 : m ≤ cap) (w : World) :
    (Instr.sliceBounds isS len cap lo' hi' mx').run P w = .ok (l, h, m) w := by
  rcases vb_ok b3 r3 with ⟨rfl, rfl, rfl⟩ | ⟨k3, i3, rfl, n3, rfl⟩
  · rcases vb_ok b2 r2 with ⟨rfl, rfl, rfl⟩ | ⟨k2, i2, rfl, n2, rfl⟩ <;> rcases vb_ok b1 r1 with ⟨rfl, rfl, rfl⟩ | ⟨k1, i1, rfl, n1, rfl⟩ <;>
      simp [Instr.sliceBounds, run_sliceBound, *]
  · rcases vb_ok b2 r2 with ⟨rfl, rfl, rfl⟩ | ⟨k2, i2, rfl, n2, rfl⟩
    · cases mx with
      | none => simp [VRo] at r3
      | some q => simp at hm
    · rcases vb_ok b1 r1 with ⟨rfl, rfl, rfl⟩ | ⟨k1, i1, rfl, n1, rfl⟩ <;>
      simp [Instr.sliceBounds, run_sliceBound, *]

def fullOf (mx : Option VV) (full : Bool) (m h n : Nat) : Bool :=
  match mx with
  | some _ => decide (m = h)
  | none => full && decide (h = n)
theorem vb_some (q : VV) (d d' : Nat) : vb (some q) d = vb (some q) d' := by
  cases q with
  | v x => cases x <;> rfl
  | _ => rfl
def vslice (Γ : Tab) (t : TypeId) (x : VV) (lo hi mx : Option VV) : Option VV :=
  match x with
  | .v (.string s) => match tdOf Γ t, mx, vb lo 0, vb hi s.size with
    | some .str, none, some l, some h => if l ≤ h ∧ h ≤ s.size then some (.v (.string (s.extract l h))) else none
    | _, _, _, _ => none
  | .ds full n es => match sliceOf Γ t with
    | some (_, r) => match vb lo 0, vb hi n, vb mx n with
      | some l, some h, some m => if l ≤ h ∧ h ≤ m ∧ m ≤ n ∧ (mx.isSome = true → hi.isSome = true) then
          some (.ds (fullOf mx full m h n) (h - l) ((es.drop (l * r.size)).take ((h - l) * r.size))) else none
      | _, _, _ => none
    | none => none
  | .sl hh o n wd => match sliceOf Γ t, vb lo 0, vb hi n, mx with
    | some _, some l, some h, none => if l = 0 ∧ h ≤ n then some (.sl hh o h wd) else none
    | _, _, _, _ => none
  | .dp es o => match arrOf Γ t, vb lo 0, mx with
    | some (N, _, s), some l, none => match vb hi N with
      | some h => if l ≤ h ∧ h ≤ N ∧ o + N * s ≤ es.length then some (.ds false (h - l) ((es.drop (o + l * s)).take ((h - l) * s))) else none
      | none => none
    | _, _, _ => none
  | _ => none
theorem vslice_ok {P : Program} {Γ : Tab} (hΓ : TabOk P Γ) {E : Env} {t : TypeId} {x v : VV} {lo hi mx : Option VV} {a : Value} {lo' hi' mx' : Option Value} (h : vslice Γ t x lo hi mx = some v)
    (hx : VR E x a) (r1 : VRo E lo lo') (r2 : VRo E hi hi') (r3 : VRo E mx mx') (w : World) : ∃ u, (Instr.sliceAt t a lo' hi' mx').run P w = .ok u w ∧ VR E v u := by
  unfold vslice at h
  split at h
  · rename_i s
    simp only [VR] at hx; subst hx
    split at h
    · rename_i l hh hd b1 b2
      obtain ⟨q, hq, hqd⟩ := tdOf_some hd
      obtain ⟨d, i, z, h1, h2, _⟩ := (hΓ t q hq).ex
      rw [hqd] at h2; simp only [TDok] at h2; subst h2
      cases mx' with
      | some _ => simp [VRo] at r3
      | none =>
        split at h
        · rename_i hb
          cases h
          have := run_sliceBounds (P := P) (isS := false) (cap := s.size) (m := s.size) r1 r2 r3 b1 b2 rfl (by simp) hb.1 hb.2 (Nat.le_refl _) w
          exact ⟨.string (s.extract l hh), by simp [Instr.sliceAt, Instr.slice, run_underlying h1, this], by simp only [VR]⟩
        · cases h
    · cases h
  · rename_i full n es
    split at h
    · rename_i e r hs
      obtain ⟨h1, hr⟩ := sliceOf_ok hΓ hs
      have hsz := fun w => run_sizeOf_tab hΓ hr w
      split at h
      · rename_i l hh m b1 b2 b3
        split at h
        · rename_i hb
          obtain ⟨c1, c2, c3, c4⟩ := hb
          cases h
          simp only [VR] at hx
          rcases hx with ⟨rfl, rfl, ao, rfl⟩ | ⟨b, off, cap, hA, hbs, rfl, hc, hfull, us, g1, g2, g3⟩
          · have e1 : l = 0 := by omega
            have e2 : hh = 0 := by omega
            have e3 : m = 0 := by omega
            subst e1 e2 e3
            have := run_sliceBounds (P := P) (isS := true) (cap := 0) r1 r2 r3 b1 b2 b3 c4 c1 c2 c3 w
            exact ⟨.slice ao 0 0, by simp [Instr.sliceAt, Instr.slice, run_underlying h1, this, hsz], by simp only [VR]; exact .inl (by simp)⟩
          · have key : ∃ m', vb mx cap = some m' ∧ hh ≤ m' ∧ m' ≤ cap ∧ (fullOf mx full m hh n = true → m' - l = hh - l) := by
              cases mx with
              | none =>
                refine ⟨cap, rfl, by simp [vb] at b3; omega, Nat.le_refl _, fun hf => ?_⟩
                simp [fullOf] at hf
                rw [hfull hf.1, hf.2]
              | some q =>
                refine ⟨m, (vb_some q cap n).trans b3, c2, by omega, fun hf => ?_⟩
                simp [fullOf] at hf
                rw [hf]
            obtain ⟨m', b3', c5, c6, c7⟩ := key
            have := run_sliceBounds (P := P) (isS := true) (cap := cap) r1 r2 r3 b1 b2 b3' c4 c1 c5 c6 w
            have hrun : (Instr.sliceAt t (.slice (some ⟨b, off, none⟩) n cap) lo' hi' mx').run P w = .ok (.slice (if m' = l then some ⟨b, off, none⟩ else some ⟨b, off + l * r.size, none⟩) (hh - l) (m' - l)) w := by
              simp [Instr.sliceAt, Instr.slice, run_underlying h1, this, hsz, Addr.add_lit]
            by_cases hm : m' = l
            · have e1 : hh = l := by omega
              refine ⟨.slice (some ⟨b, off, none⟩) (hh - l) (m' - l), by rw [hrun, if_pos hm], ?_⟩
              simp only [VR]
              refine .inr ⟨b, off, m' - l, hA, hbs, rfl, by omega, c7, [], by simp, ?_, by simp [ones]⟩
              rw [e1]
              simp [VRs]
            · refine ⟨.slice (some ⟨b, off + l * r.size, none⟩) (hh - l) (m' - l), by rw [hrun, if_neg hm], ?_⟩
              simp only [VR]
              refine .inr ⟨b, off + l * r.size, m' - l, hA, hbs, rfl, by omega, c7, (us.drop (l * r.size)).take ((hh - l) * r.size), ?_, (g2.drop _).take _, ones_take (ones_drop g3 _) _⟩
              intro i u hu
              rw [List.getElem?_take] at hu
              split at hu
              · rw [List.getElem?_drop] at hu
                have := g1 _ _ hu
                rw [Nat.add_assoc]; exact this
              · cases hu
        · cases h
      · cases h
    · cases h
  · rename_i hd o n wd
    split at h
    · rename_i e l hh hs b1 b2
      obtain ⟨h1, hr⟩ := sliceOf_ok hΓ (e := e.1) (r := e.2) hs
      have hsz := fun w => run_sizeOf_tab hΓ hr w
      cases mx' with
      | some _ => simp [VRo] at r3
      | none =>
        split at h
        · rename_i hb
          obtain ⟨rfl, c1⟩ := hb
          cases h
          simp only [VR] at hx
          rcases hx with ⟨k1, rfl, rfl, ao, rfl⟩ | ⟨b, cap, k1, rfl, k2, km, us, T, fr, k3, k4⟩
          · have e2 : hh = 0 := by omega
            subst e2
            have := run_sliceBounds (P := P) (isS := true) (cap := 0) (m := 0) r1 r2 r3 b1 b2 rfl (by simp) (Nat.le_refl _) (Nat.le_refl _) (Nat.le_refl _) w
            exact ⟨.slice ao 0 0, by simp [Instr.sliceAt, Instr.slice, run_underlying h1, this, hsz], by simp only [VR]; exact .inl (by simp [k1])⟩
          · have := run_sliceBounds (P := P) (isS := true) (cap := cap) (m := cap) r1 r2 r3 b1 b2 rfl (by simp) (Nat.zero_le _) (by omega) (Nat.le_refl _) w
            refine ⟨.slice (some ⟨b, o, none⟩) hh cap, by simp [Instr.sliceAt, Instr.slice, run_underlying h1, this, hsz, Addr.add_lit], ?_⟩
            simp only [VR]
            exact .inr ⟨b, cap, k1, rfl, by omega, km, us, T, fr, k3, k4⟩
        · cases h
    · cases h
  · rename_i es o
    split at h
    · rename_i N e s l ht b1
      obtain ⟨hu, r, hre, rfl⟩ := arrOf_ok hΓ ht
      have hS := fun w => run_sizeOf_tab hΓ hre w
      cases mx' with
      | some _ => simp [VRo] at r3
      | none =>
        split at h
        · rename_i hh b2
          split at h
          · rename_i hb
            obtain ⟨c1, c2, c3⟩ := hb
            cases h
            simp only [VR] at hx
            obtain ⟨b, base, hA, hbs, rfl, us, g1, g2, g3⟩ := hx
            have hbd := run_sliceBounds (P := P) (isS := false) (cap := N) (m := N) r1 r2 r3 b1 b2 rfl (by simp) c1 c2 (Nat.le_refl _) w
            have hrun : (Instr.sliceAt t (.pointer (some ⟨b, base + o, none⟩)) lo' hi' none).run P w = .ok (.slice (some ⟨b, if N = l then base + o else base + o + l * r.size, none⟩) (hh - l) (N - l)) w := by
              unfold Instr.sliceAt
              simp only [Sem.run_bind, run_underlying hu, Result.andThen_ok, Instr.sureAddr, Sem.run_pure, hbd, hS]
              split <;> simp [Addr.add_lit]
            refine ⟨_, hrun, ?_⟩
            simp only [VR]
            by_cases hm : N = l
            · have e1 : hh - l = 0 := by omega
              rw [if_pos hm, e1]
              exact .inr ⟨b, _, N - l, hA, hbs, rfl, by omega, by simp, [], by simp, by simp [VRs], by simp [ones]⟩
            · rw [if_neg hm]
              refine .inr ⟨b, _, N - l, hA, hbs, rfl, by omega, by simp, (us.drop (o + l * r.size)).take ((hh - l) * r.size), ?_, (g2.drop _).take _, ones_take (ones_drop g3 _) _⟩
              intro i u hu
              rw [List.getElem?_take] at hu
              split at hu
              · rw [List.getElem?_drop] at hu
                have := g1 _ _ hu
                rw [show base + o + l * r.size + i = base + (o + l * r.size + i) by omega]; exact this
              · cases hu
          · cases h
        · cases h
    · cases h
  · cases h

/-- len. -/
def vlen (Γ : Tab) (t : TypeId) (x : VV) : Option VV :=
  match tdOf Γ t, x with
  | some .str, .v (.string s) => some (nI .i64 s.size)
  | some (.arr n _), _ => some (nI .i64 n)
  | some (.slice _), .sl _ _ n _ => some (nI .i64 n)
  | some (.slice _), .ds _ n _ => some (nI .i64 n)
  | _, _ => none
theorem vlen_ok {P : Program} {Γ : Tab} (hΓ : TabOk P Γ) {E : Env} {t ty : TypeId} {ts : List TypeId} {x v : VV} {a : Value} (h : vlen Γ t x = some v) (hx : VR E x a) (w : World) :
    ∃ u, (Builtin.len_ (t :: ts).toArray ty #[a]).run P w = .ok u w ∧ VR E v u := by
  unfold vlen at h
  split at h
  · rename_i s hd
    obtain ⟨q, hq, hqd⟩ := tdOf_some hd
    obtain ⟨d, i, z, h1, h2, _⟩ := (hΓ t q hq).ex
    rw [hqd] at h2; simp only [TDok] at h2; subst h2
    simp only [VR] at hx; subst hx; cases h
    exact ⟨goInt s.size, by simp [Builtin.len_, run_underlying h1], by simp [nI, VR, goInt]⟩
  · rename_i n e hd
    obtain ⟨q, hq, hqd⟩ := tdOf_some hd
    obtain ⟨d, i, z, h1, h2, _⟩ := (hΓ t q hq).ex
    rw [hqd] at h2; simp only [TDok] at h2; subst h2
    cases h
    exact ⟨goInt n, by simp [Builtin.len_, run_underlying h1], by simp [nI, VR, goInt]⟩
  · rename_i e hh o n wd hd
    obtain ⟨q, hq, hqd⟩ := tdOf_some hd
    obtain ⟨d, i, z, h1, h2, _⟩ := (hΓ t q hq).ex
    rw [hqd] at h2; simp only [TDok] at h2; subst h2
    cases h
    simp only [VR] at hx
    rcases hx with ⟨_, _, rfl, ao, rfl⟩ | ⟨b, cap, _, rfl, _⟩
    · exact ⟨goInt 0, by simp [Builtin.len_, run_underlying h1], by simp [nI, VR, goInt]⟩
    · exact ⟨goInt n, by simp [Builtin.len_, run_underlying h1], by simp [nI, VR, goInt]⟩
  · rename_i e full n es hd
    obtain ⟨q, hq, hqd⟩ := tdOf_some hd
    obtain ⟨d, i, z, h1, h2, _⟩ := (hΓ t q hq).ex
    rw [hqd] at h2; simp only [TDok] at h2; subst h2
    cases h
    simp only [VR] at hx
    rcases hx with ⟨rfl, _, ao, rfl⟩ | ⟨b, off, cap, _, _, rfl, _⟩
    · exact ⟨goInt 0, by simp [Builtin.len_, run_underlying h1], by simp [nI, VR, goInt]⟩
    · exact ⟨goInt n, by simp [Builtin.len_, run_underlying h1], by simp [nI, VR, goInt]⟩
  · cases h
end Go.Proofs.Ytilmfdlonpjjiaa
