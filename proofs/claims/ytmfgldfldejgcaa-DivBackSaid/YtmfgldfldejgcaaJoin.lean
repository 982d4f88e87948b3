/- A region whose order Go leaves open, in which calls and reads stand beside new variables that are then filled: whatever the order, each operation yields its one value, and each variable lies in a block of its own. -/
import Derived.Orders
import Derived.OrdersHeld
import Derived.Laws.Tables
import Derived.Laws.IdiomRangeMap
import Derived.Below
import Derived.Lib.Hide
namespace Go.Proofs.Ytmfgldfldejgcaa
set_option linter.unusedVariables false
set_option linter.unusedSimpArgs false
open Go.RowKit

/-- What an operation of such a region does. -/
inductive RSpec where
  | val (v : Value)                              -- it yields v; of what was there nothing turns
  | new (T : TypeId) (zs : Array Value)          -- it makes a variable
  | put (k : Nat) (cs : Array Value)             -- it fills the variable that operation k has made
  | fill (b : Nat) (cs : Array Value)             -- it fills a variable that was there, in block b

/-- The slots that are written, with what they hold in the end; ρ: the block of each new variable. -/
def wr1 (ops : Array Oper) (specs : Array RSpec) (ρ : Nat → Nat) (i : Nat) : Option (Tmp × Value) :=
  match ops[i]?, specs[i]? with
  | some o, some (.val v) => o.dst.map fun d => (d, v)
  | some o, some (.new _ _) => o.dst.map fun d => (d, .pointer (some ⟨ρ i, 0, none⟩))
  | _, _ => none
def setAll (T : Array Value) : List (Tmp × Value) → Array Value
  | [] => T
  | (d, v) :: l => setAll (T.setIfInBounds d v) l
def fin (ops : Array Oper) (specs : Array RSpec) (ρ : Nat → Nat) (T : Array Value) : Array Value :=
  setAll T ((List.range ops.size).filterMap (wr1 ops specs ρ))

theorem setAll_size : ∀ (l : List (Tmp × Value)) (T : Array Value), (setAll T l).size = T.size
  | [], _ => rfl
  | (d, v) :: l, T => by simp [setAll, setAll_size l]
theorem setAll_old : ∀ (l : List (Tmp × Value)) (T : Array Value) (t : Tmp), (∀ p ∈ l, p.1 ≠ t) → (setAll T l)[t]? = T[t]?
  | [], _, _, _ => rfl
  | (d, v) :: l, T, t, h => by
    rw [setAll, setAll_old l _ t (fun p hp => h p (by simp [hp]))]
    exact Array.getElem?_setIfInBounds_ne (h (d, v) (by simp))
theorem setAll_mem : ∀ (l : List (Tmp × Value)) (T : Array Value) (d : Tmp) (v : Value), l.Pairwise (fun a b => a.1 ≠ b.1) → (d, v) ∈ l → d < T.size → (setAll T l)[d]? = some v
  | p :: l, T, d, v, hp, hm, hd => by
    obtain ⟨e, u⟩ := p
    rw [setAll]
    rcases List.mem_cons.1 hm with h | h
    · obtain ⟨h1, h2⟩ := Prod.mk.inj h
      rw [setAll_old l _ d (fun p hpm => by rw [h1]; exact Ne.symm ((List.pairwise_cons.1 hp).1 p hpm)), ← h1, ← h2]
      simp [hd]
    · exact setAll_mem l _ d v (List.pairwise_cons.1 hp).2 h (by simpa using hd)

def isVal : RSpec → Bool | .val _ => true | _ => false
def isNew : RSpec → Bool | .new _ _ => true | _ => false
/-- Slot t may be read by operation i: no operation writes it, or one that yields a value and is always ahead. -/
def mayRead (ops : Array Oper) (specs : Array RSpec) (o : Oper) (t : Tmp) : Bool :=
  (List.range ops.size).all fun j => match ops[j]?, specs[j]? with
    | some oj, some s => oj.dst != some t || (isVal s && o.after.any fun e => e.on == j && Region.binds .any e)
    | _, _ => false
def mayReads (ops : Array Oper) (specs : Array RSpec) (o : Oper) (l : List Operand) : Bool :=
  l.all fun x => match x with | .tmp t => mayRead ops specs o t | _ => true
def isSelect : Op → Bool | .select _ _ => true | _ => false
def okOp (ops : Array Oper) (specs : Array RSpec) (n i : Nat) : Bool :=
  match ops[i]?, specs[i]? with
  | some o, some s =>
    o.guard.isNone && !isSelect o.op && o.after.all (fun e => !Region.binds .any e || e.on < i) &&
    match s with
    | .val _ => (match o.dst with | some d => decide (d < n) | none => false) && mayReads ops specs o o.op.operands.toList
    | .new _ _ => (match o.dst with | some d => decide (d < n) | none => false) && o.op.operands.isEmpty
    | .fill _ _ => o.dst.isNone && (match o.op with
        | .store _ x y => mayReads ops specs o [x, y]
        | _ => false)
    | .put k c => o.dst.isNone && (match o.op with
        | .store _ (.tmp p) y => (match ops[k]? with | some ok => ok.dst == some p | none => false) && (match specs[k]? with | some (.new _ zs) => zs.size == c.size | _ => false) &&
            (o.after.any fun e => e.on == k && Region.binds .any e) && mayReads ops specs o [y]
        | _ => false)
  | _, _ => false
def putsOf (specs : Array RSpec) : List Nat := specs.toList.filterMap fun | .put k _ => some k | _ => none
def dstsOf (ops : Array Oper) : List Tmp := ops.toList.filterMap (·.dst)
def nodup : List Nat → Bool
  | [] => true
  | x :: l => !l.contains x && nodup l
def okAll (ops : Array Oper) (specs : Array RSpec) (n : Nat) : Bool :=
  ops.size == specs.size && (List.range ops.size).all (okOp ops specs n) && nodup (dstsOf ops) && nodup (putsOf specs)

theorem nodup_pairwise : ∀ {l : List Nat}, nodup l = true → l.Pairwise (· ≠ ·)
  | [], _ => List.Pairwise.nil
  | x :: l, h => by
    simp [nodup] at h
    exact List.Pairwise.cons (fun y hy e => h.1 (e ▸ hy)) (nodup_pairwise h.2)


/-- The operation yields v, and nothing that was there turns. -/
def YieldsBy (P : Program) (w : World) (v : Value) : Result Next → Prop
  | .ok (.value u) w' => u = v ∧ Below w.heap.size w w'
  | .ok (.enter f args) w' => Calls P f args w' fun e w'' => e = .returned v ∧ Below w.heap.size w w''
  | _ => False

/-- The blocks that are filled anew. -/
def setsOf : List RSpec → List Nat
  | [] => []
  | .fill b _ :: l => b :: setsOf l
  | _ :: l => setsOf l
/-- w' is as w was, but for new blocks and for the blocks S. -/
structure ExB (S : List Nat) (w w' : World) : Prop where
  os : w'.os = w.os
  tape : w'.tape = w.tape
  output : w'.output = w.output
  size : w.heap.size ≤ w'.heap.size
  block : ∀ k, k < w.heap.size → k ∉ S → w'.heap[k]? = w.heap[k]?
theorem ExB.refl (S : List Nat) (w : World) : ExB S w w := ⟨rfl, rfl, rfl, Nat.le_refl _, fun _ _ _ => rfl⟩
theorem ExB.drew {S : List Nat} {a w : World} (h : ExB S a w) : ExB S a w.drew := ⟨h.os, h.tape, h.output, h.size, h.block⟩
theorem ExB.step {S : List Nat} {w0 w w' : World} (h : ExB S w0 w) (k : Below w.heap.size w w') : ExB S w0 w' :=
  ⟨k.os.trans h.os, k.tape.trans h.tape, k.output.trans h.output, Nat.le_trans h.size k.size, fun i hi hs => (k.block i (Nat.lt_of_lt_of_le hi h.size)).trans (h.block i hi hs)⟩
theorem ExB.cells {S : List Nat} {w w1 : World} (hb : ExB S w w1) : (∀ b o, b < w.heap.size → b ∉ S → w1.cell? ⟨b, o, none⟩ = w.cell? ⟨b, o, none⟩) ∧ (∀ b o, b < w.heap.size → b ∉ S → w1.frozen? ⟨b, o, none⟩ = w.frozen? ⟨b, o, none⟩) :=
  ⟨fun b o h hs => World.cell?_of_block (w := w) (hb.block b h hs), fun b o h hs => World.frozen?_of_block (w := w) (hb.block b h hs)⟩

structure RInv (ops : Array Oper) (specs : Array RSpec) (a0 : Act) (w0 : World) (ρ : Nat → Nat) (listed : Array Bool) (a : Act) (w : World) : Prop where
  lsize : listed.size = ops.size
  defers : a.defers = a0.defers
  size : a.tmps.size = a0.tmps.size
  below : ExB (setsOf specs.toList) w0 w
  sets : ∀ j b c, specs[j]? = some (.fill b c) → b < w0.heap.size ∧ ∃ cs T old, w.heap[b]? = some (.cells cs T (0, 0)) ∧ w0.heap[b]? = some (.cells old T (0, 0)) ∧ cs.size = c.size ∧ (listed.getD j false = true → cs = c) ∧ (listed.getD j false = false → cs = old)
  old : ∀ t, (∀ i o, ops[i]? = some o → listed.getD i false = true → o.dst ≠ some t) → a.tmps[t]? = a0.tmps[t]?
  vals : ∀ i d v, wr1 ops specs ρ i = some (d, v) → listed.getD i false = true → a.tmps[d]? = some v
  news : ∀ i T zs, specs[i]? = some (.new T zs) → listed.getD i false = true → w0.heap.size ≤ ρ i ∧ ρ i < w.heap.size ∧ ∃ cs, w.heap[ρ i]? = some (.cells cs T (0, 0)) ∧ cs.size = zs.size ∧
    (∀ j c, specs[j]? = some (.put i c) → listed.getD j false = true → cs = c) ∧ ((∀ j c, specs[j]? = some (.put i c) → listed.getD j false = false) → cs = zs)
  apart : ∀ i j T U zs us, specs[i]? = some (.new T zs) → specs[j]? = some (.new U us) → listed.getD i false = true → listed.getD j false = true → i ≠ j → ρ i ≠ ρ j
  fills : ∀ i k c T zs, specs[i]? = some (.new T zs) → specs[k]? = some (.put i c) → listed.getD i false = false → listed.getD k false = false

theorem setsOf_mem {b : Nat} {c : Array Value} : ∀ {l : List RSpec} {j : Nat}, l[j]? = some (.fill b c) → b ∈ setsOf l
  | [], j, h => by simp at h
  | s :: l, 0, h => by simp at h; subst h; simp [setsOf]
  | s :: l, j + 1, h => by
    have := setsOf_mem (l := l) (j := j) (by simpa using h)
    cases s <;> simp [setsOf, this]
theorem setsOf_apart {b b' : Nat} {c c' : Array Value} : ∀ {l : List RSpec} {i j : Nat}, (setsOf l).Pairwise (· ≠ ·) → l[i]? = some (.fill b c) → l[j]? = some (.fill b' c') → i ≠ j → b ≠ b'
  | [], i, j, _, h, _, _ => by simp at h
  | s :: l, 0, 0, _, _, _, hne => absurd rfl hne
  | s :: l, 0, j + 1, hp, h, h', _ => by
    simp at h; subst h
    have := setsOf_mem (l := l) (j := j) (by simpa using h')
    exact (List.pairwise_cons.1 hp).1 _ this
  | s :: l, i + 1, 0, hp, h, h', _ => by
    simp at h'; subst h'
    have := setsOf_mem (l := l) (j := i) (by simpa using h)
    exact Ne.symm ((List.pairwise_cons.1 hp).1 _ this)
  | s :: l, i + 1, j + 1, hp, h, h', hne => by
    have hp' : (setsOf l).Pairwise (· ≠ ·) := by
      cases s <;> first | exact hp | exact (List.pairwise_cons.1 hp).2
    exact setsOf_apart hp' (by simpa using h) (by simpa using h') (by omega)

section
variable {P : Program} {ops : Array Oper} {specs : Array RSpec} {a0 : Act} {w0 : World}

theorem listed_set {listed : Array Bool} {i j : Nat} (hi : i < listed.size) : (listed.setIfInBounds i true).getD j false = (if j = i then true else listed.getD j false) := by
  by_cases h : j = i
  · subst h; simp [hi]
  · rw [if_neg h, getD_set_ne false (Ne.symm h)]

theorem okAll_op {n i : Nat} {o : Oper} (h : okAll ops specs n = true) (ho : ops[i]? = some o) : okOp ops specs n i = true := by
  simp only [okAll, Bool.and_eq_true] at h
  exact List.all_eq_true.1 h.1.1.2 i (List.mem_range.2 (Array.getElem?_eq_some_iff.1 ho).1)

/-- What the check says of one operation. -/
theorem okOp_parts {n i : Nat} {o : Oper} {s : RSpec} (h : okAll ops specs n = true) (ho : ops[i]? = some o) (hs : specs[i]? = some s) :
    (o.guard = none ∧ isSelect o.op = false ∧ ∀ e ∈ o.after, Region.binds .any e = true → e.on < i) ∧
    match s with
    | .val _ => ∃ d, o.dst = some d ∧ d < n ∧ mayReads ops specs o o.op.operands.toList = true
    | .new _ _ => ∃ d, o.dst = some d ∧ d < n ∧ o.op.operands = #[]
    | .fill _ _ => o.dst = none ∧ ∃ ty x y, o.op = .store ty x y ∧ mayReads ops specs o [x, y] = true
    | .put k c => o.dst = none ∧ ∃ ty p y ok T zs, o.op = .store ty (.tmp p) y ∧ ops[k]? = some ok ∧ ok.dst = some p ∧ specs[k]? = some (.new T zs) ∧ zs.size = c.size ∧
        (∃ e ∈ o.after, e.on = k ∧ Region.binds .any e = true) ∧ mayReads ops specs o [y] = true := by
  have h1 := okAll_op h ho
  simp only [okOp, ho, hs, Bool.and_eq_true] at h1
  obtain ⟨⟨⟨g1, g2⟩, g3⟩, g4⟩ := h1
  refine ⟨⟨by simpa using g1, by simpa using g2, fun e he hb => ?_⟩, ?_⟩
  · have := Array.all_eq_true_iff_forall_mem.1 g3 e he
    simp [hb] at this
    exact this
  · cases s with
    | val v =>
      cases hd : o.dst with
      | none => simp [hd] at g4
      | some d => simp only [hd, Bool.and_eq_true, decide_eq_true_eq] at g4; exact ⟨d, rfl, g4.1, g4.2⟩
    | new T zs =>
      cases hd : o.dst with
      | none => simp [hd] at g4
      | some d => simp only [hd, Bool.and_eq_true, decide_eq_true_eq] at g4; exact ⟨d, rfl, g4.1, by simpa using g4.2⟩
    | fill b c =>
      simp only [Bool.and_eq_true] at g4
      obtain ⟨g5, g6⟩ := g4
      refine ⟨by simpa using g5, ?_⟩
      split at g6
      · rename_i ty x y hop
        exact ⟨ty, x, y, hop, g6⟩
      · cases g6
    | put k c =>
      simp only [Bool.and_eq_true] at g4
      obtain ⟨g5, g6⟩ := g4
      refine ⟨by simpa using g5, ?_⟩
      split at g6
      · rename_i ty p y hop
        simp only [Bool.and_eq_true] at g6
        obtain ⟨⟨⟨g7, g8⟩, g9⟩, g10⟩ := g6
        cases hk : ops[k]? with
        | none => simp [hk] at g7
        | some ok =>
          cases hz : specs[k]? with
          | none => simp [hz] at g8
          | some sk =>
            cases sk with
            | val v => simp [hz] at g8
            | put a b => simp [hz] at g8
            | fill a b => simp [hz] at g8
            | new T zs =>
              rw [Array.any_eq_true] at g9
              obtain ⟨e, he, h3⟩ := g9
              simp at h3
              exact ⟨ty, p, y, ok, T, zs, hop, rfl, by simpa [hk] using g7, rfl, by simpa [hz] using g8, ⟨o.after[e], Array.getElem_mem he, h3.1, h3.2⟩, g10⟩
      · cases g6

/-- Two operations do not write one slot. -/
theorem dst_unique {n i j : Nat} {oi oj : Oper} {d : Tmp} (h : okAll ops specs n = true) (hi : ops[i]? = some oi) (hj : ops[j]? = some oj) (di : oi.dst = some d) (dj : oj.dst = some d) : i = j := by
  simp only [okAll, Bool.and_eq_true] at h
  have hp := nodup_pairwise h.1.2
  have key : ∀ (i j : Nat) (oi oj : Oper), i < j → ops[i]? = some oi → ops[j]? = some oj → oi.dst = some d → oj.dst = some d → False := by
    intro i j oi oj hlt hi hj di dj
    unfold dstsOf at hp
    rw [List.pairwise_filterMap] at hp
    rw [List.pairwise_iff_getElem] at hp
    obtain ⟨h1, e1⟩ := Array.getElem?_eq_some_iff.1 hi
    obtain ⟨h2, e2⟩ := Array.getElem?_eq_some_iff.1 hj
    refine hp i j (by simpa using h1) (by simpa using h2) hlt d ?_ d ?_ rfl
    · simpa [e1] using di
    · simpa [e2] using dj
  rcases Nat.lt_trichotomy i j with hlt | he | hgt
  · exact (key i j oi oj hlt hi hj di dj).elim
  · exact he
  · exact (key j i oj oi hgt hj hi dj di).elim

theorem put_unique {n i j k : Nat} {c c' : Array Value} (h : okAll ops specs n = true) (hi : specs[i]? = some (.put k c)) (hj : specs[j]? = some (.put k c')) : i = j := by
  simp only [okAll, Bool.and_eq_true] at h
  have hp := nodup_pairwise h.2
  have key : ∀ (i j : Nat) (c c' : Array Value), i < j → specs[i]? = some (.put k c) → specs[j]? = some (.put k c') → False := by
    intro i j c c' hlt hi hj
    unfold putsOf at hp
    rw [List.pairwise_filterMap, List.pairwise_iff_getElem] at hp
    obtain ⟨h1, e1⟩ := Array.getElem?_eq_some_iff.1 hi
    obtain ⟨h2, e2⟩ := Array.getElem?_eq_some_iff.1 hj
    refine hp i j (by simpa using h1) (by simpa using h2) hlt k ?_ k ?_ rfl
    · simp [e1]
    · simp [e2]
  rcases Nat.lt_trichotomy i j with hlt | he | hgt
  · exact (key i j c c' hlt hi hj).elim
  · exact he
  · exact (key j i c' c hgt hj hi).elim

theorem wr1_dst {ρ : Nat → Nat} {i : Nat} {d : Tmp} {v : Value} (h : wr1 ops specs ρ i = some (d, v)) : ∃ o, ops[i]? = some o ∧ o.dst = some d := by
  unfold wr1 at h
  split at h
  · rename_i o u ho hs
    cases hd : o.dst with
    | none => simp [hd] at h
    | some e => simp [hd] at h; exact ⟨o, ho, by rw [hd, h.1]⟩
  · rename_i o T zs ho hs
    cases hd : o.dst with
    | none => simp [hd] at h
    | some e => simp [hd] at h; exact ⟨o, ho, by rw [hd, h.1]⟩
  · cases h

theorem fin_pairwise {n : Nat} {ρ : Nat → Nat} (h : okAll ops specs n = true) : ((List.range ops.size).filterMap (wr1 ops specs ρ)).Pairwise (fun a b => a.1 ≠ b.1) := by
  rw [List.pairwise_filterMap]
  refine List.Pairwise.imp_of_mem ?_ (List.nodup_range (n := ops.size))
  intro i j _ _ hne p hp q hq e
  obtain ⟨oi, h1, d1⟩ := wr1_dst (d := p.1) (v := p.2) hp
  obtain ⟨oj, h2, d2⟩ := wr1_dst (d := q.1) (v := q.2) hq
  rw [← e] at d2
  exact hne (dst_unique h h1 h2 d1 d2)

theorem fin_at {n i : Nat} {ρ : Nat → Nat} {T : Array Value} {d : Tmp} {v : Value} (h : okAll ops specs n = true) (hw : wr1 ops specs ρ i = some (d, v)) (hd : d < T.size) : (fin ops specs ρ T)[d]? = some v := by
  obtain ⟨o, ho, _⟩ := wr1_dst hw
  exact setAll_mem _ T d v (fin_pairwise h) (List.mem_filterMap.2 ⟨i, List.mem_range.2 (Array.getElem?_eq_some_iff.1 ho).1, hw⟩) hd
theorem fin_old {ρ : Nat → Nat} {T : Array Value} {t : Tmp} (h : ∀ (i : Nat) (o : Oper), ops[i]? = some o → o.dst ≠ some t) : (fin ops specs ρ T)[t]? = T[t]? := by
  refine setAll_old _ T t fun p hp => ?_
  obtain ⟨i, _, hw⟩ := List.mem_filterMap.1 hp
  obtain ⟨o, ho, hd⟩ := wr1_dst (d := p.1) (v := p.2) hw
  intro e
  exact h i o ho (by rw [hd, e])
theorem fin_size {ρ : Nat → Nat} {T : Array Value} : (fin ops specs ρ T).size = T.size := setAll_size _ _

/-- What an operation may read reads as it does in the end. -/
theorem eval_fin {n i : Nat} {o : Oper} {ρ : Nat → Nat} {listed : Array Bool} {a : Act} {w : World} {l : List Operand} (hok : okAll ops specs n = true) (hn : n = a0.tmps.size)
    (hI : RInv ops specs a0 w0 ρ listed a w) (hr : i ∈ Region.ready .any ops listed) (ho : ops[i]? = some o) (hm : mayReads ops specs o l = true) :
    ∀ x ∈ l, a.eval x = ({ tmps := fin ops specs (fun _ => 0) a0.tmps, defers := a0.defers } : Act).eval x := by
  intro x hx
  have hx' := List.all_eq_true.1 hm x hx
  cases x with
  | tmp t =>
    simp only [Act.eval]
    have hq : a.tmps[t]? = (fin ops specs (fun _ => 0) a0.tmps)[t]? := by
      by_cases hex : ∃ (j : Nat) (oj : Oper), ops[j]? = some oj ∧ oj.dst = some t
      · obtain ⟨j, oj, hj, hdj⟩ := hex
        have hlt := (Array.getElem?_eq_some_iff.1 hj).1
        have h2 := List.all_eq_true.1 hx' j (List.mem_range.2 hlt)
        simp only [hj] at h2
        cases hs : specs[j]? with
        | none => simp [hs] at h2
        | some s =>
          simp [hs, hdj] at h2
          obtain ⟨hv, e, he, h3, hb⟩ := h2
          have hmem := Array.getElem_mem he
          have hlist : listed.getD j false = true := by
            obtain ⟨_, o', ho', hall⟩ := mem_ready.1 hr
            rw [ho] at ho'; cases ho'
            rw [← h3]; exact hall _ hmem hb
          cases s with
          | val v =>
            have hw : ∀ ρ, wr1 ops specs ρ j = some (t, v) := fun ρ => by simp [wr1, hj, hs, hdj]
            have hlt2 : t < a0.tmps.size := by
              obtain ⟨d', h1', h2', _⟩ := (okOp_parts hok hj hs).2
              rw [hdj] at h1'; cases h1'; rw [← hn]; exact h2'
            rw [hI.vals j t v (hw ρ) hlist, fin_at hok (hw _) hlt2]
          | new T zs => simp [isVal] at hv
          | put k c => simp [isVal] at hv
          | fill b c => simp [isVal] at hv
      · have hno : ∀ (j : Nat) (oj : Oper), ops[j]? = some oj → oj.dst ≠ some t := fun j oj hj hd => hex ⟨j, oj, hj, hd⟩
        rw [hI.old t (fun j oj hj _ => hno j oj hj), fin_old hno]
    simp only [Array.getD_eq_getD_getElem?, hq]
  | _ => rfl

theorem below_step {S : List Nat} {w w' : World} (h : ExB S w0 w) (k : Below w.heap.size w w') : ExB S w0 w' := h.step k
theorem sets_step {j b : Nat} {c : Array Value} {ρ : Nat → Nat} {listed : Array Bool} {a : Act} {w w' : World} (hI : RInv ops specs a0 w0 ρ listed a w) (hb : Below w.heap.size w w') (hj : specs[j]? = some (.fill b c)) (hl' : listed.getD j false = listed.getD j false) :
    b < w0.heap.size ∧ ∃ cs T old, w'.heap[b]? = some (.cells cs T (0, 0)) ∧ w0.heap[b]? = some (.cells old T (0, 0)) ∧ cs.size = c.size ∧ (listed.getD j false = true → cs = c) ∧ (listed.getD j false = false → cs = old) := by
  obtain ⟨h1, cs, T, old, h2, h3, h4, h5⟩ := hI.sets j b c hj
  exact ⟨h1, cs, T, old, by rw [hb.block b (Nat.lt_of_lt_of_le h1 hI.below.size)]; exact h2, h3, h4, h5⟩

/-- Behind an operation that yields its value. -/
theorem step_val {n i : Nat} {o : Oper} {v : Value} {ρ : Nat → Nat} {listed : Array Bool} {a : Act} {w w' : World} (hok : okAll ops specs n = true) (hn : n = a0.tmps.size)
    (hI : RInv ops specs a0 w0 ρ listed a w) (ho : ops[i]? = some o) (hs : specs[i]? = some (.val v)) (hl : listed.getD i false = false) (hb : Below w.heap.size w w') :
    RInv ops specs a0 w0 ρ (listed.setIfInBounds i true) (a.put o.dst v) w' := by
  obtain ⟨_, d, hd, hdn, _⟩ := okOp_parts hok ho hs
  have hil : i < listed.size := by rw [hI.lsize]; exact (Array.getElem?_eq_some_iff.1 ho).1
  have hds : d < a.tmps.size := by rw [hI.size, ← hn]; exact hdn
  have ap : a.put o.dst v = { a with tmps := a.tmps.setIfInBounds d v } := by rw [hd]; rfl
  rw [ap]
  refine ⟨by simpa using hI.lsize, hI.defers, by simpa using hI.size, below_step hI.below hb, ?sets, ?_, ?_, ?_, ?_, ?_⟩
  case sets =>
    intro j b c hj
    have e : j ≠ i := by rintro rfl; rw [hs] at hj; cases hj
    rw [listed_set hil, if_neg e]
    exact sets_step hI hb hj rfl
  · intro t ht
    have hne : d ≠ t := fun e => ht i o ho (by rw [listed_set hil]; simp) (by rw [hd, e])
    show (a.tmps.setIfInBounds d v)[t]? = _
    rw [Array.getElem?_setIfInBounds_ne hne]
    exact hI.old t fun j oj hj hlj => ht j oj hj (by rw [listed_set hil]; split <;> simp_all)
  · intro j d' v' hw hlj
    show (a.tmps.setIfInBounds d v)[d']? = _
    obtain ⟨oj, hj, hdj⟩ := wr1_dst hw
    by_cases e : j = i
    · subst e
      rw [ho] at hj; cases hj
      rw [hd] at hdj; cases hdj
      have : v' = v := by simp [wr1, ho, hs, hd] at hw; exact hw.symm
      rw [this]; simp [hds]
    · have hne : d ≠ d' := fun e2 => e (dst_unique hok hj ho hdj (by rw [hd, e2]))
      rw [Array.getElem?_setIfInBounds_ne hne]
      rw [listed_set hil, if_neg e] at hlj
      exact hI.vals j d' v' hw hlj
  · intro j T zs hsj hlj
    have e : j ≠ i := by rintro rfl; rw [hs] at hsj; cases hsj
    rw [listed_set hil, if_neg e] at hlj
    obtain ⟨h1, h2, cs, h3, h4, h5, h6⟩ := hI.news j T zs hsj hlj
    refine ⟨h1, Nat.lt_of_lt_of_le h2 hb.size, cs, by rw [hb.block _ h2]; exact h3, h4, ?_, ?_⟩
    · intro k c hk hlk
      have e2 : k ≠ i := by rintro rfl; rw [hs] at hk; cases hk
      rw [listed_set hil, if_neg e2] at hlk
      exact h5 k c hk hlk
    · intro hall
      refine h6 fun k c hk => ?_
      have e2 : k ≠ i := by rintro rfl; rw [hs] at hk; cases hk
      have := hall k c hk
      rwa [listed_set hil, if_neg e2] at this
  · intro j k T U zs us hj hk hlj hlk hne
    have e1 : j ≠ i := by rintro rfl; rw [hs] at hj; cases hj
    have e2 : k ≠ i := by rintro rfl; rw [hs] at hk; cases hk
    rw [listed_set hil, if_neg e1] at hlj
    rw [listed_set hil, if_neg e2] at hlk
    exact hI.apart j k T U zs us hj hk hlj hlk hne
  · intro j m c' U us hj hm hlj
    have e1 : j ≠ i := by rintro rfl; rw [hs] at hj; cases hj
    have e2 : m ≠ i := by rintro rfl; rw [hs] at hm; cases hm
    rw [listed_set hil, if_neg e1] at hlj
    rw [listed_set hil, if_neg e2]
    exact hI.fills j m c' U us hj hm hlj

/-- Behind the making of a variable. -/
theorem step_new {n i : Nat} {o : Oper} {T : TypeId} {zs : Array Value} {ρ : Nat → Nat} {listed : Array Bool} {a : Act} {w : World} (hok : okAll ops specs n = true) (hn : n = a0.tmps.size)
    (hI : RInv ops specs a0 w0 ρ listed a w) (hr : i ∈ Region.ready .any ops listed) (ho : ops[i]? = some o) (hs : specs[i]? = some (.new T zs)) (hl : listed.getD i false = false) :
    RInv ops specs a0 w0 (fun j => if j = i then w.heap.size else ρ j) (listed.setIfInBounds i true) (a.put o.dst (.pointer (some ⟨w.heap.size, 0, none⟩))) (w.alloc (.cells zs T)) := by
  obtain ⟨_, d, hd, hdn, _⟩ := okOp_parts hok ho hs
  have hil : i < listed.size := by rw [hI.lsize]; exact (Array.getElem?_eq_some_iff.1 ho).1
  have hds : d < a.tmps.size := by rw [hI.size, ← hn]; exact hdn
  have ap : a.put o.dst (.pointer (some ⟨w.heap.size, 0, none⟩)) = { a with tmps := a.tmps.setIfInBounds d (.pointer (some ⟨w.heap.size, 0, none⟩)) } := by rw [hd]; rfl
  have hb : Below w.heap.size w (w.alloc (.cells zs T)) := (Below.refl _ _).alloc (Nat.le_refl _) _
  rw [ap]
  refine ⟨by simpa using hI.lsize, hI.defers, by simpa using hI.size, below_step hI.below hb, ?sets, ?_, ?_, ?_, ?_, ?_⟩
  case sets =>
    intro j b c hj
    have e : j ≠ i := by rintro rfl; rw [hs] at hj; cases hj
    rw [listed_set hil, if_neg e]
    exact sets_step hI hb hj rfl
  · intro t ht
    have hne : d ≠ t := fun e => ht i o ho (by rw [listed_set hil]; simp) (by rw [hd, e])
    show (a.tmps.setIfInBounds d _)[t]? = _
    rw [Array.getElem?_setIfInBounds_ne hne]
    exact hI.old t fun j oj hj hlj => ht j oj hj (by rw [listed_set hil]; split <;> simp_all)
  · intro j d' v' hw hlj
    show (a.tmps.setIfInBounds d _)[d']? = _
    obtain ⟨oj, hj, hdj⟩ := wr1_dst hw
    by_cases e : j = i
    · subst e
      rw [ho] at hj; cases hj
      rw [hd] at hdj; cases hdj
      have : v' = .pointer (some ⟨w.heap.size, 0, none⟩) := by simp [wr1, ho, hs, hd] at hw; exact hw.symm
      rw [this]; simp [hds]
    · have hne : d ≠ d' := fun e2 => e (dst_unique hok hj ho hdj (by rw [hd, e2]))
      rw [Array.getElem?_setIfInBounds_ne hne]
      rw [listed_set hil, if_neg e] at hlj
      refine hI.vals j d' v' ?_ hlj
      unfold wr1 at hw ⊢
      simpa [e] using hw
  · intro j U us hsj hlj
    by_cases e : j = i
    · subst e
      rw [hs] at hsj; cases hsj
      simp only [if_true]
      refine ⟨hI.below.size, by simp, zs, heap_alloc_new w _, rfl, ?_, fun _ => rfl⟩
      intro k c hk hlk
      -- a variable is not filled ahead of its making
      exfalso
      have hkn : k ≠ j := by rintro rfl; rw [hs] at hk; cases hk
      rw [listed_set hil, if_neg hkn] at hlk
      exact absurd hlk (by simp [hI.fills j k c _ _ hs hk hl])
    · rw [listed_set hil, if_neg e] at hlj
      simp only [if_neg e]
      obtain ⟨h1, h2, cs, h3, h4, h5, h6⟩ := hI.news j U us hsj hlj
      refine ⟨h1, Nat.lt_of_lt_of_le h2 hb.size, cs, by rw [hb.block _ h2]; exact h3, h4, ?_, ?_⟩
      · intro k c hk hlk
        have e2 : k ≠ i := by rintro rfl; rw [hs] at hk; cases hk
        rw [listed_set hil, if_neg e2] at hlk
        exact h5 k c hk hlk
      · intro hall
        refine h6 fun k c hk => ?_
        have e2 : k ≠ i := by rintro rfl; rw [hs] at hk; cases hk
        have := hall k c hk
        rwa [listed_set hil, if_neg e2] at this
  · intro j k U V zs' us hj hk hlj hlk hne
    have up : ∀ m X xs, specs[m]? = some (.new X xs) → m ≠ i → (listed.setIfInBounds i true).getD m false = true → ρ m < w.heap.size := fun m X xs hm e hlm => by
      rw [listed_set hil, if_neg e] at hlm
      exact (hI.news m X xs hm hlm).2.1
    by_cases e1 : j = i
    · have e2 : k ≠ i := fun e => hne (by rw [e1, e])
      have := up k V us hk e2 hlk
      simp only [if_pos e1, if_neg e2]; omega
    · by_cases e2 : k = i
      · have := up j U zs' hj e1 hlj
        simp only [if_neg e1, if_pos e2]; omega
      · simp only [if_neg e1, if_neg e2]
        rw [listed_set hil, if_neg e1] at hlj
        rw [listed_set hil, if_neg e2] at hlk
        exact hI.apart j k U V zs' us hj hk hlj hlk hne
  · intro j m c' U us hj hm hlj
    have e1 : j ≠ i := by rintro rfl; rw [listed_set hil] at hlj; simp at hlj
    have e2 : m ≠ i := by rintro rfl; rw [hs] at hm; cases hm
    rw [listed_set hil, if_neg e1] at hlj
    rw [listed_set hil, if_neg e2]
    exact hI.fills j m c' U us hj hm hlj

/-- Behind the filling of a variable. -/
theorem step_put {n i k : Nat} {o : Oper} {c : Array Value} {T : TypeId} {zs : Array Value} {ρ : Nat → Nat} {listed : Array Bool} {a : Act} {w : World} (hok : okAll ops specs n = true)
    (hI : RInv ops specs a0 w0 ρ listed a w) (ho : ops[i]? = some o) (hs : specs[i]? = some (.put k c)) (hk : specs[k]? = some (.new T zs)) (hsz : zs.size = c.size) (hlk : listed.getD k false = true) (hl : listed.getD i false = false) :
    RInv ops specs a0 w0 ρ (listed.setIfInBounds i true) (a.put o.dst undef) (w.setRow (ρ k) c) := by
  obtain ⟨_, hd, _⟩ := okOp_parts hok ho hs
  have hil : i < listed.size := by rw [hI.lsize]; exact (Array.getElem?_eq_some_iff.1 ho).1
  have ap : a.put o.dst undef = a := by rw [hd]; rfl
  obtain ⟨g1, g2, gc, g3, g4, g5, g6⟩ := hI.news k T zs hk hlk
  rw [ap]
  have hki : k ≠ i := by rintro rfl; rw [hs] at hk; cases hk
  refine ⟨by simpa using hI.lsize, hI.defers, hI.size, ?_, ?_, ?_, ?_, ?_, ?_, ?_⟩
  · exact ⟨hI.below.os, hI.below.tape, hI.below.output, by simpa using hI.below.size, fun m hm hs => by rw [setRow_other _ _ _ _ (by omega)]; exact hI.below.block m hm hs⟩
  · intro j b c' hj
    have e : j ≠ i := by rintro rfl; rw [hs] at hj; cases hj
    rw [listed_set hil, if_neg e]
    obtain ⟨h1, cs, T', old, h2, h3, h4, h5⟩ := hI.sets j b c' hj
    exact ⟨h1, cs, T', old, by rw [setRow_other _ _ _ _ (by omega)]; exact h2, h3, h4, h5⟩
  · intro t ht
    exact hI.old t fun j oj hj hlj => ht j oj hj (by rw [listed_set hil]; split <;> simp_all)
  · intro j d' v' hw hlj
    have e : j ≠ i := by
      rintro rfl
      simp [wr1, ho, hs] at hw
    rw [listed_set hil, if_neg e] at hlj
    exact hI.vals j d' v' hw hlj
  · intro j U us hsj hlj
    have e : j ≠ i := by rintro rfl; rw [hs] at hsj; cases hsj
    rw [listed_set hil, if_neg e] at hlj
    obtain ⟨h1, h2, cs, h3, h4, h5, h6⟩ := hI.news j U us hsj hlj
    by_cases ej : j = k
    · subst ej
      rw [hk] at hsj; cases hsj
      refine ⟨h1, by simpa using h2, c, setRow_heap w _ _ c _ _ h3, hsz.symm, ?_, ?_⟩
      · intro m c' hm hlm
        have : m = i := put_unique hok hm hs
        subst this
        rw [hs] at hm; cases hm; rfl
      · intro hall
        have := hall i c hs
        rw [listed_set hil] at this
        simp at this
    · refine ⟨h1, by simpa using h2, cs, ?_, h4, ?_, ?_⟩
      · rw [setRow_other _ _ _ _ (hI.apart j k U T us zs hsj hk hlj hlk ej)]; exact h3
      · intro m c' hm hlm
        have e2 : m ≠ i := by rintro rfl; rw [hs] at hm; cases hm; exact ej rfl
        rw [listed_set hil, if_neg e2] at hlm
        exact h5 m c' hm hlm
      · intro hall
        refine h6 fun m c' hm => ?_
        have e2 : m ≠ i := by rintro rfl; rw [hs] at hm; cases hm; exact ej rfl
        have := hall m c' hm
        rwa [listed_set hil, if_neg e2] at this
  · intro j m U V us vs hj hm hlj hlm hne
    have e1 : j ≠ i := by rintro rfl; rw [hs] at hj; cases hj
    have e2 : m ≠ i := by rintro rfl; rw [hs] at hm; cases hm
    rw [listed_set hil, if_neg e1] at hlj
    rw [listed_set hil, if_neg e2] at hlm
    exact hI.apart j m U V us vs hj hm hlj hlm hne
  · intro j m c' U us hj hm hlj
    have e1 : j ≠ i := by rintro rfl; rw [hs] at hj; cases hj
    rw [listed_set hil, if_neg e1] at hlj
    have e2 : m ≠ i := by
      rintro rfl
      rw [hs] at hm; cases hm
      simp [hlk] at hlj
    rw [listed_set hil, if_neg e2]
    exact hI.fills j m c' U us hj hm hlj
/-- Behind the filling of a variable that was there. -/
theorem step_set {n i b : Nat} {o : Oper} {c : Array Value} {ρ : Nat → Nat} {listed : Array Bool} {a : Act} {w : World} (hok : okAll ops specs n = true) (hdis : (setsOf specs.toList).Pairwise (· ≠ ·))
    (hI : RInv ops specs a0 w0 ρ listed a w) (ho : ops[i]? = some o) (hs : specs[i]? = some (.fill b c)) (hl : listed.getD i false = false) :
    RInv ops specs a0 w0 ρ (listed.setIfInBounds i true) (a.put o.dst undef) (w.setRow b c) := by
  obtain ⟨_, hd, _⟩ := okOp_parts hok ho hs
  have hil : i < listed.size := by rw [hI.lsize]; exact (Array.getElem?_eq_some_iff.1 ho).1
  have ap : a.put o.dst undef = a := by rw [hd]; rfl
  obtain ⟨g1, gc, gT, gold, g2, g3, g4, _, _⟩ := hI.sets i b c hs
  rw [ap]
  refine ⟨by simpa using hI.lsize, hI.defers, hI.size, ?_, ?_, ?_, ?_, ?_, ?_, ?_⟩
  · refine ⟨hI.below.os, hI.below.tape, hI.below.output, by simpa using hI.below.size, fun m hm hns => ?_⟩
    rw [setRow_other]
    · exact hI.below.block m hm hns
    · rintro rfl
      exact hns (setsOf_mem (l := specs.toList) (j := i) (by simpa using hs))
  · intro j b' c' hj
    obtain ⟨h1, cs, T', old, h2, h3, h4, h5⟩ := hI.sets j b' c' hj
    by_cases e : j = i
    · subst e
      rw [hs] at hj; cases hj
      exact ⟨g1, c, gT, gold, setRow_heap w _ _ c _ _ g2, g3, rfl, fun _ => rfl, fun h => by rw [listed_set hil] at h; simp at h⟩
    · have hbb : b' ≠ b := setsOf_apart hdis (by simpa using hj) (by simpa using hs) e
      rw [listed_set hil, if_neg e]
      exact ⟨h1, cs, T', old, by rw [setRow_other _ _ _ _ hbb]; exact h2, h3, h4, h5⟩
  · intro t ht
    exact hI.old t fun j oj hj hlj => ht j oj hj (by rw [listed_set hil]; split <;> simp_all)
  · intro j d' v' hw hlj
    have e : j ≠ i := by
      rintro rfl
      simp [wr1, ho, hs] at hw
    rw [listed_set hil, if_neg e] at hlj
    exact hI.vals j d' v' hw hlj
  · intro j U us hsj hlj
    have e : j ≠ i := by rintro rfl; rw [hs] at hsj; cases hsj
    rw [listed_set hil, if_neg e] at hlj
    obtain ⟨h1, h2, cs, h3, h4, h5, h6⟩ := hI.news j U us hsj hlj
    refine ⟨h1, by simpa using h2, cs, ?_, h4, ?_, ?_⟩
    · rw [setRow_other _ _ _ _ (by omega)]; exact h3
    · intro m c' hm hlm
      have e2 : m ≠ i := by rintro rfl; rw [hs] at hm; cases hm
      rw [listed_set hil, if_neg e2] at hlm
      exact h5 m c' hm hlm
    · intro hall
      refine h6 fun m c' hm => ?_
      have e2 : m ≠ i := by rintro rfl; rw [hs] at hm; cases hm
      have := hall m c' hm
      rwa [listed_set hil, if_neg e2] at this
  · intro j m U V us vs hj hm hlj hlm hne
    have e1 : j ≠ i := by rintro rfl; rw [hs] at hj; cases hj
    have e2 : m ≠ i := by rintro rfl; rw [hs] at hm; cases hm
    rw [listed_set hil, if_neg e1] at hlj
    rw [listed_set hil, if_neg e2] at hlm
    exact hI.apart j m U V us vs hj hm hlj hlm hne
  · intro j m c' U us hj hm hlj
    have e1 : j ≠ i := by rintro rfl; rw [hs] at hj; cases hj
    have e2 : m ≠ i := by rintro rfl; rw [hs] at hm; cases hm
    rw [listed_set hil, if_neg e1] at hlj
    rw [listed_set hil, if_neg e2]
    exact hI.fills j m c' U us hj hm hlj

/-- What is to be shown of each operation. A: the frame as it is in the end (but for the new variables' addresses). -/
def Obls (P : Program) (S : Nat → List Nat) (w0 : World) (A : Act) : Nat → List (Oper × RSpec) → Prop
  | _, [] => True
  | i, (o, .val v) :: l => (∀ w, ExB (S i) w0 w → YieldsBy P w v ((execOp A.eval o).run P w)) ∧ Obls P S w0 A (i + 1) l
  | i, (o, .new T zs) :: l => (∀ (r : Operand → Value) w, (execOp r o).run P w = .ok (.value (.pointer (some ⟨w.heap.size, 0, none⟩))) (w.alloc (.cells zs T))) ∧ Obls P S w0 A (i + 1) l
  | i, (o, .fill b c) :: l => (match o.op with
      | .store ty x y => ∀ w old T, w0.heap[b]? = some (.cells old T (0, 0)) → w.heap[b]? = some (.cells old T (0, 0)) → (Instr.storeAt ty (A.eval x) (A.eval y)).run P w = .ok () (w.setRow b c)
      | _ => False) ∧ Obls P S w0 A (i + 1) l
  | i, (o, .put _ c) :: l => (match o.op with
      | .store ty _ y => ∀ T w g old, w.heap[g]? = some (.cells old T (0, 0)) → old.size = c.size → (storeVar ty ⟨g, 0, none⟩ (A.eval y)).run P w = .ok () (w.setRow g c)
      | _ => False) ∧ Obls P S w0 A (i + 1) l

/-- Operation i is always ahead of operation j. -/
def reach (ops : Array Oper) : Nat → Nat → Nat → Bool
  | 0, _, _ => false
  | f + 1, i, j => match ops[j]? with
    | some o => o.after.any fun e => Region.binds .any e && (e.on == i || reach ops f i e.on)
    | none => false
def Closed (ops : Array Oper) (listed : Array Bool) : Prop := ∀ (j : Nat) (o : Oper), ops[j]? = some o → listed.getD j false = true → ∀ e ∈ o.after, Region.binds .any e = true → listed.getD e.on false = true
theorem reach_listed {listed : Array Bool} (h : Closed ops listed) : ∀ (f i j : Nat), reach ops f i j = true → listed.getD j false = true → listed.getD i false = true
  | 0, _, _, hr, _ => by cases hr
  | f + 1, i, j, hr, hj => by
    unfold reach at hr
    cases ho : ops[j]? with
    | none => simp [ho] at hr
    | some o =>
      simp only [ho] at hr
      obtain ⟨k, hk, h1⟩ := Array.any_eq_true.1 hr
      simp only [Bool.and_eq_true, Bool.or_eq_true, beq_iff_eq] at h1
      have hl := h j o ho hj _ (Array.getElem_mem hk) h1.1
      rcases h1.2 with h2 | h2
      · rw [← h2]; exact hl
      · exact reach_listed h f i _ h2 hl
/-- The blocks that may have been filled when operation i runs; E: pairs of an operation and of a filling that always comes behind it. -/
def setsBut (E : List (Nat × Nat)) (i : Nat) : Nat → List RSpec → List Nat
  | _, [] => []
  | k, .fill b _ :: l => if E.contains (i, k) then setsBut E i (k + 1) l else b :: setsBut E i (k + 1) l
  | k, _ :: l => setsBut E i (k + 1) l
theorem setsBut_or {E : List (Nat × Nat)} {i b : Nat} : ∀ (l : List RSpec) (k : Nat), b ∈ setsOf l → b ∉ setsBut E i k l → ∃ j c, l[j]? = some (.fill b c) ∧ E.contains (i, k + j) = true
  | [], _, h, _ => by cases h
  | s :: l, k, h, hn => by
    have tl : b ∈ setsOf l → b ∉ setsBut E i (k + 1) l → ∃ j c, (s :: l)[j]? = some (.fill b c) ∧ E.contains (i, k + j) = true := fun h hn => by
      obtain ⟨j, c, h1, h2⟩ := setsBut_or l (k + 1) h hn
      exact ⟨j + 1, c, by simpa using h1, by rw [show k + (j + 1) = k + 1 + j by omega]; exact h2⟩
    cases s with
    | val v => exact tl h hn
    | new T zs => exact tl h hn
    | put a c => exact tl h hn
    | fill a c =>
      simp only [setsBut] at hn
      simp only [setsOf, List.mem_cons] at h
      split at hn
      · rename_i he
        rcases h with rfl | h
        · exact ⟨0, c, rfl, he⟩
        · exact tl h hn
      · simp only [List.mem_cons, not_or] at hn
        rcases h with h | h
        · exact absurd h hn.1
        · exact tl h hn.2

def content (specs : List RSpec) (i : Nat) (zs : Array Value) : Array Value :=
  match specs with
  | [] => zs
  | .put k c :: l => if k = i then c else content l i zs
  | _ :: l => content l i zs
/-- What is known behind the region of the variables that it made. -/
def Facts (all : List RSpec) (w0 : World) (ρ : Nat → Nat) (w : World) : Nat → List RSpec → Prop
  | _, [] => True
  | i, .new T zs :: l => (w0.heap.size ≤ ρ i ∧ ρ i < w.heap.size ∧ w.heap[ρ i]? = some (.cells (content all i zs) T (0, 0))) ∧ Facts all w0 ρ w (i + 1) l
  | i, _ :: l => Facts all w0 ρ w (i + 1) l
def newsOf : Nat → List RSpec → List Nat
  | _, [] => []
  | i, .new _ _ :: l => i :: newsOf (i + 1) l
  | i, _ :: l => newsOf (i + 1) l

theorem newsOf_mem : ∀ (l : List RSpec) (i j : Nat), j ∈ newsOf i l → ∃ T zs, i ≤ j ∧ l[j - i]? = some (.new T zs)
  | [], i, j, h => by simp [newsOf] at h
  | s :: l, i, j, h => by
    have tl : j ∈ newsOf (i + 1) l → ∃ T zs, i ≤ j ∧ (s :: l)[j - i]? = some (.new T zs) := fun h => by
      obtain ⟨T, zs, h1, h2⟩ := newsOf_mem l (i + 1) j h
      refine ⟨T, zs, by omega, ?_⟩
      rw [show j - i = (j - (i + 1)) + 1 by omega]; simpa using h2
    cases s with
    | val v => exact tl (by simpa [newsOf] using h)
    | put k c => exact tl (by simpa [newsOf] using h)
    | fill b c => exact tl (by simpa [newsOf] using h)
    | new T zs =>
      simp only [newsOf, List.mem_cons] at h
      rcases h with rfl | h
      · exact ⟨T, zs, Nat.le_refl _, by simp⟩
      · exact tl h
theorem newsOf_sorted : ∀ (l : List RSpec) (i : Nat), (newsOf i l).Pairwise (· < ·)
  | [], i => List.Pairwise.nil
  | s :: l, i => by
    cases s with
    | val v => exact newsOf_sorted l (i + 1)
    | put k c => exact newsOf_sorted l (i + 1)
    | fill b c => exact newsOf_sorted l (i + 1)
    | new T zs =>
      refine List.Pairwise.cons (fun j hj => ?_) (newsOf_sorted l (i + 1))
      obtain ⟨_, _, h, _⟩ := newsOf_mem l (i + 1) j hj
      omega

theorem obls_at {S : Nat → List Nat} {A : Act} : ∀ (l : List (Oper × RSpec)) (m i : Nat) (o : Oper) (s : RSpec), Obls P S w0 A m l → l[i]? = some (o, s) → Obls P S w0 A (m + i) [(o, s)]
  | [], _, i, o, s, _, h => by simp at h
  | (o', s') :: l, m, 0, o, s, hO, h => by
    simp at h; obtain ⟨rfl, rfl⟩ := h
    cases o' <;> cases s' <;> exact ⟨hO.1, trivial⟩
  | (o', s') :: l, m, i + 1, o, s, hO, h => by
    rw [show m + (i + 1) = m + 1 + i by omega]
    refine obls_at l (m + 1) i o s ?_ (by simpa using h)
    cases s' <;> exact hO.2

theorem content_eq : ∀ (l : List RSpec) (i : Nat) (zs cs : Array Value), (∀ c, RSpec.put i c ∈ l → cs = c) → ((∀ c, RSpec.put i c ∉ l) → cs = zs) → cs = content l i zs
  | [], i, zs, cs, _, h => h (by simp)
  | s :: l, i, zs, cs, h1, h2 => by
    cases s with
    | val v => exact content_eq l i zs cs (fun c hc => h1 c (by simp [hc])) (fun h => h2 (by simpa using h))
    | new T us => exact content_eq l i zs cs (fun c hc => h1 c (by simp [hc])) (fun h => h2 (by simpa using h))
    | fill b c => exact content_eq l i zs cs (fun c hc => h1 c (by simp [hc])) (fun h => h2 (by simpa using h))
    | put k c =>
      simp only [content]
      split
      · rename_i e; subst e; exact h1 c (by simp)
      · rename_i e
        refine content_eq l i zs cs (fun c hc => h1 c (by simp [hc])) (fun h => h2 fun c' hc' => ?_)
        rcases List.mem_cons.1 hc' with h3 | h3
        · cases h3; exact e rfl
        · exact h c' h3

theorem facts_of {ρ : Nat → Nat} {w : World} (all : List RSpec) : ∀ (l : List RSpec) (i : Nat), (∀ j T zs, l[j]? = some (.new T zs) → w0.heap.size ≤ ρ (i + j) ∧ ρ (i + j) < w.heap.size ∧ w.heap[ρ (i + j)]? = some (.cells (content all (i + j) zs) T (0, 0))) → Facts all w0 ρ w i l
  | [], i, _ => trivial
  | s :: l, i, h => by
    have tl : Facts all w0 ρ w (i + 1) l := facts_of all l (i + 1) fun j T zs hj => by
      have := h (j + 1) T zs (by simpa using hj)
      rwa [show i + (j + 1) = i + 1 + j by omega] at this
    cases s with
    | val v => exact tl
    | put k c => exact tl
    | fill b c => exact tl
    | new T zs => exact ⟨by simpa using h 0 T zs (by simp), tl⟩

theorem upon_join {o : Oper} {a : Act} {w : World} {v : Value} {r : Result Next} {K : Act → World → Prop} {Q : Exit → Act → World → Prop} (hy : YieldsBy P w v r) (hK : ∀ w', Below w.heap.size w w' → K (a.put o.dst v) w') : o.upon P a K Q r := by
  unfold YieldsBy at hy
  split at hy
  · obtain ⟨rfl, hb⟩ := hy; exact hK _ hb
  · refine Calls.mono hy fun e w'' he => ?_
    obtain ⟨rfl, hb⟩ := he
    exact hK _ hb
  · cases hy

/-- THE RULE. -/
theorem wp_region_join {id : Nat} {Q : Exit → Act → World → Prop} (specs : Array RSpec) (hm : P.follows .mixedOrders = true)
    (hok : okAll ops specs a0.tmps.size = true) (hdis : (setsOf specs.toList).Pairwise (· ≠ ·))
    (S : Nat → List Nat) (hS : ∀ i k, k ∈ setsOf specs.toList → k ∉ S i → ∃ j c, specs[j]? = some (.fill k c) ∧ reach ops ops.size i j = true)
    (hold : ∀ (j b : Nat) (c : Array Value), specs[j]? = some (.fill b c) → ∃ (old : Array Value) (T : TypeId), w0.heap[b]? = some (.cells old T (0, 0)) ∧ old.size = c.size)
    (hob : Obls P S w0 { tmps := fin ops specs (fun _ => 0) a0.tmps, defers := a0.defers } 0 (ops.toList.zip specs.toList))
    (hfin : ∀ (ρ : Nat → Nat) (w : World), ExB (setsOf specs.toList) w0 w → (∀ (j b : Nat) (c : Array Value), specs[j]? = some (.fill b c) → ∃ (T : TypeId) (old : Array Value), w.heap[b]? = some (.cells c T (0, 0)) ∧ w0.heap[b]? = some (.cells old T (0, 0))) → Facts specs.toList w0 ρ w 0 specs.toList → ((newsOf 0 specs.toList).map ρ).Pairwise (· ≠ ·) → Q .normal { tmps := fin ops specs ρ a0.tmps, defers := a0.defers } w) :
    (Code.region id ops true).wp P Q a0 w0 := by
  refine wp_region_any hm ?_
  have hsz : ops.size = specs.size := by simp only [okAll, Bool.and_eq_true, beq_iff_eq] at hok; exact hok.1.1.1
  have hspec : ∀ (i : Nat) (o : Oper), ops[i]? = some o → ∃ s, specs[i]? = some s := fun i o ho => ⟨specs[i]'(by rw [← hsz]; exact (Array.getElem?_eq_some_iff.1 ho).1), by simp [← hsz, (Array.getElem?_eq_some_iff.1 ho).1]⟩
  have hobi : ∀ (i : Nat) (o : Oper) (s : RSpec), ops[i]? = some o → specs[i]? = some s → Obls P S w0 { tmps := fin ops specs (fun _ => 0) a0.tmps, defers := a0.defers } i [(o, s)] := fun i o s ho hs => by
    have := obls_at _ 0 i o s hob (by simp [List.getElem?_zip_eq_some, ho, hs])
    rwa [Nat.zero_add] at this
  have main : ∀ (fuel : Nat) (listed : Array Bool) (a : Act) (w : World), listed.toList.count false ≤ fuel → Closed ops listed → (∃ ρ, RInv ops specs a0 w0 ρ listed a w) → wpAny P .any ops Q fuel listed a w := by
    have hend : ∀ (listed : Array Bool) (a : Act) (w : World), (∃ ρ, RInv ops specs a0 w0 ρ listed a w) → Region.ready .any ops listed = [] → Q .normal a w := by
      rintro listed a w ⟨ρ, hI⟩ hr
      have hall : ∀ i, i < ops.size → listed.getD i false = true := by
        intro i
        induction i using Nat.strongRecOn with
        | _ i ih =>
          intro hi
          cases hl : listed.getD i false with
          | true => rfl
          | false =>
            exfalso
            have ho : ops[i]? = some ops[i] := by simp [hi]
            obtain ⟨s, hs⟩ := hspec i _ ho
            obtain ⟨⟨_, _, h3⟩, _⟩ := okOp_parts hok ho hs
            have : i ∈ Region.ready .any ops listed := mem_ready.2 ⟨by
              have : i < listed.size := by rw [hI.lsize]; exact hi
              simp [this] at hl ⊢; exact hl, _, ho, fun e he hb => ih e.on (h3 e he hb) (by have := h3 e he hb; omega)⟩
            rw [hr] at this; cases this
      have ea : a = { tmps := fin ops specs ρ a0.tmps, defers := a0.defers } := by
        have hd := hI.defers
        have : a.tmps = fin ops specs ρ a0.tmps := by
          apply Array.ext_getElem?
          intro t
          by_cases hex : ∃ (j : Nat) (oj : Oper), ops[j]? = some oj ∧ oj.dst = some t
          · obtain ⟨j, oj, hj, hdj⟩ := hex
            obtain ⟨s, hs⟩ := hspec j oj hj
            have hlj := hall j (Array.getElem?_eq_some_iff.1 hj).1
            have hp := (okOp_parts hok hj hs).2
            cases s with
            | val v =>
              obtain ⟨d, h1, h2, _⟩ := hp
              rw [hdj] at h1; cases h1
              have hw : wr1 ops specs ρ j = some (t, v) := by simp [wr1, hj, hs, hdj]
              rw [hI.vals j t v hw hlj, fin_at hok hw h2]
            | new T zs =>
              obtain ⟨d, h1, h2, _⟩ := hp
              rw [hdj] at h1; cases h1
              have hw : wr1 ops specs ρ j = some (t, .pointer (some ⟨ρ j, 0, none⟩)) := by simp [wr1, hj, hs, hdj]
              rw [hI.vals j t _ hw hlj, fin_at hok hw h2]
            | put k c => rw [hp.1] at hdj; cases hdj
            | fill b c => rw [hp.1] at hdj; cases hdj
          · have hno : ∀ (j : Nat) (oj : Oper), ops[j]? = some oj → oj.dst ≠ some t := fun j oj hj hd => hex ⟨j, oj, hj, hd⟩
            rw [hI.old t (fun j oj hj _ => hno j oj hj), fin_old hno]
        cases a; simp_all
      rw [ea]
      have hput : ∀ j s, specs[j]? = some s → listed.getD j false = true := fun j s hj => hall j (by rw [hsz]; exact (Array.getElem?_eq_some_iff.1 hj).1)
      refine hfin ρ w hI.below (fun j b c hj => by
        obtain ⟨_, cs, T, old, h2, h3, _, h5, _⟩ := hI.sets j b c hj
        rw [h5 (hput j _ hj)] at h2
        exact ⟨T, old, h2, h3⟩) (facts_of _ _ 0 fun j T zs hj => ?_) ?_
      · have hj' : specs[j]? = some (.new T zs) := by simpa using hj
        obtain ⟨h1, h2, cs, h3, h4, h5, h6⟩ := hI.news j T zs hj' (hput j _ hj')
        rw [Nat.zero_add]
        refine ⟨h1, h2, ?_⟩
        rw [h3, ← content_eq specs.toList j zs cs ?_ ?_]
        · intro c hc
          obtain ⟨k, hk⟩ := List.getElem?_of_mem hc
          have hk' : specs[k]? = some (.put j c) := by simpa using hk
          exact h5 k c hk' (hput k _ hk')
        · intro hno
          refine h6 fun k c hk => absurd (List.mem_of_getElem? (show specs.toList[k]? = some (.put j c) by simpa using hk)) (hno c)
      · rw [List.pairwise_map]
        refine List.Pairwise.imp_of_mem ?_ (newsOf_sorted specs.toList 0)
        intro i j hi hj hlt
        obtain ⟨T, zs, _, h1⟩ := newsOf_mem _ 0 i hi
        obtain ⟨U, us, _, h2⟩ := newsOf_mem _ 0 j hj
        have h1' : specs[i]? = some (.new T zs) := by simpa using h1
        have h2' : specs[j]? = some (.new U us) := by simpa using h2
        exact hI.apart i j T U zs us h1' h2' (hput i _ h1') (hput j _ h2') (by omega)
    intro fuel
    induction fuel with
    | zero =>
      intro listed a w hc _ hI
      have hr : Region.ready .any ops listed = [] := by
        cases hr : Region.ready .any ops listed with
        | nil => rfl
        | cons i l =>
          exfalso
          obtain ⟨hl0, _⟩ := mem_ready.1 (show i ∈ Region.ready .any ops listed by rw [hr]; simp)
          have hil : i < listed.size := by
            rcases Nat.lt_or_ge i listed.size with h | h
            · exact h
            · simp [Array.getElem?_eq_none h] at hl0
          have : false ∈ listed.toList := List.mem_of_getElem? (i := i) (by simp [hil] at hl0 ⊢; exact hl0)
          have := List.count_pos_iff.2 this
          omega
      exact ⟨hr, hend listed a w hI hr⟩
    | succ fuel ih =>
      rintro listed a w hc hcl ⟨ρ, hI⟩
      refine ⟨hend listed a w ⟨ρ, hI⟩, ?_⟩
      intro i hr
      obtain ⟨hl0, o, ho, hpre⟩ := mem_ready.1 hr
      have hil : i < listed.size := by rw [hI.lsize]; exact (Array.getElem?_eq_some_iff.1 ho).1
      have hl : listed.getD i false = false := by simp [hil] at hl0 ⊢; exact hl0
      have hc' : (listed.setIfInBounds i true).toList.count false ≤ fuel := by
        have hlv : listed[i] = false := by simpa [hil] using hl
        have hpos := List.count_pos_iff.2 (show false ∈ listed.toList from List.mem_of_getElem? (i := i) (by simp [hil, hlv]))
        rw [Array.toList_setIfInBounds, List.count_set (by simpa using hil)]
        simp [hlv]
        simp only [Array.count_toList] at *
        omega
      have hcl' : Closed ops (listed.setIfInBounds i true) := by
        intro j oj hj hlj e he hb
        rw [listed_set hil] at hlj
        rw [listed_set hil]
        split
        · rfl
        · by_cases hji : j = i
          · subst hji
            rw [ho] at hj; cases hj
            exact hpre e he hb
          · rw [if_neg hji] at hlj
            exact hcl j oj hj hlj e he hb
      obtain ⟨s, hs⟩ := hspec i o ho
      obtain ⟨⟨hg, hsel, _⟩, hp⟩ := okOp_parts hok ho hs
      have hO := hobi i o s ho hs
      have hsel' : ∀ cs b, o.op ≠ .select cs b := fun cs b e => by rw [e] at hsel; simp [isSelect] at hsel
      have hwant : Region.wanted o (yielded ops a.tmps) = true := by simp [Region.wanted, hg]
      unfold wpOp
      simp only [ho, hwant, if_true]
      refine .inl ?_
      unfold Oper.wp
      cases s with
      | val v =>
        obtain ⟨d, hd, hdn, hm⟩ := hp
        have he := execOp_congr o hsel' (fun x hx => eval_fin hok rfl hI hr ho hm x (by simpa using hx))
        rw [he]
        have hB : ExB (S i) w0 w := by
          refine ⟨hI.below.os, hI.below.tape, hI.below.output, hI.below.size, fun k hk hn => ?_⟩
          by_cases hks : k ∈ setsOf specs.toList
          · obtain ⟨j, c, hj, hrj⟩ := hS i k hks hn
            obtain ⟨_, cs, T, old, h2, h3, _, _, h5⟩ := hI.sets j k c hj
            have hlj : listed.getD j false = false := by
              cases h : listed.getD j false with
              | false => rfl
              | true => have := reach_listed hcl _ i j hrj h; rw [hl] at this; cases this
            rw [h2, h3, h5 hlj]
          · exact hI.below.block k hk hks
        exact upon_join (hO.1 w hB) fun w' hb => ih _ _ _ hc' hcl' ⟨ρ, step_val hok rfl hI ho hs hl hb⟩
      | new T zs =>
        rw [hO.1 a.eval w]
        exact ih _ _ _ hc' hcl' ⟨_, step_new hok rfl hI hr ho hs hl⟩
      | put k c =>
        obtain ⟨hd, ty, p, y, ok, T, zs, hop, hk, hkd, hks, hsz2, ⟨e, hem, hek, heb⟩, hm⟩ := hp
        have hlk : listed.getD k false = true := by rw [← hek]; exact hpre e hem heb
        obtain ⟨g1, g2, gc, g3, g4, g5, g6⟩ := hI.news k T zs hks hlk
        have hpt : a.eval (.tmp p) = .pointer (some ⟨ρ k, 0, none⟩) := by
          have := hI.vals k p _ (by simp only [wr1, hk, hks, hkd, Option.map_some]; rfl) hlk
          simp [Act.eval, this]
        have hy := eval_fin hok rfl hI hr ho hm y (by simp)
        have hO1 := hO.1
        simp only [hop] at hO1
        have hrun : (execOp a.eval o).run P w = .ok .skip (w.setRow (ρ k) c) := by
          unfold execOp
          simp only [hop, hpt, Instr.storeAt, Instr.sureAddr, Sem.run_bind, Sem.run_pure, Result.andThen_ok, hy, hO1 T w (ρ k) gc g3 (by omega)]
        rw [hrun]
        exact ih _ _ _ hc' hcl' ⟨ρ, step_put hok hI ho hs hks hsz2 hlk hl⟩
      | fill b c =>
        obtain ⟨hd, ty, x, y, hop, hm⟩ := hp
        obtain ⟨g1, gc, gT, gold, g2, g3, g4, _, g5⟩ := hI.sets i b c hs
        rw [g5 hl] at g2
        have hx := eval_fin hok rfl hI hr ho hm x (by simp)
        have hy := eval_fin hok rfl hI hr ho hm y (by simp)
        have hO1 := hO.1
        simp only [hop] at hO1
        have hrun : (execOp a.eval o).run P w = .ok .skip (w.setRow b c) := by
          unfold execOp
          simp only [hop, hx, hy, Sem.run_bind, Sem.run_pure, Result.andThen_ok, hO1 w gold gT g3 g2]
        rw [hrun]
        exact ih _ _ _ hc' hcl' ⟨ρ, step_set hok hdis hI ho hs hl⟩
  have hno : ∀ j, (Array.replicate ops.size false).getD j false = false := fun j => by
    simp [Array.getElem?_replicate]; split <;> rfl
  refine main ops.size _ _ _ (by simp) (fun j _ _ h => by rw [hno] at h; cases h) ⟨fun _ => 0, ?_⟩
  refine ⟨by simp, rfl, rfl, (ExB.refl _ _).drew, ?_, fun _ _ => rfl, ?_, ?_, ?_, ?_⟩
  · intro j b c hj
    obtain ⟨old, T, h1, h2⟩ := hold j b c hj
    exact ⟨(Array.getElem?_eq_some_iff.1 h1).1, old, T, old, h1, h1, h2, (fun h => by rw [hno] at h; cases h), fun _ => rfl⟩
  · intro i d v _ h; rw [hno] at h; cases h
  · intro i T zs _ h; rw [hno] at h; cases h
  · intro i j T U zs us _ _ h; rw [hno] at h; cases h
  · intro i k c T zs _ _ _; exact hno k
/-- The frame in the end, operation by operation: for 'simp'. -/
def finL (ρ : Nat → Nat) : Nat → List Oper → List RSpec → Array Value → Array Value
  | i, o :: os, s :: ss, T => finL ρ (i + 1) os ss (match o.dst, s with
      | some d, .val v => T.setIfInBounds d v
      | some d, .new _ _ => T.setIfInBounds d (.pointer (some ⟨ρ i, 0, none⟩))
      | _, _ => T)
  | _, _, _, T => T

theorem fin_finL {ρ : Nat → Nat} (hsz : ops.size = specs.size) : ∀ (m i : Nat) (T : Array Value), i + m = ops.size →
    setAll T ((List.range' i m).filterMap (wr1 ops specs ρ)) = finL ρ i (ops.toList.drop i) (specs.toList.drop i) T
  | 0, i, T, h => by
    rw [List.drop_eq_nil_of_le (by simp; omega)]
    simp [finL, setAll]
  | m + 1, i, T, h => by
    have h1 : i < ops.size := by omega
    have h2 : i < specs.size := by omega
    have l1 : i < ops.toList.length := by simpa using h1
    have l2 : i < specs.toList.length := by simpa using h2
    rw [List.drop_eq_getElem_cons l1, List.drop_eq_getElem_cons l2, List.range'_succ]
    simp only [finL, List.filterMap_cons]
    have e1 : ops[i]? = some ops[i] := by simp [h1]
    have e2 : specs[i]? = some specs[i] := by simp [h2]
    have hw : wr1 ops specs ρ i = match specs[i] with
        | .val v => ops[i].dst.map fun d => (d, v)
        | .new _ _ => ops[i].dst.map fun d => (d, .pointer (some ⟨ρ i, 0, none⟩))
        | .put _ _ => none
        | .fill _ _ => none := by
      unfold wr1
      rw [e1, e2]
      cases specs[i] <;> rfl
    rw [hw]
    simp only [Array.getElem_toList]
    cases hs : specs[i] with
    | val v =>
      cases hd : ops[i].dst with
      | none => simp only [Option.map_none]; exact fin_finL hsz m (i + 1) _ (by omega)
      | some d => simp only [Option.map_some, setAll]; exact fin_finL hsz m (i + 1) _ (by omega)
    | new U zs =>
      cases hd : ops[i].dst with
      | none => simp only [Option.map_none]; exact fin_finL hsz m (i + 1) _ (by omega)
      | some d => simp only [Option.map_some, setAll]; exact fin_finL hsz m (i + 1) _ (by omega)
    | put k c =>
      cases hd : ops[i].dst with
      | none => exact fin_finL hsz m (i + 1) _ (by omega)
      | some d => exact fin_finL hsz m (i + 1) _ (by omega)
    | fill b c =>
      cases hd : ops[i].dst with
      | none => exact fin_finL hsz m (i + 1) _ (by omega)
      | some d => exact fin_finL hsz m (i + 1) _ (by omega)

theorem fin_eq {ρ : Nat → Nat} {T : Array Value} (hsz : ops.size = specs.size) : fin ops specs ρ T = finL ρ 0 ops.toList specs.toList T := by
  have := fin_finL (ρ := ρ) hsz ops.size 0 T (by omega)
  rw [← List.range_eq_range'] at this
  exact this

/-- THE RULE, for 'simp': no variable that was there is filled. -/
theorem wp_join {id : Nat} {Q : Exit → Act → World → Prop} {os : List Oper} {T : Array Value} {ds : List Deferred} (ss : List RSpec) (hm : P.follows .mixedOrders = true)
    (hok : okAll os.toArray ss.toArray T.size = true) (hns : setsOf ss = [])
    (hob : Obls P (fun _ => []) w0 { tmps := finL (fun _ => 0) 0 os ss T, defers := ds } 0 (os.zip ss))
    (hfin : ∀ (ρ : Nat → Nat) (w : World), Below w0.heap.size w0 w → Facts ss w0 ρ w 0 ss → ((newsOf 0 ss).map ρ).Pairwise (· ≠ ·) → Q .normal { tmps := finL ρ 0 os ss T, defers := ds } w) :
    (Code.region id os.toArray true).wp P Q { tmps := T, defers := ds } w0 := by
  have hsz : os.toArray.size = ss.toArray.size := by
    have := hok
    simp only [okAll, Bool.and_eq_true, beq_iff_eq] at this
    exact this.1.1.1
  have hno : ∀ (j b : Nat) (c : Array Value), ss.toArray[j]? ≠ some (.fill b c) := fun j b c h => by
    have := setsOf_mem (l := ss) (j := j) (b := b) (c := c) (by simpa using h)
    rw [hns] at this; cases this
  refine wp_region_join ss.toArray hm hok (by rw [hns]; exact List.Pairwise.nil) (fun _ => []) (fun i k h => by rw [hns] at h; cases h) (fun j b c h => absurd h (hno j b c)) ?_ ?_
  · rw [fin_eq hsz]; exact hob
  · intro ρ w hb _ hf hd
    rw [fin_eq hsz]
    rw [hns] at hb
    exact hfin ρ w ⟨hb.os, hb.tape, hb.output, hb.size, fun k hk => hb.block k hk (by simp)⟩ hf hd

/-- What the variables held that are filled anew. -/
def Olds (w0 : World) : List RSpec → Prop
  | [] => True
  | .fill b c :: l => (∃ (old : Array Value) (T : TypeId), w0.heap[b]? = some (.cells old T (0, 0)) ∧ old.size = c.size) ∧ Olds w0 l
  | _ :: l => Olds w0 l
theorem olds_at : ∀ {l : List RSpec} {j b : Nat} {c : Array Value}, Olds w0 l → l[j]? = some (.fill b c) → ∃ old T, w0.heap[b]? = some (.cells old T (0, 0)) ∧ old.size = c.size
  | [], j, b, c, _, h => by simp at h
  | s :: l, 0, b, c, hO, h => by simp at h; subst h; exact hO.1
  | s :: l, j + 1, b, c, hO, h => by
    refine olds_at (l := l) (j := j) ?_ (by simpa using h)
    cases s <;> first | exact hO | exact hO.2
/-- THE RULE, for 'simp': variables that were there are filled, too. E: pairs of an operation and of a filling that always comes behind it. -/
theorem wp_join_read {id : Nat} {Q : Exit → Act → World → Prop} {os : List Oper} {T : Array Value} {ds : List Deferred} (ss : List RSpec) (E : List (Nat × Nat)) (hm : P.follows .mixedOrders = true)
    (hok : okAll os.toArray ss.toArray T.size = true) (hE : E.all (fun p => reach os.toArray os.length p.1 p.2) = true) (hdis : (setsOf ss).Pairwise (· ≠ ·)) (hold : Olds w0 ss)
    (hob : Obls P (fun i => setsBut E i 0 ss) w0 { tmps := finL (fun _ => 0) 0 os ss T, defers := ds } 0 (os.zip ss))
    (hfin : ∀ (ρ : Nat → Nat) (w : World), ExB (setsOf ss) w0 w → (∀ (j b : Nat) (c : Array Value), ss[j]? = some (.fill b c) → ∃ (T : TypeId) (old : Array Value), w.heap[b]? = some (.cells c T (0, 0)) ∧ w0.heap[b]? = some (.cells old T (0, 0))) →
      Facts ss w0 ρ w 0 ss → ((newsOf 0 ss).map ρ).Pairwise (· ≠ ·) → Q .normal { tmps := finL ρ 0 os ss T, defers := ds } w) :
    (Code.region id os.toArray true).wp P Q { tmps := T, defers := ds } w0 := by
  have hsz : os.toArray.size = ss.toArray.size := by
    have := hok
    simp only [okAll, Bool.and_eq_true, beq_iff_eq] at this
    exact this.1.1.1
  refine wp_region_join ss.toArray hm hok hdis (fun i => setsBut E i 0 ss) ?_ (fun j b c h => olds_at hold (by simpa using h)) ?_ ?_
  · intro i k hk hn
    obtain ⟨j, c, h1, h2⟩ := setsBut_or ss 0 hk hn
    refine ⟨j, c, by simpa using h1, ?_⟩
    rw [Nat.zero_add] at h2
    have := List.all_eq_true.1 hE (i, j) (by simpa using h2)
    simpa using this
  · rw [fin_eq hsz]; exact hob
  · intro ρ w hb hs hf hd
    rw [fin_eq hsz]
    exact hfin ρ w hb (fun j b c h => hs j b c (by simpa using h)) hf hd
/-- THE RULE, for 'simp': variables that were there are filled, too. -/
theorem wp_join_set {id : Nat} {Q : Exit → Act → World → Prop} {os : List Oper} {T : Array Value} {ds : List Deferred} (ss : List RSpec) (hm : P.follows .mixedOrders = true)
    (hok : okAll os.toArray ss.toArray T.size = true) (hdis : (setsOf ss).Pairwise (· ≠ ·)) (hold : Olds w0 ss)
    (hob : Obls P (fun _ => setsOf ss) w0 { tmps := finL (fun _ => 0) 0 os ss T, defers := ds } 0 (os.zip ss))
    (hfin : ∀ (ρ : Nat → Nat) (w : World), ExB (setsOf ss) w0 w → (∀ (j b : Nat) (c : Array Value), ss[j]? = some (.fill b c) → ∃ (T : TypeId) (old : Array Value), w.heap[b]? = some (.cells c T (0, 0)) ∧ w0.heap[b]? = some (.cells old T (0, 0))) →
      Facts ss w0 ρ w 0 ss → ((newsOf 0 ss).map ρ).Pairwise (· ≠ ·) → Q .normal { tmps := finL ρ 0 os ss T, defers := ds } w) :
    (Code.region id os.toArray true).wp P Q { tmps := T, defers := ds } w0 := by
  have hsz : os.toArray.size = ss.toArray.size := by
    have := hok
    simp only [okAll, Bool.and_eq_true, beq_iff_eq] at this
    exact this.1.1.1
  refine wp_region_join ss.toArray hm hok hdis (fun _ => setsOf ss) (fun _ _ h hn => absurd h hn) (fun j b c h => olds_at hold (by simpa using h)) ?_ ?_
  · rw [fin_eq hsz]; exact hob
  · intro ρ w hb hs hf hd
    rw [fin_eq hsz]
    exact hfin ρ w hb (fun j b c h => hs j b c (by simpa using h)) hf hd

/-- The rules by which cells are read behind a call. -/
theorem bcell {W w1 : World} (hb : Below W.heap.size W w1) : (∀ b o, b < W.heap.size → w1.cell? ⟨b, o, none⟩ = W.cell? ⟨b, o, none⟩) ∧ (∀ b o, b < W.heap.size → w1.frozen? ⟨b, o, none⟩ = W.frozen? ⟨b, o, none⟩) :=
  ⟨fun b o h => hb.cell (p := ⟨b, o, none⟩) h, fun b o h => hb.frozen (p := ⟨b, o, none⟩) h⟩
/-- What is known of a variable that lies in a block of its own. -/
theorem var4 {w : World} {b : Nat} {c0 c1 c2 c3 : Value} {T : TypeId} (h : w.heap[b]? = some (.cells #[c0, c1, c2, c3] T (0, 0))) :
    (w.cell? ⟨b, 0, none⟩ = some c0 ∧ w.cell? ⟨b, 1, none⟩ = some c1 ∧ w.cell? ⟨b, 2, none⟩ = some c2 ∧ w.cell? ⟨b, 3, none⟩ = some c3) ∧ ∀ o, w.frozen? ⟨b, o, none⟩ = false := by
  simp [World.cell?, World.frozen?, h]
/-- Where the blocks lie that were there before a call: for 'simp'. -/
theorem blt {W w1 : World} (hb : Below W.heap.size W w1) :
    (∀ x, x < W.heap.size → (x < w1.heap.size) = True) ∧ (∀ x, x < W.heap.size → (x ≤ w1.heap.size) = True) ∧ (∀ x, x < W.heap.size → (x ≤ w1.heap.size + 1) = True) ∧
    (∀ x, x < W.heap.size → (x ≤ w1.heap.size + 1 + 1) = True) ∧ (∀ x, x < W.heap.size → (x ≤ w1.heap.size + 1 + 1 + 1) = True) ∧ (∀ x, x < W.heap.size → (x ≤ w1.heap.size + 1 + 1 + 1 + 1) = True) := by
  have := hb.size
  refine ⟨?_, ?_, ?_, ?_, ?_, ?_⟩ <;> (intro x hx; simp; omega)
theorem put_row {P : Program} {A : Act} {y : Operand} {c : Array Value} {ty : TypeId} (hy : A.eval y = .agg c) (hi : (P.info? ty).map (·.size) = some c.size) (h1 : c.all (·.oneCell') = true) :
    ∀ T (w : World) g old, w.heap[g]? = some (.cells old T (0, 0)) → old.size = c.size → (storeVar ty ⟨g, 0, none⟩ (A.eval y)).run P w = .ok () (w.setRow g c) := by
  intro T w g old hg hz
  rw [hy]
  exact run_storeVar_row w g T ty old c hg hi hz h1

/-- A whole variable is filled. -/
theorem fill_row {P : Program} {A : Act} {w0 : World} {x y : Operand} {b : Nat} {c : Array Value} {ty : TypeId} (hx : A.eval x = .pointer (some ⟨b, 0, none⟩)) (hy : A.eval y = .agg c) (hi : (P.info? ty).map (·.size) = some c.size) (h1 : c.all (·.oneCell') = true)
    (hold : Olds w0 [.fill b c]) :
    ∀ (w : World) old T, w0.heap[b]? = some (.cells old T (0, 0)) → w.heap[b]? = some (.cells old T (0, 0)) → (Instr.storeAt ty (A.eval x) (A.eval y)).run P w = .ok () (w.setRow b c) := by
  intro w old T h0 hg
  obtain ⟨⟨old', T', h2, h3⟩, _⟩ := hold
  rw [h0] at h2
  cases h2
  rw [hx, hy]
  simp only [Instr.storeAt, Instr.sureAddr, Sem.run_bind, Sem.run_pure, Result.andThen_ok, run_storeVar_row w b T ty old c hg hi h3 h1]
/-- One cell of a variable is filled. -/
theorem fill_cell {P : Program} {A : Act} {w0 : World} {x y : Operand} {b i : Nat} {c : Array Value} {v : Value} {ty : TypeId} (hx : A.eval x = .pointer (some ⟨b, i, none⟩)) (hy : A.eval y = v) (hv : v.oneCell' = true) (hi : (P.info? ty).map (·.size) = some 1)
    (hold : ∀ old T, w0.heap[b]? = some (.cells old T (0, 0)) → i < old.size ∧ c = old.setIfInBounds i v) :
    ∀ (w : World) old T, w0.heap[b]? = some (.cells old T (0, 0)) → w.heap[b]? = some (.cells old T (0, 0)) → (Instr.storeAt ty (A.eval x) (A.eval y)).run P w = .ok () (w.setRow b c) := by
  intro w old T h0 hg
  obtain ⟨hlt, rfl⟩ := hold old T h0
  have hcell : w.cell? ⟨b, i, none⟩ = some old[i] := by simp [World.cell?, hg, hlt]
  have hfro : w.frozen? ⟨b, i, none⟩ = false := by simp [World.frozen?, hg]
  have hcs : v.cells = #[v] := by cases v <;> first | rfl | simp [Value.oneCell'] at hv
  rw [hx, hy]
  cases hq : P.info? ty with
  | none => simp [hq] at hi
  | some j =>
    have hs : j.size = 1 := by simpa [hq] using hi
    have hadd : (⟨b, i, none⟩ : Addr).add 0 = ⟨b, i, none⟩ := by simp [Addr.add]
    simp [Instr.storeAt, Instr.sureAddr, storeVar, sizeOf, typeInfo, hq, hs, hcs, storeCells, hadd, run_store P w _ v _ hv, hcell, hfro, setCell_eq_setRow w b i old T (0, 0) v hg]
end
end Go.Proofs.Ytmfgldfldejgcaa
