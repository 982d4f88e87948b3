/- The engine, part 3: regions, in whatever order. -/
import Derived.Test.YtilmfdlonpjjiaaVb
import Derived.Laws.IdiomStrings
import Derived.MapKept
import Derived.Maps.RangeRun
namespace Go.Proofs.Ytilmfdlonpjjiaa
set_option linter.unusedVariables false
set_option linter.unusedSimpArgs false
set_option linter.unusedSectionVars false
open Go

def vzeros (r : TR) (m : Nat) : List VV := (List.range m).map fun i => r.zero.getD (i % r.size) .any
theorem vzeros_length (r : TR) (m : Nat) : (vzeros r m).length = m := by simp [vzeros]
theorem vzeros_ok {E : Env} {r : TR} {z : Array Value} (h : VRs E r.zero z.toList) (hz : z.size = r.size) (ho : ones z.toList) (m : Nat) (hp : m = 0 ∨ 0 < r.size) :
    VRs E (vzeros r m) ((Array.range m).map (fun i => z[i % z.size]!)).toList ∧ ones ((Array.range m).map (fun i => z[i % z.size]!)).toList := by
  have key : ∀ i, i < m → ∃ u, z.toList[i % r.size]? = some u ∧ z[i % z.size]! = u ∧ VR E (r.zero.getD (i % r.size) .any) u := by
    intro i hi
    have hs : 0 < r.size := by omega
    have hlt : i % r.size < z.size := by rw [hz]; exact Nat.mod_lt _ hs
    have hl := h.length
    have hl2 : i % r.size < r.zero.length := by rw [← hl]; simpa using hlt
    obtain ⟨u, h1, h2⟩ := h.get (List.getElem?_eq_getElem hl2)
    refine ⟨u, h1, ?_, ?_⟩
    · rw [hz]
      have : z[i % r.size]? = some u := by simpa using h1
      simp [getElem!_def, this]
    · rw [List.getD_eq_getElem?_getD, List.getElem?_eq_getElem hl2]; exact h2
  constructor
  · refine VRs.of_get (by simp [vzeros]) fun i cc u h1 h2 => ?_
    simp only [vzeros, List.getElem?_map, Option.map_eq_some_iff] at h1
    obtain ⟨j, hj, rfl⟩ := h1
    have hj' : j = i ∧ i < m := by
      obtain ⟨q1, q2⟩ := List.getElem?_eq_some_iff.1 hj
      simp at q1 q2
      exact ⟨q2.symm, q1⟩
    obtain ⟨rfl, hlt⟩ := hj'
    obtain ⟨u', g1, g2, g3⟩ := key j hlt
    have : u = u' := by
      simp [hlt] at h2
      rw [← h2, ← g2]
    subst this
    exact g3
  · intro u hu
    simp only [Array.toList_map, Array.toList_range, List.mem_map, List.mem_range] at hu
    obtain ⟨i, hi, rfl⟩ := hu
    obtain ⟨u', g1, g2, _⟩ := key i hi
    rw [g2]
    exact ho u' (List.mem_of_getElem? g1)

section
variable {P : Program} {G : Globs} {Γ : Tab} (hΓ : TabOk P Γ) {o : Oper} {Tv : Operand → VV} {lkf : Nat → Option (List VV)} {n : Nat}
include hΓ

theorem evok_buildSlice {t e : TypeId} {r : TR} {len : Nat} {parts : Array (Nat × Operand)} {cs : List VV} (hop : o.op = .buildSlice t len parts) (ht : sliceOf Γ t = some (e, r)) (hp : 0 < r.size) (hm : len * r.size ≤ 2 ^ 24)
    (hc : vfill (fun i => some (i * r.size, r.size)) (vzeros r (len * r.size)) (parts.toList.map fun (i, x) => (i, Tv x)) = some cs) (hcl : cs.length = len * r.size) :
    EvOk P G o Tv lkf n ⟨.sl n 0 len r.size, [], [(n, some cs)], 1⟩ := by
  refine ⟨fun p hp => by simp at hp; subst hp; exact .inr ⟨Nat.le_refl _, by simp⟩, fun c a H hG hr _ hf => ?_⟩
  rw [hop] at hr
  obtain ⟨hu, hre⟩ := sliceOf_ok hΓ ht
  obtain ⟨z, z1, z2, z3, z4, i, z5, z6⟩ := zero_ok hΓ hre c.env
  have hS := fun w => run_sizeOf_tab hΓ hre w
  obtain ⟨k1, k2⟩ := vzeros_ok z2 z4 z3 (len * r.size) (.inr hp)
  obtain ⟨us, g1, g2, g3⟩ := vfill_ok (E := c.env) (place := fun i => some (i * r.size, r.size)) _ ((parts.map fun (i, x) => (i, a.eval x)).toList) _ ((Array.range (len * r.size)).map (fun i => z.cells[i % z.cells.size]!)) cs hc k1 k2 (by simp [Function.comp_def]) (by
      simp only [Array.toList_map, List.map_map, Function.comp_def]
      have := VRs_map (E := c.env) (ev := Tv) (f := a.eval) (parts.toList.map (·.2)) (fun x hx => hr x (by simpa [Op.operands] using hx))
      simpa [Function.comp_def] using this)
  have hl := g2.length
  have hrun : (Instr.buildSlice t len (parts.map fun (i, x) => (i, a.eval x))).run P c.w = .ok (.slice (some ⟨c.w.heap.size, 0, none⟩) len len) (c.w.alloc (.cells us e)) := by
    unfold Instr.buildSlice
    simp only [Sem.run_bind, run_underlying hu, Result.andThen_ok, hS]
    rw [if_neg (by omega)]
    by_cases h0 : len * r.size = 0
    · have hl0 : len = 0 := by
        rcases Nat.mul_eq_zero.1 h0 with h | h
        · exact h
        · omega
      subst hl0
      have hr0 : ∀ f : Nat → Value, (Array.range 0).map f = #[] := fun f => Array.eq_empty_of_size_eq_zero (by simp)
      simp [hr0] at g1
      simp [hr0, g1, newRow, newObj, Sem.run_bind, Sem.run]
    · simp only [if_neg h0, Sem.run_pure, Sem.run_bind, Result.andThen_ok, z1, g1]
      simp [newRow, newObj, Sem.run_bind, Sem.run]
  obtain ⟨c', q1, q2, q3, q4, q5, q6, q7⟩ := alloc_ok H (n := n) (by simpa using hf 0 (by simp)) (w' := c.w.alloc (.cells us e)) (us := us) (T := e) (fr := (0, 0)) (cs := cs) rfl rfl rfl rfl (.inl rfl)
    (by simp at hl; omega) (by rw [← hl, List.take_of_length_le (Nat.le_refl _)]; exact g2) (ones_take g3 _)
  unfold OGoes
  simp only [execOp, hop, Sem.run_bind, Result.andThen_ok, hrun, Sem.run_pure]
  refine ⟨c', q1, q2, by rw [q3]; rfl, ?_, q4, q6⟩
  simp only [VR]
  refine .inr ⟨_, len, q5, rfl, Nat.le_refl _, ?_, us, e, (0, 0), ?_, ?_⟩
  · have : len ≤ len * r.size := Nat.le_mul_of_pos_right _ hp
    simp only [maxLen]; omega
  · show c'.w.heap[_]? = _
    rw [q1]; exact q7
  · simp at hl; omega

theorem evok_makeSlice {t e : TypeId} {r : TR} {l cp : Operand} {k1 k2 : IntKind} {len : Int} (hop : o.op = .makeSlice t l cp) (ht : sliceOf Γ t = some (e, r)) (hp : 0 < r.size) (hl : Tv l = nI k1 len) (hcp : Tv cp = nI k2 len)
    (h0 : 0 ≤ len) (hm : len * r.bytes ≤ 140737488355328) (hm2 : len ≤ 140737488355328) :
    EvOk P G o Tv lkf n ⟨.sl n 0 len.toNat r.size, [], [(n, some (vzeros r (len.toNat * r.size)))], 1⟩ := by
  refine ⟨fun p hp => by simp at hp; subst hp; exact .inr ⟨Nat.le_refl _, by simp⟩, fun c a H hG hr _ hf => ?_⟩
  rw [hop] at hr
  have h1 := hr l (by simp [Op.operands])
  have h2 := hr cp (by simp [Op.operands])
  rw [hl] at h1; rw [hcp] at h2
  simp only [nI, VR] at h1 h2
  obtain ⟨hu, hre⟩ := sliceOf_ok hΓ ht
  obtain ⟨z, z1, z2, z3, z4, i, z5, z6⟩ := zero_ok hΓ hre c.env
  obtain ⟨_, i', _, _, _, y3, y4, y5, _⟩ := (hΓ e r hre).ex
  have hS := fun w => run_sizeOf_tab hΓ hre w
  have hT := fun w => (show (typeInfo e).run P w = .ok i' w by simp [typeInfo, y3])
  obtain ⟨g2, g3⟩ := vzeros_ok z2 z4 z3 (len.toNat * r.size) (.inr hp)
  have hw : IntKind.i64.wrap len = len := by
    simp only [IntKind.wrap, IntKind.bits, IntKind.signed]
    simp
    omega
  have hask : ∀ (q : Nat) (w : World), (askRoom q).run P w = .ok () w := fun q w => by unfold askRoom; split <;> rfl
  have hrun : (Instr.makeSlice t (.int k1 len) (.int k2 len)).run P c.w = .ok (.slice (some ⟨c.w.heap.size, 0, none⟩) len.toNat len.toNat) (c.w.alloc (.cells ((Array.range (len.toNat * r.size)).map (fun i => z.cells[i % z.cells.size]!)) e)) := by
    unfold Instr.makeSlice
    have hnot : ¬ ((i'.bytes : Int) * len > 2 ^ 48) := by rw [y5, Int.mul_comm]; omega
    simp only [Sem.run_bind, run_underlying hu, Result.andThen_ok, asInt, asIntOf, Sem.run_pure, hT, hw]
    have hcond : (decide (len < 0) || decide ((i'.bytes : Int) * len > 2 ^ 48) || decide (len < 0) || decide (len > len)) = false := by
      simp only [Bool.or_eq_false_iff, decide_eq_false_iff_not]; refine ⟨⟨⟨by omega, hnot⟩, by omega⟩, by omega⟩
    have hc2 : ¬ ((decide (len < 0) || decide ((i'.bytes : Int) * len > 2 ^ 48)) = true ∨ len < 0 ∨ len > len) := by
      simp only [Bool.or_eq_true, decide_eq_true_eq]
      omega
    by_cases hn0 : len.toNat * r.size = 0
    · have hl0 : len = 0 := by
        rcases Nat.mul_eq_zero.1 hn0 with h | h <;> omega
      subst hl0
      have hr0 : ∀ f : Nat → Value, (Array.range 0).map f = #[] := fun f => Array.eq_empty_of_size_eq_zero (by simp)
      simp [hr0, hask, hS, newRow, newObj, Sem.run_bind, Sem.run]
    · have h00 : ¬ len < 0 := by omega
      have h01 : ¬ (281474976710656 < (i'.bytes : Int) * len) := by omega
      simp [h00, h01, hask, hS, hn0, z1, newRow, newObj, Sem.run_bind, Sem.run]
  obtain ⟨c', q1, q2, q3, q4, q5, q6, q7⟩ := alloc_ok H (n := n) (by simpa using hf 0 (by simp)) (w' := c.w.alloc (.cells ((Array.range (len.toNat * r.size)).map (fun i => z.cells[i % z.cells.size]!)) e)) (us := (Array.range (len.toNat * r.size)).map (fun i => z.cells[i % z.cells.size]!)) (T := e) (fr := (0, 0)) (cs := vzeros r (len.toNat * r.size)) rfl rfl rfl rfl (.inl rfl)
    (by simp [vzeros_length]) (by rw [← g2.length, List.take_of_length_le (Nat.le_refl _)]; exact g2) (ones_take g3 _)
  unfold OGoes
  simp only [execOp, hop, h1, h2, Sem.run_bind, Result.andThen_ok, hrun, Sem.run_pure]
  refine ⟨c', q1, q2, by rw [q3]; rfl, ?_, q4, q6⟩
  simp only [VR]
  refine .inr ⟨_, len.toNat, q5, rfl, Nat.le_refl _, ?_, (Array.range (len.toNat * r.size)).map (fun i => z.cells[i % z.cells.size]!), e, (0, 0), ?_, by simp⟩
  · simp only [maxLen]; omega
  · show c'.w.heap[_]? = _
    rw [q1]; exact q7

/-- A slice of an array. -/
theorem evok_slicePtr {t e : TypeId} {x : Operand} {lo hi mx : Option Operand} {h off N s l hh m : Nat} {cs : List VV} (hop : o.op = .slice t x lo hi mx) (hx : Tv x = .ptr h off) (ht : arrOf Γ t = some (N, e, s)) (hl : lkf h = some cs)
    (b1 : vb (lo.map Tv) 0 = some l) (b2 : vb (hi.map Tv) N = some hh) (b3 : vb (mx.map Tv) N = some m) (hmh : (mx.map Tv).isSome = true → (hi.map Tv).isSome = true) (c1 : l ≤ hh) (c2 : hh ≤ m) (c3 : m ≤ N) (hN : N ≤ maxLen) (hsz : off + N * s ≤ cs.length) :
    EvOk P G o Tv lkf n ⟨.sl h (if m = l then off else off + l * s) (hh - l) s, [h], [], 0⟩ := by
  refine ⟨(fun p hp => by cases hp), fun c a H hG hr hrd _ => ?_⟩
  rw [hop] at hr
  have h1 := hr x (by simp [Op.operands])
  rw [hx] at h1; simp only [VR] at h1
  obtain ⟨b, h2, h3, hq⟩ := h1
  obtain ⟨us, T, fr, k1, k2, k3, k4, k5, k6⟩ := blk_cells H (by rw [hrd h (by simp)]; exact hl) h2 hq
  obtain ⟨hu, r, hre, rfl⟩ := arrOf_ok hΓ ht
  have hS := fun w => run_sizeOf_tab hΓ hre w
  have ro : ∀ (y : Option Operand), (∀ z, y = some z → VR c.env (Tv z) (a.eval z)) → VRo c.env (y.map Tv) (y.map a.eval) := fun y hy => by
    cases y with
    | none => trivial
    | some z => exact hy z rfl
  have hb := run_sliceBounds (P := P) (isS := false) (ro lo fun z hz => hr z (by simp [hz, Op.operands])) (ro hi fun z hz => hr z (by simp [hz, Op.operands])) (ro mx fun z hz => hr z (by simp [hz, Op.operands])) b1 b2 b3 hmh c1 c2 c3 c.w
  unfold OGoes
  have hrun : (Instr.sliceAt t (a.eval x) (lo.map a.eval) (hi.map a.eval) (mx.map a.eval)).run P c.w = .ok (.slice (some ⟨b, if m = l then off else off + l * r.size, none⟩) (hh - l) (m - l)) c.w := by
    unfold Instr.sliceAt
    simp only [Sem.run_bind, run_underlying hu, Result.andThen_ok, h3, Instr.sureAddr, Sem.run_pure, hb, hS]
    split <;> simp [Addr.add_lit]
  simp only [execOp, hop, Sem.run_bind, Result.andThen_ok, hrun, Sem.run_pure]
  refine ⟨c, rfl, H, rfl, ?_, Le.refl c, newOnly.refl⟩
  simp only [VR]
  refine .inr ⟨b, m - l, h2, rfl, by omega, by omega, us, T, fr, k1, ?_⟩
  split
  · rename_i hml; subst hml; simp; omega
  · have e1 : l * r.size + (m - l) * r.size = m * r.size := by rw [← Nat.add_mul]; congr 1; omega
    have e2 : m * r.size ≤ N * r.size := Nat.mul_le_mul_right _ c3
    omega
end

def byV (b : UInt8) : VV := .v (.int .u8 (b.toNat : Int))
theorem byV_VRs {E : Env} : ∀ {l : List UInt8} {us : List Value}, VRs E (l.map byV) us → us = l.map (fun b => Value.int .u8 (b.toNat : Int))
  | [], us, h => by simpa [VRs] using h
  | b :: l, us, h => by
    simp only [List.map_cons, VRs, byV, VR] at h
    obtain ⟨u, us', rfl, rfl, h2⟩ := h
    rw [List.map_cons, byV_VRs h2]
theorem VRs_byV (E : Env) : ∀ (l : List UInt8), VRs E (l.map byV) (l.map (fun b => Value.int .u8 (b.toNat : Int))) ∧ ones (l.map (fun b => Value.int .u8 (b.toNat : Int)))
  | [] => ⟨by simp [VRs], by simp [ones]⟩
  | b :: l => by
    obtain ⟨h1, h2⟩ := VRs_byV E l
    refine ⟨VRs.cons (by simp [byV, VR]) h1, fun u hu => ?_⟩
    simp only [List.map_cons, List.mem_cons] at hu
    rcases hu with rfl | hu
    · rfl
    · exact h2 u hu

def FGoes (P : Program) (g : FuncId) (args : Array Value) (w : World) (R : Value → World → Prop) : Prop :=
  match (callFunc g args).run P w with
  | .ok (.value u) w' => R u w'
  | .ok (.enter f as) w' => Calls P f as w' fun e w'' => ∃ u, e = .returned u ∧ R u w''
  | _ => False
/-- What a call of g with the values vargs comes to. -/
structure Ret (P : Program) (G : Globs) (g : FuncId) (vargs : List VV) (lkf : Nat → Option (List VV)) (n : Nat) (ev : Ev) : Prop where
  within : Within n ev
  goes : ∀ c args, HRel c → Glob G c → VRs c.env vargs args.toList → (∀ h ∈ ev.rd, c.look h = lkf h) → (∀ i, i < ev.m → c.ρ (n + i) = none) → FGoes P g args c.w (Leaves c n ev)
/-- Equality of values made of cells. -/
def EqAgg (P : Program) (op : BinOp) (t : TypeId) (xs ys : List VV) (r : Bool) : Prop :=
  ∃ us vs : List Value, xs = us.map .v ∧ ys = vs.map .v ∧ ∀ ox oy w, (do eqGuard op t ox oy (.agg us.toArray) (.agg vs.toArray); binOp op t (.agg us.toArray) (.agg vs.toArray) : Sem Value).run P w = .ok (.bool r) w
theorem VRs_v {E : Env} : ∀ {us vs : List Value}, VRs E (us.map .v) vs → vs = us
  | [], vs, h => by simpa [VRs] using h
  | u :: us, vs, h => by
    simp only [List.map_cons, VRs, VR] at h
    obtain ⟨u', us', rfl, rfl, h2⟩ := h
    rw [VRs_v h2]

section
variable {P : Program} {G : Globs} {Γ : Tab} (hΓ : TabOk P Γ) {o : Oper} {Tv : Operand → VV} {lkf : Nat → Option (List VV)} {n : Nat}

theorem evok_eqAgg {op : BinOp} {t yt : TypeId} {x y : Operand} {xs ys : List VV} {r : Bool} (hop : o.op = .binOp op t x y yt) (hx : Tv x = .agg xs) (hy : Tv y = .agg ys) (h : EqAgg P op t xs ys r) : EvOk P G o Tv lkf n ⟨bI r, [], [], 0⟩ := by
  refine evok_pure' fun c a _ hr => ?_
  rw [hop] at hr
  have h1 := hr x (by simp [Op.operands])
  have h2 := hr y (by simp [Op.operands])
  rw [hx] at h1; rw [hy] at h2
  simp only [VR] at h1 h2
  obtain ⟨us', e1, r1, _⟩ := h1
  obtain ⟨vs', e2, r2, _⟩ := h2
  obtain ⟨us, vs, rfl, rfl, hrun⟩ := h
  have e3 := VRs_v r1
  have e4 := VRs_v r2
  subst e3 e4
  refine ⟨.bool r, ?_, by simp [bI, VR]⟩
  simp only [execOp, hop]
  rw [Sem.run_bind, e1, e2, hrun]
  rfl

theorem evok_call {f : Operand} {args : Array Operand} {ts : Array TypeId} {g : FuncId} {caps : List VV} {ev : Ev} (hop : o.op = .call { callee := .value f, args := args, argTypes := ts }) (hf : Tv f = .fn (.func g) caps)
    (h : Ret P G g (args.toList.map Tv ++ caps) lkf n ev) : EvOk P G o Tv lkf n ev := by
  refine ⟨h.within, fun c a H hG hr hrd hfr => ?_⟩
  rw [hop] at hr
  have h1 := hr f (by simp [Op.operands, Call.operands])
  rw [hf] at h1; simp only [VR] at h1
  obtain ⟨us, e1, r1⟩ := h1
  simp only [mkF] at e1
  have h2 := VRs_map (E := c.env) (ev := Tv) (f := a.eval) args.toList (fun x hx => hr x (by simp [Op.operands, Call.operands]; exact .inr (by simpa using hx)))
  have h3 := h.goes c (args.map a.eval ++ us.toArray) H hG (by simpa using h2.append r1) hrd hfr
  unfold OGoes
  have hrun : (execOp a.eval o).run P c.w = (callFunc g (args.map a.eval ++ us.toArray)).run P c.w := by
    simp [execOp, hop, resolve, Deferred.ofValue, e1, invoke]
  rw [hrun]
  unfold FGoes at h3
  split at h3
  · rename_i hq; rw [hq]; exact h3
  · rename_i hq; rw [hq]; exact h3
  · exact h3.elim

/-- Which function a method of a type is. -/
def Meth (P : Program) (t : TypeId) (name : String) (g : FuncId) : Prop := ∀ v w, (method (P.types.size + Made.depth) t v name).run P w = .ok (g, v) w
theorem evok_invoke {recv : Operand} {args : Array Operand} {ts : Array TypeId} {name : String} {t : TypeId} {x : VV} {g : FuncId} {ev : Ev} (hop : o.op = .call { callee := .invoke recv name, args := args, argTypes := ts }) (hf : Tv recv = .ifc t x) (hm : Meth P t name g)
    (h : Ret P G g (x :: args.toList.map Tv) lkf n ev) : EvOk P G o Tv lkf n ev := by
  refine ⟨h.within, fun c a H hG hr hrd hfr => ?_⟩
  rw [hop] at hr
  have h1 := hr recv (by simp [Op.operands, Call.operands])
  rw [hf] at h1; simp only [VR] at h1
  obtain ⟨u, e1, r1⟩ := h1
  have h2 := VRs_map (E := c.env) (ev := Tv) (f := a.eval) args.toList (fun x hx => hr x (by simp [Op.operands, Call.operands]; exact .inr (by simpa using hx)))
  have h3 := h.goes c (#[u] ++ args.map a.eval) H hG (by simpa using VRs.cons r1 h2) hrd hfr
  unfold OGoes
  have hp : (program : Sem Program).run P c.w = .ok P c.w := rfl
  have hrun : (execOp a.eval o).run P c.w = (callFunc g (#[u] ++ args.map a.eval)).run P c.w := by
    simp only [execOp, hop, resolve, Sem.run_bind, Sem.run_pure, Result.andThen_ok, invoke]
    rw [show (#[a.eval recv] ++ args.map a.eval)[0]? = some (.iface t u) by rw [← Array.getElem?_toList, Array.toList_append, e1]; rfl]
    have e2 : (#[a.eval recv] ++ args.map a.eval).extract 1 (#[a.eval recv] ++ args.map a.eval).size = args.map a.eval := by
      apply Array.ext'
      simp
      exact List.take_of_length_le (by simp)
    simp only [e2, callMethod, Sem.run_bind, hp, Result.andThen_ok, hm u c.w]
  rw [hrun]
  unfold FGoes at h3
  split at h3
  · rename_i hq; rw [hq]; exact h3
  · rename_i hq; rw [hq]; exact h3
  · exact h3.elim

/-- No nil stands where a method is called. -/
def NilFine (P : Program) (t : TypeId) (name : String) : Prop := ∀ v w, (nilAhead (P.types.size + Made.depth) t v name).run P w = .ok (some false) w
theorem evok_nilMethod {x : Operand} {nm : String} {t : TypeId} {y : VV} (hop : o.op = .nilCheck x) (hx : Tv x = .fn (.method nm) [.ifc t y]) (hn : NilFine P t nm) : EvOk P G o Tv lkf n ⟨.fn (.method nm) [.ifc t y], [], [], 0⟩ := by
  refine evok_pure' fun c a H hr => ?_
  rw [hop] at hr
  have h1 := hr x (by simp [Op.operands])
  rw [hx] at h1
  have h0 := h1
  simp only [VR, VRs] at h1
  obtain ⟨us, e, u, us', rfl, ⟨u2, rfl, h2⟩, rfl⟩ := h1
  refine ⟨a.eval x, ?_, h0⟩
  have hp : (program : Sem Program).run P c.w = .ok P c.w := rfl
  simp only [execOp, hop, e, mkF]
  simp [Sem.run_bind, hp, hn u2 c.w]
include hΓ
theorem evok_str2bytes {src dst e : TypeId} {r : TR} {x : Operand} {s : ByteArray} (hop : o.op = .convert src dst x) (hs : tdOf Γ src = some .str) (hd : sliceOf Γ dst = some (e, r)) (he : r.d = .int .u8) (hx : Tv x = .v (.string s)) (hsz : s.size ≤ 140737488355328) :
    EvOk P G o Tv lkf n ⟨.sl n 0 s.size 1, [], [(n, some (s.data.toList.map byV))], 1⟩ := by
  refine ⟨fun p hp => by simp at hp; subst hp; exact .inr ⟨Nat.le_refl _, by simp⟩, fun c a H hG hr _ hf => ?_⟩
  rw [hop] at hr
  have h1 := hr x (by simp [Op.operands])
  rw [hx] at h1; simp only [VR] at h1
  obtain ⟨q, hq, hqd⟩ := tdOf_some hs
  obtain ⟨d, i, z, g1, g2, _⟩ := (hΓ src q hq).ex
  rw [hqd] at g2; simp only [TDok] at g2; subst g2
  obtain ⟨hu, hre⟩ := sliceOf_ok hΓ hd
  obtain ⟨d2, i2, z2, g3, g4, _⟩ := (hΓ e r hre).ex
  rw [he] at g4; simp only [TDok] at g4; subst g4
  have hrun := run_bytes_of_string (P := P) c.w src dst e s g1 hu g3
  have hcap := grownCap_ge c.w s.size 0 e
  have hcm := grownCap_le_maxLen c.w s.size 0 e (Nat.le_trans hsz (by decide))
  have hrow : (bytesRow s (grownCap c.w s.size 0 e)).toList = s.data.toList.map (fun b => Value.int .u8 (b.toNat : Int)) ++ List.replicate (grownCap c.w s.size 0 e - s.size) (.int .u8 0) := by
    simp only [bytesRow, Array.toList_append, Array.toList_map, Array.toList_replicate]
  have hsz' : s.data.toList.length = s.size := rfl
  have htake : (bytesRow s (grownCap c.w s.size 0 e)).toList.take (s.data.toList.map byV).length = s.data.toList.map (fun b => Value.int .u8 (b.toNat : Int)) := by
    rw [hrow]
    have : (s.data.toList.map byV).length = (s.data.toList.map (fun b => Value.int .u8 (b.toNat : Int))).length := by simp
    rw [this, List.take_left]
  have hlen : (bytesRow s (grownCap c.w s.size 0 e)).size = grownCap c.w s.size 0 e := by
    rw [← Array.length_toList, hrow]
    simp only [List.length_append, List.length_map, List.length_replicate, hsz']
    omega
  obtain ⟨v1, v2⟩ := VRs_byV c.env s.data.toList
  obtain ⟨c', q1, q2, q3, q4, q5, q6, q7⟩ := alloc_ok H (n := n) (by simpa using hf 0 (by simp)) (w' := c.w.drew.alloc (.cells (bytesRow s (grownCap c.w s.size 0 e)) e ((bytesRow s (grownCap c.w s.size 0 e)).size, (bytesRow s (grownCap c.w s.size 0 e)).size + 1)))
    (us := bytesRow s (grownCap c.w s.size 0 e)) (T := e) (cs := s.data.toList.map byV) rfl rfl rfl rfl (.inr (Nat.le_refl _)) (by rw [hlen]; simp only [List.length_map, hsz']; exact hcap) (by rw [htake]; exact v1) (by rw [htake]; exact v2)
  unfold OGoes
  simp only [execOp, hop, h1, Sem.run_bind, hrun, Result.andThen_ok, Sem.run_pure]
  refine ⟨c', q1, q2, by rw [q3]; rfl, ?_, q4, q6⟩
  simp only [VR]
  refine .inr ⟨_, _, q5, rfl, hcap, hcm, _, _, _, by show c'.w.heap[_]? = _; rw [q1]; exact q7, ?_⟩
  rw [hlen]; omega

theorem evok_bytes2str {src dst e : TypeId} {r : TR} {x : Operand} {rd : List Nat} {m : Nat} {l : List UInt8} (hop : o.op = .convert src dst x) (hs : sliceOf Γ src = some (e, r)) (he : r.d = .int .u8) (hd : tdOf Γ dst = some .str)
    (hx : view lkf (Tv x) = some (rd, m, l.map byV)) (hm : m = l.length) : EvOk P G o Tv lkf n ⟨.v (.string ⟨l.toArray⟩), rd, [], 0⟩ := by
  refine ⟨(fun p hp => by cases hp), fun c a H hG hr hrd _ => ?_⟩
  rw [hop] at hr
  have h1 := hr x (by simp [Op.operands])
  obtain ⟨q, hq, hqd⟩ := tdOf_some hd
  obtain ⟨d, i, z, g1, g2, _⟩ := (hΓ dst q hq).ex
  rw [hqd] at g2; simp only [TDok] at g2; subst g2
  obtain ⟨hu, hre⟩ := sliceOf_ok hΓ hs
  obtain ⟨d2, i2, z2, g3, g4, _⟩ := (hΓ e r hre).ex
  rw [he] at g4; simp only [TDok] at g4; subst g4
  obtain ⟨xb, xc, news, hy, x1, x2, x3, x4, x5⟩ := view_ok H hx h1 hrd
  have hn := byV_VRs x3
  unfold OGoes
  cases xb with
  | none =>
    have hm0 := x2 rfl
    have hl0 : l = [] := List.eq_nil_of_length_eq_zero (by omega)
    subst hl0
    have hrun : (convert src dst (.slice none m xc)).run P c.w = .ok (.string ByteArray.empty) c.w := by
      rw [run_convert_bytes_string c.w src dst e none m xc hu g3 g1]; rfl
    simp only [execOp, hop, hy, Sem.run_bind, hrun, Result.andThen_ok, Sem.run_pure]
    exact ⟨c, rfl, H, rfl, by simp only [VR]; rfl, Le.refl c, newOnly.refl⟩
  | some ad =>
    have hrun := run_convert_bytes_back (P := P) c.w src dst e ad xc l hu g3 g1 (fun j hj => x5 ad rfl j _ (by rw [hn]; simp [hj]))
    simp only [execOp, hop, hy, hm, Sem.run_bind, hrun, Result.andThen_ok, Sem.run_pure]
    exact ⟨c, rfl, H, rfl, by simp only [VR], Le.refl c, newOnly.refl⟩

theorem evok_copy {t u e : TypeId} {r : TR} {s x : Operand} {h off k wd m : Nat} {cs xs : List VV} {rd : List Nat} (hop : o.op = .call { callee := .builtin .copy, args := #[s, x], argTypes := #[t, u] })
    (ht : sliceOf Γ t = some (e, r)) (hsz : r.size = 1) (hs : Tv s = .sl h off k wd) (hl : lkf h = some cs) (hx : view lkf (Tv x) = some (rd, m, xs)) (hxs : xs.length = m) (hcs : off + k ≤ cs.length) :
    EvOk P G o Tv lkf n ⟨nI .i64 (Nat.min m k : Nat), h :: rd, [(h, some (splice cs off (xs.take (Nat.min m k))))], 0⟩ := by
  refine ⟨fun p hp => by simp at hp; subst hp; exact .inl (by simp), fun c a H hG hr hrd _ => ?_⟩
  rw [hop] at hr
  have h1 := hr s (by simp [Op.operands, Call.operands])
  have h2 := hr x (by simp [Op.operands, Call.operands])
  rw [hs] at h1
  obtain ⟨hu, hre⟩ := sliceOf_ok hΓ ht
  obtain ⟨_, i, z, _, _, e3, e4, _⟩ := (hΓ e r hre).ex
  obtain ⟨xb, xc, news, hy, x1, x2, x3, x4, x5⟩ := view_ok H hx h2 (fun q hq => hrd q (by simp [hq]))
  have hnl := x3.length
  have hlc : c.look h = some cs := by rw [hrd h (by simp)]; exact hl
  have hsize : (P.info? e).map (·.size) = some 1 := by simp [e3, e4, hsz]
  have fin : ∀ v w', (Builtin.copy_ #[t, u] o.type #[a.eval s, a.eval x]).run P c.w = .ok v w' → Leaves c n ⟨nI .i64 (Nat.min m k : Nat), h :: rd, [(h, some (splice cs off (xs.take (Nat.min m k))))], 0⟩ v w' → OGoes P o a c.w (Leaves c n ⟨nI .i64 (Nat.min m k : Nat), h :: rd, [(h, some (splice cs off (xs.take (Nat.min m k))))], 0⟩) := by
    intro v w' g1 g2
    unfold OGoes
    have : (execOp a.eval o).run P c.w = .ok (.value v) w' := by simp [execOp, hop, resolve, invoke, builtin, g1]
    rw [this]; exact g2
  simp only [VR] at h1
  by_cases hz : Nat.min m k = 0
  · have hsame : (fun h' => if h' = h then some (splice cs off (xs.take (Nat.min m k))) else c.look h') = c.look := by
      funext h'
      split
      · rename_i e; subst e; rw [hlc, hz]; simp [splice]
      · rfl
    have key : ∀ d dc, (Builtin.copy_ #[t, u] o.type #[.slice d k dc, .slice xb m xc]).run P c.w = .ok (goInt 0) c.w := fun d dc => run_copy_none c.w t u o.type e d xb k dc m xc hu hsize hz
    have lv : Leaves c n ⟨nI .i64 (Nat.min m k : Nat), h :: rd, [(h, some (splice cs off (xs.take (Nat.min m k))))], 0⟩ (goInt 0) c.w :=
      ⟨c, rfl, H, by simp only [fup]; exact hsame.symm, by rw [hz]; simp [nI, VR, goInt], Le.refl c, newOnly.refl⟩
    rcases h1 with ⟨_, _, hk, ao, hv⟩ | ⟨b, cap, _, hv, _⟩
    · exact fin _ _ (by rw [hv, hy, ← hk]; exact key ao 0) lv
    · exact fin _ _ (by rw [hv, hy]; exact key _ _) lv
  · rcases h1 with ⟨_, _, rfl, _⟩ | ⟨b, cap, k1, hv, _, _, uq, Tq, fq, hq0, _⟩
    · exact absurd (Nat.min_eq_right (Nat.zero_le m)) hz
    · cases xb with
      | none => have := x2 rfl; subst this; exact absurd (Nat.min_eq_left (Nat.zero_le k)) hz
      | some ad =>
        have hmin1 : Nat.min m k ≤ m := Nat.min_le_left m k
        have hmin2 : Nat.min m k ≤ k := Nat.min_le_right m k
        obtain ⟨us, T, fr, g1, g2, g3, g4, g5, g6⟩ := blk_cells H hlc k1 ⟨uq, Tq, fq, hq0⟩
        have hnt : (news.take (Nat.min m k)).length = Nat.min m k := by rw [List.length_take, hnl, hxs]; exact Nat.min_eq_left hmin1
        have hex : ∀ j, j < Nat.min m k → ∃ u, us[off + j]? = some u := fun j hj => ⟨us[off + j]'(by omega), by simp⟩
        have hrun := run_copy_cells (P := P) c.w t u o.type e b off k cap ad m xc (news.take (Nat.min m k)) hu hsize hnt (fun j v hj => by
            rw [List.getElem?_take] at hj
            split at hj
            · exact x5 ad rfl j v hj
            · cases hj) (fun j hj => by obtain ⟨q, hq⟩ := hex j (by omega); rw [(g6 _ _ hq).1]; rfl) (fun j hj => by obtain ⟨q, hq⟩ := hex j (by omega); exact (g6 _ _ hq).2) (ones_take x4 _)
        have hxt : (xs.take (Nat.min m k)).length = Nat.min m k := by rw [List.length_take, hxs]; exact Nat.min_eq_left hmin1
        obtain ⟨_, c', p1, p2, p3, p4, p5⟩ := write_cells (P := P) (off := off) (new := xs.take (Nat.min m k)) H hlc k1 ⟨uq, Tq, fq, hq0⟩ (x3.take (Nat.min m k)) (ones_take x4 _) (by rw [hxt]; omega)
        refine fin _ _ (by rw [hv, hy]; exact hrun) ⟨c', p1, p4, by rw [p3]; rfl, ?_, p5, newOnly.of_eq p2⟩
        rw [hnt]; simp [nI, VR, goInt]

omit hΓ in
/-- copy out of a string. -/
theorem run_copy_str {P : Program} (w : World) (dT sT ty elem : TypeId) (b o dLen dCap m : Nat) (t : ByteArray) (hu : P.underlying dT = some (.slice elem)) (hs : (P.info? elem).map (·.size) = some 1) (hm : Nat.min t.size dLen = m)
    (hc : ∀ j, j < m → (w.cell? ⟨b, o + j, none⟩).isSome = true) (hf : ∀ j, j < m → w.frozen? ⟨b, o + j, none⟩ = false) :
    (Builtin.copy_ #[dT, sT] ty #[.slice (some ⟨b, o, none⟩) dLen dCap, .string t]).run P w = .ok (goInt m) (w.setCells b o ((t.data.toList.map fun x => Value.int .u8 (x.toNat : Int)).take m)) := by
  have hsz : t.data.toList.length = t.size := Array.length_toList
  have hl : ((t.data.toList.map fun x => Value.int .u8 (x.toNat : Int)).take m).length = m := by
    rw [List.length_take, List.length_map, hsz, ← hm]
    exact Nat.min_eq_left (Nat.min_le_left _ _)
  have hst := run_storeCells_cells (P := P) b o ((t.data.toList.map fun x => Value.int .u8 (x.toNat : Int)).take m) 0 w (by rw [hl]; simpa using hc) (by rw [hl]; simpa using hf) (by
    intro v hv
    obtain ⟨x, _, rfl⟩ := List.mem_map.1 (List.mem_of_mem_take hv)
    rfl)
  cases hq : P.info? elem with
  | none => simp [hq] at hs
  | some i =>
    have hi : i.size = 1 := by simpa [hq] using hs
    simp [Builtin.copy_, run_underlying hu, Builtin.lenOf, Builtin.firstCells, sizeOf, typeInfo, hq, hi, hm]
    rw [hst]
    rfl
omit hΓ in
theorem run_copy_str_none {P : Program} (w : World) (dT sT ty elem : TypeId) (d : Option Addr) (dLen dCap : Nat) (t : ByteArray) (hu : P.underlying dT = some (.slice elem)) (hs : (P.info? elem).map (·.size) = some 1) (hm : Nat.min t.size dLen = 0) :
    (Builtin.copy_ #[dT, sT] ty #[.slice d dLen dCap, .string t]).run P w = .ok (goInt 0) w := by
  cases hq : P.info? elem with
  | none => simp [hq] at hs
  | some i =>
    cases d <;> simp [Builtin.copy_, run_underlying hu, Builtin.lenOf, Builtin.firstCells, sizeOf, typeInfo, hq, hm, storeCells]
theorem evok_copy_str {t u e : TypeId} {r : TR} {s x : Operand} {h off k wd : Nat} {cs : List VV} {q : ByteArray} (hop : o.op = .call { callee := .builtin .copy, args := #[s, x], argTypes := #[t, u] })
    (ht : sliceOf Γ t = some (e, r)) (hsz : r.size = 1) (hs : Tv s = .sl h off k wd) (hl : lkf h = some cs) (hx : Tv x = .v (.string q)) (hcs : off + k ≤ cs.length) :
    EvOk P G o Tv lkf n ⟨nI .i64 (Nat.min q.size k : Nat), [h], [(h, some (splice cs off ((q.data.toList.map byV).take (Nat.min q.size k))))], 0⟩ := by
  refine ⟨fun p hp => by simp at hp; subst hp; exact .inl (by simp), fun c a H hG hr hrd _ => ?_⟩
  rw [hop] at hr
  have h1 := hr s (by simp [Op.operands, Call.operands])
  have h2 := hr x (by simp [Op.operands, Call.operands])
  rw [hs] at h1
  rw [hx] at h2
  simp only [VR] at h2
  obtain ⟨hu, hre⟩ := sliceOf_ok hΓ ht
  obtain ⟨_, i, z, _, _, e3, e4, _⟩ := (hΓ e r hre).ex
  have hlc : c.look h = some cs := by rw [hrd h (by simp)]; exact hl
  have hsize : (P.info? e).map (·.size) = some 1 := by simp [e3, e4, hsz]
  generalize hm : Nat.min q.size k = m
  have hml : ((q.data.toList.map byV).take m).length = m := by
    rw [List.length_take, List.length_map, show q.data.toList.length = q.size from Array.length_toList, ← hm]
    exact Nat.min_eq_left (Nat.min_le_left _ _)
  have hmk : m ≤ k := by rw [← hm]; exact Nat.min_le_right _ _
  have fin : ∀ v w', (Builtin.copy_ #[t, u] o.type #[a.eval s, a.eval x]).run P c.w = .ok v w' → Leaves c n ⟨nI .i64 m, [h], [(h, some (splice cs off ((q.data.toList.map byV).take m)))], 0⟩ v w' → OGoes P o a c.w (Leaves c n ⟨nI .i64 m, [h], [(h, some (splice cs off ((q.data.toList.map byV).take m)))], 0⟩) := by
    intro v w' g1 g2
    unfold OGoes
    have : (execOp a.eval o).run P c.w = .ok (.value v) w' := by simp [execOp, hop, resolve, invoke, builtin, g1]
    rw [this]; exact g2
  simp only [VR] at h1
  by_cases hz : m = 0
  · have hsame : (fun h' => if h' = h then some (splice cs off ((q.data.toList.map byV).take m)) else c.look h') = c.look := by
      funext h'
      split
      · rename_i e; subst e; rw [hlc, hz]; simp [splice]
      · rfl
    have key : ∀ d dc, (Builtin.copy_ #[t, u] o.type #[.slice d k dc, .string q]).run P c.w = .ok (goInt 0) c.w := fun d dc => run_copy_str_none c.w t u o.type e d k dc q hu hsize (by rw [hm, hz])
    have lv : Leaves c n ⟨nI .i64 m, [h], [(h, some (splice cs off ((q.data.toList.map byV).take m)))], 0⟩ (goInt 0) c.w :=
      ⟨c, rfl, H, by simp only [fup]; exact hsame.symm, by rw [hz]; simp [nI, VR, goInt], Le.refl c, newOnly.refl⟩
    rcases h1 with ⟨_, _, hk, ao, hv⟩ | ⟨b, cap, _, hv, _⟩
    · exact fin _ _ (by rw [hv, h2, ← hk]; exact key ao 0) lv
    · exact fin _ _ (by rw [hv, h2]; exact key _ _) lv
  · rcases h1 with ⟨_, _, rfl, _⟩ | ⟨b, cap, k1, hv, _, _, uq, Tq, fq, hq0, _⟩
    · exact absurd (Nat.le_zero.1 hmk) hz
    · obtain ⟨us, T, fr, g1, g2, g3, g4, g5, g6⟩ := blk_cells H hlc k1 ⟨uq, Tq, fq, hq0⟩
      have hex : ∀ j, j < m → ∃ u, us[off + j]? = some u := fun j hj => ⟨us[off + j]'(by omega), by simp⟩
      have hrun := run_copy_str (P := P) c.w t u o.type e b off k cap m q hu hsize hm (fun j hj => by obtain ⟨q, hq⟩ := hex j hj; rw [(g6 _ _ hq).1]; rfl) (fun j hj => by obtain ⟨q, hq⟩ := hex j hj; exact (g6 _ _ hq).2)
      obtain ⟨x3, x4⟩ := VRs_byV c.env q.data.toList
      obtain ⟨_, c', p1, p2, p3, p4, p5⟩ := write_cells (P := P) (off := off) (new := (q.data.toList.map byV).take m) H hlc k1 ⟨uq, Tq, fq, hq0⟩ (x3.take m) (ones_take x4 _) (by rw [hml]; omega)
      exact fin _ _ (by rw [hv, h2]; exact hrun) ⟨c', p1, p4, by rw [p3]; rfl, by simp [nI, VR, goInt], p5, newOnly.of_eq p2⟩
omit hΓ in
theorem freeze_heap (w : World) (b k : Nat) (us : Array Value) (T : TypeId) (fr : Nat × Nat) (h : w.heap[b]? = some (.cells us T fr)) :
    (w.freeze ⟨b, k, none⟩ 1).os = w.os ∧ (w.freeze ⟨b, k, none⟩ 1).tape = w.tape ∧ (w.freeze ⟨b, k, none⟩ 1).output = w.output ∧ (w.freeze ⟨b, k, none⟩ 1).heap.size = w.heap.size ∧
    (∀ j, j ≠ b → (w.freeze ⟨b, k, none⟩ 1).heap[j]? = w.heap[j]?) ∧ (w.freeze ⟨b, k, none⟩ 1).heap[b]? = some (.cells us T (if fr.1 == fr.2 then (k, k + 1) else (min fr.1 k, max fr.2 (k + 1)))) := by
  unfold World.freeze
  rw [if_neg (by decide)]
  refine ⟨rfl, rfl, rfl, by simp, fun j hj => ?_, ?_⟩
  · simp only [Array.getElem?_modify]
    rw [if_neg (Ne.symm hj)]
  · simp only [Array.getElem?_modify, if_pos, h]
    rfl
/-- Bytes of a constant string: the row is marked. -/
theorem evok_mark {t e : TypeId} {r : TR} {x : Operand} {h off k wd : Nat} {cs : List VV} (hop : o.op = .convert t t x) (ht : sliceOf Γ t = some (e, r)) (he : r.d = .int .u8) (hx : Tv x = .sl h off k wd) (hl : lkf h = some cs) (hp : 0 < cs.length) :
    EvOk P G o Tv lkf n ⟨.sl h off k wd, [h], [], 0⟩ := by
  refine ⟨(fun p hp => by cases hp), fun c a H hG hr hrd _ => ?_⟩
  rw [hop] at hr
  have h1 := hr x (by simp [Op.operands])
  rw [hx] at h1
  obtain ⟨hu, hre⟩ := sliceOf_ok hΓ ht
  obtain ⟨d2, i2, z2, g3, g4, _⟩ := (hΓ e r hre).ex
  rw [he] at g4; simp only [TDok] at g4; subst g4
  have hlc : c.look h = some cs := by rw [hrd h (by simp)]; exact hl
  have h1' := h1
  simp only [VR] at h1
  rcases h1 with ⟨k1, _⟩ | ⟨b, cap, k1, hv, k2, km, us, T, fr, k3, k4⟩
  · rcases H.blk h cs hlc with ⟨_, q2⟩ | ⟨b', q1, _⟩
    · rw [q2] at hp; simp at hp
    · have : c.ρ h = some none := k1
      rw [this] at q1; cases q1
  · obtain ⟨us', T', fr', g1, g2, g3', g4', g5, g6⟩ := blk_cells H hlc k1 ⟨us, T, fr, k3⟩
    obtain ⟨f1, f2, f3, f4, f5, f6⟩ := freeze_heap c.w b us'.size us' T' fr' g1
    have hfr : FrOk (if fr'.1 == fr'.2 then (us'.size, us'.size + 1) else (min fr'.1 us'.size, max fr'.2 (us'.size + 1))) us'.size := by
      split
      · exact .inr (Nat.le_refl _)
      · rename_i hne
        rcases g2 with g2 | g2
        · simp [g2] at hne
        · exact .inr (by show us'.size ≤ min fr'.1 us'.size; omega)
    obtain ⟨c', p1, p2, p3, p4, p5⟩ := write_ok' H hlc k1 g1 f1 f2 f3 f4 f5 f6 hfr rfl g3' g4' g5
    have hrun : (convert t t (a.eval x)).run P c.w = .ok (a.eval x) (c.w.freeze ⟨b, us'.size, none⟩ 1) := by
      have hsh : c.w.shape? b = some (T', us'.size) := by unfold World.shape?; rw [g1]
      rw [hv]
      simp [convert, run_underlying hu, run_underlying g3, markStringish, hsh]
    unfold OGoes
    simp only [execOp, hop, Sem.run_bind, hrun, Result.andThen_ok, Sem.run_pure]
    refine ⟨c', p1, p4, ?_, VR.keep p5.keep _ h1', p5, newOnly.of_eq p2⟩
    rw [p3]
    funext h'
    simp only [fup]
    split
    · rename_i e; rw [e]; exact hlc.symm
    · rfl
end
section
variable {P : Program} {G : Globs} {Γ : Tab} {o : Oper} {Tv : Operand → VV} {lkf : Nat → Option (List VV)} {n : Nat}
/-- A map of numbers: its key's type, its element's, the kind of number. -/
def MapTy (P : Program) (t key elem : TypeId) (k : IntKind) : Prop := P.underlying t = some (.map key elem) ∧ P.underlying key = some (.int k)
def ZeroIs (P : Program) (t : TypeId) (zv : VV) : Prop := ∃ z, (∀ w, (zeroValue t).run P w = .ok z w) ∧ ∀ E, VR E zv z
def ent (k : IntKind) (z : Int) (v : VV) : VV := .tup [.v (.int k z), v]
/-- Where an entry stands, and what it holds. -/
def MFind (k : IntKind) (z : Int) (cs : List VV) : Option (Nat × VV) → Prop
  | none => ∀ (j : Nat) (c : VV), cs[j]? = some c → ∃ y v, c = ent k y v ∧ y ≠ z
  | some (i, v) => cs[i]? = some (ent k z v) ∧ ∀ j, j < i → ∃ y v', cs[j]? = some (ent k y v') ∧ y ≠ z
theorem ent_val {E : Env} {k : IntKind} {z : Int} {v : VV} {e : MapEntry} (h : VR E (ent k z v) (entV e)) : e.key = .int k z ∧ VR E v e.val := by
  simp only [ent, VR, VRs, entV] at h
  obtain ⟨us, h1, u, us', rfl, rfl, u2, us2, rfl, h3, rfl⟩ := h
  have h1 : (#[e.key, e.val] : Array Value) = #[Value.int k z, u2] := by simpa using h1
  have h5 : [e.key, e.val] = [Value.int k z, u2] := congrArg Array.toList h1
  injection h5 with h2 h5
  injection h5 with h4 _
  exact ⟨h2, by rw [h4]; exact h3⟩
theorem val_ent {E : Env} {k : IntKind} {z : Int} {v : VV} {e : MapEntry} (h1 : e.key = .int k z) (h2 : VR E v e.val) : VR E (ent k z v) (entV e) := by
  simp only [ent, VR, VRs, entV]
  exact ⟨[.int k z, e.val], by rw [h1], _, _, rfl, rfl, _, _, rfl, h2, rfl⟩
theorem findNow_at {E : Env} {k : IntKind} {z : Int} : ∀ (cs : List VV) (es : List MapEntry) (b : Nat), VRs E cs (es.map entV) → ∀ q, MFind k z cs q →
    (match q with
     | none => Instr.findNow (.int k) (.int k z) es b = some none
     | some (i, v) => ∃ e, es[i]? = some e ∧ Instr.findNow (.int k) (.int k z) es b = some (some (b + i, e.val)) ∧ e.key = .int k z ∧ VR E v e.val)
  | [], es, b, h, q, hq => by
    have : es = [] := by
      simp only [VRs] at h
      simpa using h
    subst this
    cases q with
    | none => rfl
    | some p => exact absurd hq.1 (by simp)
  | c :: cs, [], b, h, q, hq => by simp [VRs] at h
  | c :: cs, e :: es, b, h, q, hq => by
    simp only [List.map_cons, VRs] at h
    obtain ⟨u, us', heq, h1, h2⟩ := h
    cases heq
    cases q with
    | none =>
      obtain ⟨y, v, rfl, hy⟩ := hq 0 c rfl
      obtain ⟨k1, _⟩ := ent_val h1
      have ih := findNow_at cs es (b + 1) h2 none (fun j c hc => hq (j + 1) c (by simpa using hc))
      have hne : (z == y) = false := by rw [beq_eq_false_iff_ne]; exact fun e => hy e.symm
      simp only [Instr.findNow, k1, Instr.sameNow, if_true, hne]
      exact ih
    | some p =>
      obtain ⟨i, v⟩ := p
      obtain ⟨g1, g2⟩ := hq
      cases i with
      | zero =>
        have : c = ent k z v := by simpa using g1
        subst this
        obtain ⟨k1, k2⟩ := ent_val h1
        refine ⟨e, rfl, ?_, k1, k2⟩
        simp only [Instr.findNow, k1, Instr.sameNow, if_true, beq_self_eq_true, Nat.add_zero]
      | succ i =>
        obtain ⟨y, v', e1, hy⟩ := g2 0 (Nat.succ_pos _)
        have : c = ent k y v' := by simpa using e1
        subst this
        obtain ⟨k1, _⟩ := ent_val h1
        obtain ⟨e', r1, r2, r3, r4⟩ := findNow_at cs es (b + 1) h2 (some (i, v)) ⟨by simpa using g1, fun j hj => by
          obtain ⟨y, v', e2, h3⟩ := g2 (j + 1) (by omega)
          exact ⟨y, v', by simpa using e2, h3⟩⟩
        have hne : (z == y) = false := by rw [beq_eq_false_iff_ne]; exact fun e => hy e.symm
        refine ⟨e', by simpa using r1, ?_, r3, r4⟩
        simp only [Instr.findNow, k1, Instr.sameNow, if_true, hne]
        rw [r2]
        congr 3
        omega
theorem map_blk {c : Cf} (H : HRel c) {h b : Nat} {cs : List VV} (hl : c.look h = some cs) (hr : c.ρ h = some (some b)) (hq : ∃ es k, c.w.heap[b]? = some (.map es k)) :
    ∃ es : Array MapEntry, c.w.heap[b]? = some (.map es es.size) ∧ ¬ c.A b ∧ VRs c.env cs (es.toList.map entV) ∧ ∀ (i : Nat) (e : MapEntry), es.toList[i]? = some e → e.born = i := by
  obtain ⟨es, k, hb⟩ := hq
  rcases H.blk h cs hl with ⟨k1, _⟩ | ⟨b', k1, kk⟩
  · rw [hr] at k1; cases k1
  · rw [hr] at k1; cases k1
    obtain ⟨g1, g2, rfl, g4⟩ := kk.map (show c.env.w.heap[b]? = some (.map es k) from hb)
    exact ⟨es, hb, g1, g2, g4⟩
/-- A map turns. -/
theorem mwrite_ok {c : Cf} (H : HRel c) {hd b : Nat} {cs cs' : List VV} (hl : c.look hd = some cs) (hr : c.ρ hd = some (some b)) {es es' : Array MapEntry} {k : Nat} (hb : c.w.heap[b]? = some (.map es k)) (hA : ¬ c.A b)
    (h9 : VRs c.env cs' (es'.toList.map entV)) (h10 : ∀ (i : Nat) (e : MapEntry), es'.toList[i]? = some e → e.born = i) :
    ∃ c', c'.w = { c.w with heap := c.w.heap.setIfInBounds b (.map es' es'.size) } ∧ c'.ρ = c.ρ ∧ c'.look = (fun h' => if h' = hd then some cs' else c.look h') ∧ HRel c' ∧ Le c c' := by
  have hlt : b < c.w.heap.size := (Array.getElem?_eq_some_iff.1 hb).1
  let w' : World := { c.w with heap := c.w.heap.setIfInBounds b (.map es' es'.size) }
  have h5 : ∀ k, k ≠ b → w'.heap[k]? = c.w.heap[k]? := fun k hk => by
    show (c.w.heap.setIfInBounds b _)[k]? = _
    rw [Array.getElem?_setIfInBounds, if_neg (by omega)]
  have h6 : w'.heap[b]? = some (.map es' es'.size) := by
    show (c.w.heap.setIfInBounds b _)[b]? = _
    rw [Array.getElem?_setIfInBounds, if_pos rfl, if_pos hlt]
  let c' : Cf := ⟨c.ρ, c.A, fun h' => if h' = hd then some cs' else c.look h', w'⟩
  have keep : c.env.Keep c'.env := by
    refine ⟨Nat.le_of_eq (by show c.w.heap.size = (c.w.heap.setIfInBounds b _).size; simp), fun h x hx => hx, fun k hk ha => ⟨ha, h5 k ?_⟩, fun k us2 T2 fr2 hk => ?_, fun k es2 m hk => ?_⟩
    · rintro rfl; exact hA ha
    · by_cases e : k = b
      · subst e
        have hk' : c.w.heap[k]? = some (.cells us2 T2 fr2) := hk
        rw [hb] at hk'; cases hk'
      · exact ⟨us2, fr2, by show w'.heap[k]? = _; rw [h5 k e]; exact hk, rfl⟩
    · by_cases e : k = b
      · subst e
        exact ⟨es', es'.size, h6⟩
      · exact ⟨es2, m, by show w'.heap[k]? = _; rw [h5 k e]; exact hk⟩
  have owned : ∀ x, c'.Owned x → c.Owned x := by
    rintro x ⟨h, cs2, k1, k2⟩
    by_cases e : h = hd
    · subst e; exact ⟨h, cs, hl, k2⟩
    · simp only [c', if_neg e] at k1; exact ⟨h, cs2, k1, k2⟩
  refine ⟨c', rfl, rfl, rfl, ⟨fun h cs2 k1 => ?_, fun h h' cs1 cs2 x k1 k2 k3 k4 => ?_⟩, ⟨keep, rfl, rfl, rfl, fun x hx ho => ⟨h5 x ?_, fun k => ho (owned x k)⟩, fun x hx => .inl hx⟩⟩
  · by_cases e : h = hd
    · subst e
      simp [c'] at k1; subst k1
      exact .inr ⟨b, hr, hA, .inr ⟨_, _, h6, VRs.keep keep _ h9, .map rfl h10⟩⟩
    · simp only [c', if_neg e] at k1
      rcases H.blk h cs2 k1 with k | ⟨x, k2, k3⟩
      · exact .inl k
      · refine .inr ⟨x, k2, k3.keep keep k3.1 (h5 x ?_)⟩
        rintro rfl
        exact e (H.inj h hd cs2 cs x k1 hl k2 hr)
  · have g : ∀ h cs1, c'.look h = some cs1 → ∃ cs2, c.look h = some cs2 := fun h cs1 k => by
      by_cases e : h = hd
      · subst e; exact ⟨cs, hl⟩
      · simp only [c', if_neg e] at k; exact ⟨cs1, k⟩
    obtain ⟨a1, g1⟩ := g h cs1 k1
    obtain ⟨a2, g2⟩ := g h' cs2 k2
    exact H.inj h h' a1 a2 x g1 g2 k3 k4
  · rintro rfl
    exact ho ⟨hd, cs, hl, hr⟩
/-- A new map. -/
theorem evok_makeMap {t : TypeId} (hop : o.op = .makeMap t none) : EvOk P G o Tv lkf n ⟨.mp n, [], [(n, some [])], 1⟩ := by
  refine ⟨fun p hp => by simp at hp; subst hp; exact .inr ⟨Nat.le_refl _, by simp⟩, fun c a H hG hr _ hf => ?_⟩
  have hn : c.ρ n = none := by simpa using hf 0 (by simp)
  let w' := c.w.alloc (.map #[] 0)
  have hold : ∀ b, b < c.w.heap.size → w'.heap[b]? = c.w.heap[b]? := fun b hb => by
    show (c.w.heap.push _)[b]? = _
    rw [Array.getElem?_push, if_neg (by omega)]
  have hnew : w'.heap[c.w.heap.size]? = some (.map #[] 0) := by show (c.w.heap.push _)[_]? = _; simp
  let c' : Cf := ⟨fun h => if h = n then some (some c.w.heap.size) else c.ρ h, fun x => c.A x ∧ x ≠ c.w.heap.size, fun h' => if h' = n then some [] else c.look h', w'⟩
  have keep : c.env.Keep c'.env := by
    refine ⟨?_, fun h x hx => ?_, fun b hb ha => ⟨⟨ha, ?_⟩, hold b hb⟩, fun b us' T' fr' hb => ?_, fun b es' k' hb => ?_⟩
    · show c.w.heap.size ≤ (c.w.heap.push _).size
      simp
    · show (if h = n then some (some c.w.heap.size) else c.ρ h) = some x
      rw [if_neg]
      · exact hx
      · rintro rfl; have : c.ρ h = some x := hx; rw [hn] at this; cases this
    · have : b < c.w.heap.size := hb
      omega
    · have : b < c.w.heap.size := (Array.getElem?_eq_some_iff.1 hb).1
      exact ⟨us', fr', by show w'.heap[b]? = _; rw [hold b this]; exact hb, rfl⟩
    · have : b < c.w.heap.size := (Array.getElem?_eq_some_iff.1 hb).1
      exact ⟨es', k', by show w'.heap[b]? = _; rw [hold b this]; exact hb⟩
  have own : ∀ h cs' b, c.look h = some cs' → c.ρ h = some (some b) → b < c.w.heap.size := fun h cs' b hl hr => by
    rcases H.blk h cs' hl with ⟨h1, _⟩ | ⟨b', h1, h2⟩
    · rw [hr] at h1; cases h1
    · rw [hr] at h1; cases h1
      exact h2.lt
  have run : (execOp a.eval o).run P c.w = .ok (.value (.map (some c.w.heap.size))) w' := by
    simp only [execOp, hop, Instr.makeMap, Option.map_none]
    rfl
  unfold OGoes
  rw [run]
  refine ⟨c', rfl, ⟨fun h cs' hl => ?_, fun h h' cs1 cs2 b hl hl' hr hr' => ?_⟩, rfl, ?_, ⟨keep, rfl, rfl, rfl, fun b hb ho => ⟨hold b hb, ?_⟩, fun b hb => .inl hb.1⟩, fun h hh => ?_⟩
  · by_cases e : h = n
    · have : cs' = [] := by simp [c', e] at hl; exact hl
      subst this
      exact .inr ⟨c.w.heap.size, by simp [c', e], fun ha => ha.2 rfl, .inr ⟨_, _, hnew, by simp [VRs], .map rfl fun i e he => by simp at he⟩⟩
    · simp only [c', if_neg e] at hl
      rcases H.blk h cs' hl with ⟨k1, k2⟩ | ⟨b, k1, k2⟩
      · exact .inl ⟨by simp only [c', if_neg e]; exact k1, k2⟩
      · have hb := own h cs' b hl k1
        exact .inr ⟨b, by simp only [c', if_neg e]; exact k1, k2.keep keep (fun ha => k2.1 ha.1) (hold b hb)⟩
  · simp only [c'] at hl hl' hr hr'
    by_cases e : h = n <;> by_cases e' : h' = n
    · rw [e, e']
    · rw [if_neg e'] at hl' hr'
      rw [if_pos e] at hr
      cases hr
      exact absurd (own h' cs2 _ hl' hr') (by omega)
    · rw [if_neg e] at hl hr
      rw [if_pos e'] at hr'
      cases hr'
      exact absurd (own h cs1 _ hl hr) (by omega)
    · rw [if_neg e] at hl hr
      rw [if_neg e'] at hl' hr'
      exact H.inj h h' cs1 cs2 b hl hl' hr hr'
  · simp only [VR]
    exact ⟨c.w.heap.size, by simp [c', Cf.env], rfl, #[], 0, hnew⟩
  · rintro ⟨h, cs', k1, k2⟩
    simp only [c'] at k1 k2
    by_cases e : h = n
    · rw [if_pos e] at k2; cases k2
      omega
    · rw [if_neg e] at k1 k2
      exact ho ⟨h, cs', k1, k2⟩
  · by_cases e : h = n
    · exact .inr ⟨by omega, by show h < n + 1; omega⟩
    · simp only [c', if_neg e] at hh; exact .inl hh
/-- What a map holds at a key; its zero where it holds nothing. -/
def lookV (ok : Bool) (zv : VV) : Option (Nat × VV) → VV
  | some (_, v) => match ok with | true => .tup [v, bI true] | false => v
  | none => match ok with | true => .tup [zv, bI false] | false => zv
theorem evok_lookup {t kt et : TypeId} {x i : Operand} {ok : Bool} {h : Nat} {kd : IntKind} {z : Int} {cs : List VV} {zv : VV} {q : Option (Nat × VV)} (hop : o.op = .lookup t x i ok) (hx : Tv x = .mp h) (hi : Tv i = .v (.int kd z)) (hl : lkf h = some cs)
    (ht : MapTy P t kt et kd) (hz : ZeroIs P et zv) (hq : MFind kd z cs q) : EvOk P G o Tv lkf n ⟨lookV ok zv q, [h], [], 0⟩ := by
  refine ⟨(fun p hp => by cases hp), fun c a H hG hr hrd _ => ?_⟩
  rw [hop] at hr
  have h1 := hr x (by simp [Op.operands])
  rw [hx] at h1; simp only [VR] at h1
  obtain ⟨b, h2, h3, hm⟩ := h1
  have h4 := hr i (by simp [Op.operands])
  rw [hi] at h4; simp only [VR] at h4
  obtain ⟨es, k1, k2, k3, k4⟩ := map_blk H (by rw [hrd h (by simp)]; exact hl) h2 hm
  obtain ⟨zz, z1, z2⟩ := hz
  obtain ⟨t1, t2⟩ := ht
  have f := findNow_at cs es.toList 0 k3 q hq
  have ck : (Instr.checkKey es.isEmpty 10000 kt (.int kd z)).run P c.w = .ok () c.w := MapKept.run_checkKey t2 (by simp [MapKept.IsKey]) _ _
  unfold OGoes
  cases q with
  | none =>
    have hf := MapKept.run_findKey (w := c.w) t2 f
    have hrun : (Instr.lookup t (a.eval x) (a.eval i) ok).run P c.w = .ok (if ok then .tuple #[zz, .bool false] else zz) c.w := by
      simp only [Instr.lookup, Sem.run_bind, run_underlying t1, Result.andThen_ok, h3, h4, MapKept.run_getObj_map k1, Sem.run_pure, ck, hf, z1]
    simp only [execOp, hop, Sem.run_bind, hrun, Result.andThen_ok, Sem.run_pure]
    refine ⟨c, rfl, H, rfl, ?_, Le.refl c, newOnly.refl⟩
    cases ok with
    | true => simp only [lookV, VR, bI, if_true]; exact ⟨[zz, .bool false], rfl, VRs.cons (z2 _) (VRs.cons rfl VRs.snoc_nil)⟩
    | false => simp only [lookV]; exact z2 _
  | some p =>
    obtain ⟨j, v⟩ := p
    obtain ⟨e, g1, g2, g3, g4⟩ := f
    have hf := MapKept.run_findKey (w := c.w) t2 g2
    have hrun : (Instr.lookup t (a.eval x) (a.eval i) ok).run P c.w = .ok (if ok then .tuple #[e.val, .bool true] else e.val) c.w := by
      simp only [Instr.lookup, Sem.run_bind, run_underlying t1, Result.andThen_ok, h3, h4, MapKept.run_getObj_map k1, Sem.run_pure, ck, hf]
    simp only [execOp, hop, Sem.run_bind, hrun, Result.andThen_ok, Sem.run_pure]
    refine ⟨c, rfl, H, rfl, ?_, Le.refl c, newOnly.refl⟩
    cases ok with
    | true => simp only [lookV, VR, bI, if_true]; exact ⟨[e.val, .bool true], rfl, VRs.cons g4 (VRs.cons rfl VRs.snoc_nil)⟩
    | false => simp only [lookV]; exact g4
/-- What a map holds behind 'm[k] = v'. -/
def putV (k : IntKind) (z : Int) (v : VV) (cs : List VV) : Option (Nat × VV) → List VV
  | some (i, _) => cs.set i (ent k z v)
  | none => cs ++ [ent k z v]
theorem VRs_set {E : Env} {v : VV} {u : Value} (h : VR E v u) : ∀ {cs : List VV} {us : List Value}, VRs E cs us → ∀ i, VRs E (cs.set i v) (us.set i u)
  | [], us, hs, i => by simp only [VRs] at hs; subst hs; simp [VRs]
  | c :: cs, us, hs, i => by
    simp only [VRs] at hs
    obtain ⟨u', us', rfl, h1, h2⟩ := hs
    cases i with
    | zero => exact VRs.cons h h2
    | succ i => exact VRs.cons h1 (VRs_set h h2 i)
theorem modify_list {α : Type} (es : Array α) (i : Nat) (e : α) (he : es.toList[i]? = some e) (f : α → α) : (es.modify i f).toList = es.toList.set i (f e) := by
  apply List.ext_getElem?
  intro j
  rw [Array.getElem?_toList, Array.getElem?_modify, List.getElem?_set]
  have he' : es[i]? = some e := by simpa using he
  by_cases h : i = j
  · subst h
    rw [if_pos rfl, if_pos rfl, he']
    have : i < es.toList.length := by
      have := (List.getElem?_eq_some_iff.1 he).1
      exact this
    rw [if_pos this]; rfl
  · rw [if_neg h, if_neg h]; simp
theorem stays (k : IntKind) (z : Int) {P : Program} (w : World) : (Instr.keyThatStays (.int k z) (.int k z)).run P w = .ok (.int k z) w := by
  simp [Instr.keyThatStays, Instr.sameBits]
theorem evok_mapUpdate {t kt et : TypeId} {m i x : Operand} {h : Nat} {kd : IntKind} {z : Int} {cs : List VV} {q : Option (Nat × VV)} (hop : o.op = .mapUpdate t m i x) (hx : Tv m = .mp h) (hi : Tv i = .v (.int kd z)) (hl : lkf h = some cs)
    (ht : MapTy P t kt et kd) (hq : MFind kd z cs q) : EvOk P G o Tv lkf n ⟨.any, [h], [(h, some (putV kd z (Tv x) cs q))], 0⟩ := by
  refine ⟨fun p hp => by simp at hp; subst hp; exact .inl (by simp), fun c a H hG hr hrd _ => ?_⟩
  rw [hop] at hr
  have h1 := hr m (by simp [Op.operands])
  rw [hx] at h1; simp only [VR] at h1
  obtain ⟨b, h2, h3, hm⟩ := h1
  have h4 := hr i (by simp [Op.operands])
  rw [hi] at h4; simp only [VR] at h4
  have h5 := hr x (by simp [Op.operands])
  have hlc : c.look h = some cs := by rw [hrd h (by simp)]; exact hl
  obtain ⟨es, k1, k2, k3, k4⟩ := map_blk H hlc h2 hm
  obtain ⟨t1, t2⟩ := ht
  have f := findNow_at cs es.toList 0 k3 q hq
  have ck : (Instr.checkKey false 10000 kt (.int kd z)).run P c.w = .ok () c.w := MapKept.run_checkKey t2 (by simp [MapKept.IsKey]) _ _
  unfold OGoes
  cases q with
  | none =>
    have hf := MapKept.run_findKey (w := c.w) t2 f
    have hsz : (es.push ⟨.int kd z, a.eval x, es.size⟩).size = es.size + 1 := by simp
    have hrun : (Instr.mapUpdate t (a.eval m) (a.eval i) (a.eval x)).run P c.w = .ok () { c.w with heap := c.w.heap.setIfInBounds b (.map (es.push ⟨.int kd z, a.eval x, es.size⟩) (es.push ⟨.int kd z, a.eval x, es.size⟩).size) } := by
      simp only [Instr.mapUpdate, Sem.run_bind, run_underlying t1, Result.andThen_ok, h3, h4, MapKept.run_getObj_map k1, Sem.run_pure, ck, hf, MapKept.run_setObj_map _ k1, hsz]
    obtain ⟨c', p1, p2, p3, p4, p5⟩ := mwrite_ok H (es' := es.push ⟨.int kd z, a.eval x, es.size⟩) (cs' := putV kd z (Tv x) cs none) hlc h2 k1 k2 (by
      simp only [Array.toList_push, List.map_append, List.map_cons, List.map_nil, putV]
      exact k3.append (VRs.cons (val_ent rfl h5) VRs.snoc_nil)) (fun j e he => by
        simp only [Array.toList_push] at he
        rw [List.getElem?_append] at he
        split at he
        · exact k4 j e he
        · rename_i hj
          have hj' : j = es.size := by
            have h9 := (List.getElem?_eq_some_iff.1 he).1
            simp at h9 hj
            omega
          subst hj'
          simp at he
          rw [← he])
    simp only [execOp, hop, Sem.run_bind, hrun, Result.andThen_ok, Sem.run_pure]
    exact ⟨c', p1, p4, by rw [p3]; rfl, by simp [VR], p5, newOnly.of_eq p2⟩
  | some p =>
    obtain ⟨j, v⟩ := p
    obtain ⟨e, g1, g2, g3, g4⟩ := f
    rw [Nat.zero_add] at g2
    have hf := MapKept.run_findKey (w := c.w) t2 g2
    have gd : ((es[j]?).map (·.key)).getD (Value.int kd z) = .int kd z := by
      have : es[j]? = some e := by simpa using g1
      rw [this]; exact g3
    have hm := modify_list es j e g1 (fun e => { e with key := .int kd z, val := a.eval x })
    have hsz : (es.modify j fun e => { e with key := .int kd z, val := a.eval x }).size = es.size := by simp
    have hrun : (Instr.mapUpdate t (a.eval m) (a.eval i) (a.eval x)).run P c.w = .ok () { c.w with heap := c.w.heap.setIfInBounds b (.map (es.modify j fun e => { e with key := .int kd z, val := a.eval x }) (es.modify j fun e => { e with key := .int kd z, val := a.eval x }).size) } := by
      simp only [Instr.mapUpdate, Sem.run_bind, run_underlying t1, Result.andThen_ok, h3, h4, MapKept.run_getObj_map k1, Sem.run_pure, ck, hf, gd, stays, MapKept.run_setObj_map _ k1, hsz]
    obtain ⟨c', p1, p2, p3, p4, p5⟩ := mwrite_ok H (es' := es.modify j fun e => { e with key := .int kd z, val := a.eval x }) (cs' := putV kd z (Tv x) cs (some (j, v))) hlc h2 k1 k2 (by
      rw [hm, List.map_set]
      exact VRs_set (val_ent rfl h5) k3 j) (fun i e' he => by
        rw [hm, List.getElem?_set] at he
        split at he
        · rename_i hji
          subst hji
          split at he
          · cases he; exact k4 j e g1
          · cases he
        · exact k4 i e' he)
    simp only [execOp, hop, Sem.run_bind, hrun, Result.andThen_ok, Sem.run_pure]
    exact ⟨c', p1, p4, by rw [p3]; rfl, by simp [VR], p5, newOnly.of_eq p2⟩
/-- 'm[k]' that is about to turn: what it holds, and where. -/
def entryV (zv : VV) (n : Nat) : Option (Nat × VV) → VV
  | some (i, v) => .tup [v, nI .i64 (i : Nat)]
  | none => .tup [zv, nI .i64 (n : Nat)]
def entryC (k : IntKind) (z : Int) (zv : VV) (cs : List VV) : Option (Nat × VV) → List VV
  | some _ => cs
  | none => cs ++ [ent k z zv]
theorem evok_mapEntry {t kt et : TypeId} {m i : Operand} {h : Nat} {kd : IntKind} {z : Int} {cs : List VV} {zv : VV} {q : Option (Nat × VV)} (hop : o.op = .mapEntry t m i) (hx : Tv m = .mp h) (hi : Tv i = .v (.int kd z)) (hl : lkf h = some cs)
    (ht : MapTy P t kt et kd) (hz : ZeroIs P et zv) (hq : MFind kd z cs q) : EvOk P G o Tv lkf n ⟨entryV zv cs.length q, [h], [(h, some (entryC kd z zv cs q))], 0⟩ := by
  refine ⟨fun p hp => by simp at hp; subst hp; exact .inl (by simp), fun c a H hG hr hrd _ => ?_⟩
  rw [hop] at hr
  have h1 := hr m (by simp [Op.operands])
  rw [hx] at h1; simp only [VR] at h1
  obtain ⟨b, h2, h3, hm⟩ := h1
  have h4 := hr i (by simp [Op.operands])
  rw [hi] at h4; simp only [VR] at h4
  have hlc : c.look h = some cs := by rw [hrd h (by simp)]; exact hl
  obtain ⟨es, k1, k2, k3, k4⟩ := map_blk H hlc h2 hm
  obtain ⟨zz, z1, z2⟩ := hz
  obtain ⟨t1, t2⟩ := ht
  have f := findNow_at cs es.toList 0 k3 q hq
  have ck : (Instr.checkKey false 10000 kt (.int kd z)).run P c.w = .ok () c.w := MapKept.run_checkKey t2 (by simp [MapKept.IsKey]) _ _
  have hlen : es.size = cs.length := by have := k3.length; simpa using this
  unfold OGoes
  cases q with
  | none =>
    have hf := MapKept.run_findKey (w := c.w) t2 f
    have hsz : (es.push ⟨.int kd z, zz, es.size⟩).size = es.size + 1 := by simp
    have hrun : (Instr.mapEntry t (a.eval m) (a.eval i)).run P c.w = .ok (.tuple #[zz, goInt es.size]) { c.w with heap := c.w.heap.setIfInBounds b (.map (es.push ⟨.int kd z, zz, es.size⟩) (es.push ⟨.int kd z, zz, es.size⟩).size) } := by
      simp only [Instr.mapEntry, Sem.run_bind, run_underlying t1, Result.andThen_ok, h3, h4, MapKept.run_getObj_map k1, Sem.run_pure, ck, hf, z1, MapKept.run_setObj_map _ k1, hsz]
    obtain ⟨c', p1, p2, p3, p4, p5⟩ := mwrite_ok H (es' := es.push ⟨.int kd z, zz, es.size⟩) (cs' := entryC kd z zv cs none) hlc h2 k1 k2 (by
      simp only [Array.toList_push, List.map_append, List.map_cons, List.map_nil, entryC]
      exact k3.append (VRs.cons (val_ent rfl (z2 _)) VRs.snoc_nil)) (fun j e he => by
        simp only [Array.toList_push] at he
        rw [List.getElem?_append] at he
        split at he
        · exact k4 j e he
        · rename_i hj
          have hj' : j = es.size := by
            have h9 := (List.getElem?_eq_some_iff.1 he).1
            simp at h9 hj
            omega
          subst hj'
          simp at he
          rw [← he])
    simp only [execOp, hop, Sem.run_bind, hrun, Result.andThen_ok, Sem.run_pure]
    refine ⟨c', p1, p4, by rw [p3]; rfl, ?_, p5, newOnly.of_eq p2⟩
    simp only [entryV, VR]
    exact ⟨[zz, goInt es.size], rfl, VRs.cons (z2 _) (VRs.cons (by rw [hlen]; simp [nI, VR, goInt]) VRs.snoc_nil)⟩
  | some p =>
    obtain ⟨j, v⟩ := p
    obtain ⟨e, g1, g2, g3, g4⟩ := f
    rw [Nat.zero_add] at g2
    have hf := MapKept.run_findKey (w := c.w) t2 g2
    have ge : es[j]? = some e := by simpa using g1
    have gd : ((es[j]?).map (·.key)).getD (Value.int kd z) = .int kd z := by rw [ge]; exact g3
    have gb : ((es[j]?).map fun x => (x.born : Int)).getD 0 = (j : Int) := by rw [ge]; show (e.born : Int) = _; rw [k4 j e g1]
    have hm := modify_list es j e g1 (fun e => { e with key := .int kd z })
    have hes : (es.modify j fun e => { e with key := .int kd z }) = es := by
      apply Array.toList_inj.1
      rw [hm]
      apply List.ext_getElem?
      intro i
      rw [List.getElem?_set]
      split
      · rename_i hji
        subst hji
        rw [if_pos (List.getElem?_eq_some_iff.1 g1).1, g1, ← g3]
      · rfl
    have hrun : (Instr.mapEntry t (a.eval m) (a.eval i)).run P c.w = .ok (.tuple #[e.val, goInt j]) { c.w with heap := c.w.heap.setIfInBounds b (.map es es.size) } := by
      simp only [Instr.mapEntry, Sem.run_bind, run_underlying t1, Result.andThen_ok, h3, h4, MapKept.run_getObj_map k1, Sem.run_pure, ck, hf, gd, stays, gb, MapKept.run_setObj_map _ k1, hes]
    obtain ⟨c', p1, p2, p3, p4, p5⟩ := mwrite_ok H (es' := es) (cs' := entryC kd z zv cs (some (j, v))) hlc h2 k1 k2 k3 k4
    simp only [execOp, hop, Sem.run_bind, hrun, Result.andThen_ok, Sem.run_pure]
    refine ⟨c', p1, p4, by rw [p3]; rfl, ?_, p5, newOnly.of_eq p2⟩
    simp only [entryV, VR]
    exact ⟨[e.val, goInt j], rfl, VRs.cons (VR.keep p5.keep _ g4) (VRs.cons (by simp [nI, VR, goInt]) VRs.snoc_nil)⟩
theorem evok_entryStore {t : TypeId} {m s x : Operand} {h i : Nat} {kd : IntKind} {z : Int} {v0 : VV} {cs : List VV} (hop : o.op = .entryStore t m s x) (hx : Tv m = .mp h) (hi : Tv s = nI .i64 (i : Nat)) (hl : lkf h = some cs) (hc : cs[i]? = some (ent kd z v0)) :
    EvOk P G o Tv lkf n ⟨.any, [h], [(h, some (cs.set i (ent kd z (Tv x))))], 0⟩ := by
  refine ⟨fun p hp => by simp at hp; subst hp; exact .inl (by simp), fun c a H hG hr hrd _ => ?_⟩
  rw [hop] at hr
  have h1 := hr m (by simp [Op.operands])
  rw [hx] at h1; simp only [VR] at h1
  obtain ⟨b, h2, h3, hm⟩ := h1
  have h4 := hr s (by simp [Op.operands])
  rw [hi] at h4; simp only [nI, VR] at h4
  have h5 := hr x (by simp [Op.operands])
  have hlc : c.look h = some cs := by rw [hrd h (by simp)]; exact hl
  obtain ⟨es, k1, k2, k3, k4⟩ := map_blk H hlc h2 hm
  obtain ⟨u, g1, g2⟩ := k3.get hc
  rw [List.getElem?_map] at g1
  obtain ⟨e, g3, rfl⟩ := Option.map_eq_some_iff.1 g1
  obtain ⟨g4, g5⟩ := ent_val g2
  have hfi : es.findIdx? (fun e => (e.born : Int) == (i : Int)) = some i := by
    have hlt := (List.getElem?_eq_some_iff.1 g3).1
    have hlt' : i < es.size := hlt
    rw [Array.findIdx?_eq_some_iff_getElem]
    refine ⟨hlt', ?_, fun j hj => ?_⟩
    · have : es[i] = e := by have : es[i]? = some e := by simpa using g3
                             simpa [Array.getElem?_eq_getElem hlt'] using this
      rw [this, k4 i e g3]; simp
    · have hb := k4 j (es[j]) (by simp)
      rw [hb]
      simp
      omega
  have hmo := modify_list es i e g3 (fun e => { e with val := a.eval x })
  have hsz : (es.modify i fun e => { e with val := a.eval x }).size = es.size := by simp
  have hrun : (Instr.entryStore t (a.eval m) (a.eval s) (a.eval x)).run P c.w = .ok () { c.w with heap := c.w.heap.setIfInBounds b (.map (es.modify i fun e => { e with val := a.eval x }) (es.modify i fun e => { e with val := a.eval x }).size) } := by
    simp only [Instr.entryStore, Sem.run_bind, h3, h4, MapKept.run_getObj_map k1, Sem.run_pure, Result.andThen_ok, asInt, asIntOf, hfi, MapKept.run_setObj_map _ k1, hsz]
  obtain ⟨c', p1, p2, p3, p4, p5⟩ := mwrite_ok H (es' := es.modify i fun e => { e with val := a.eval x }) (cs' := cs.set i (ent kd z (Tv x))) hlc h2 k1 k2 (by
    rw [hmo, List.map_set]
    exact VRs_set (val_ent (e := { e with val := a.eval x }) g4 h5) k3 i) (fun j e' he => by
      rw [hmo, List.getElem?_set] at he
      split at he
      · rename_i hji
        subst hji
        split at he
        · cases he; exact k4 i e g3
        · cases he
      · exact k4 j e' he)
  unfold OGoes
  simp only [execOp, hop, Sem.run_bind, hrun, Result.andThen_ok, Sem.run_pure]
  exact ⟨c', p1, p4, by rw [p3]; rfl, by simp [VR], p5, newOnly.of_eq p2⟩
/-- An iterator goes on. -/
theorem iwrite_ok {c : Cf} (H : HRel c) {hd b : Nat} {cs cs' : List VV} (hl : c.look hd = some cs) (hr : c.ρ hd = some (some b)) {m m' : Option Nat} {s1 s1' c1 c1' : Nat} {q q' : Array Nat} {us' : List Value} {w0 : World} (hw0 : w0 = c.w ∨ w0 = c.w.drew) (hb : c.w.heap[b]? = some (.mapIter m s1 q c1)) (hA : ¬ c.A b)
    (h9 : VRs c.env cs' us') (h10 : Shows (.mapIter m' s1' q' c1') us') :
    ∃ c', c'.w = { w0 with heap := c.w.heap.setIfInBounds b (.mapIter m' s1' q' c1') } ∧ c'.ρ = c.ρ ∧ c'.look = (fun h' => if h' = hd then some cs' else c.look h') ∧ HRel c' ∧ Le c c' := by
  have hlt : b < c.w.heap.size := (Array.getElem?_eq_some_iff.1 hb).1
  let w' : World := { w0 with heap := c.w.heap.setIfInBounds b (.mapIter m' s1' q' c1') }
  have h5 : ∀ k, k ≠ b → w'.heap[k]? = c.w.heap[k]? := fun k hk => by
    show (c.w.heap.setIfInBounds b _)[k]? = _
    rw [Array.getElem?_setIfInBounds, if_neg (by omega)]
  have h6 : w'.heap[b]? = some (.mapIter m' s1' q' c1') := by
    show (c.w.heap.setIfInBounds b _)[b]? = _
    rw [Array.getElem?_setIfInBounds, if_pos rfl, if_pos hlt]
  let c' : Cf := ⟨c.ρ, c.A, fun h' => if h' = hd then some cs' else c.look h', w'⟩
  have keep : c.env.Keep c'.env := by
    refine ⟨Nat.le_of_eq (by show c.w.heap.size = (c.w.heap.setIfInBounds b _).size; simp), fun h x hx => hx, fun k hk ha => ⟨ha, h5 k ?_⟩, fun k us2 T2 fr2 hk => ?_, fun k es2 m hk => ?_⟩
    · rintro rfl; exact hA ha
    · by_cases e : k = b
      · subst e
        have hk' : c.w.heap[k]? = some (.cells us2 T2 fr2) := hk
        rw [hb] at hk'; cases hk'
      · exact ⟨us2, fr2, by show w'.heap[k]? = _; rw [h5 k e]; exact hk, rfl⟩
    · by_cases e : k = b
      · subst e
        have hk' : c.w.heap[k]? = some (.map es2 m) := hk
        rw [hb] at hk'; cases hk'
      · exact ⟨es2, m, by show w'.heap[k]? = _; rw [h5 k e]; exact hk⟩
  have owned : ∀ x, c'.Owned x → c.Owned x := by
    rintro x ⟨h, cs2, k1, k2⟩
    by_cases e : h = hd
    · subst e; exact ⟨h, cs, hl, k2⟩
    · simp only [c', if_neg e] at k1; exact ⟨h, cs2, k1, k2⟩
  refine ⟨c', rfl, rfl, rfl, ⟨fun h cs2 k1 => ?_, fun h h' cs1 cs2 x k1 k2 k3 k4 => ?_⟩, ⟨keep, by rcases hw0 with rfl | rfl <;> rfl, by rcases hw0 with rfl | rfl <;> rfl, by rcases hw0 with rfl | rfl <;> rfl, fun x hx ho => ⟨h5 x ?_, fun k => ho (owned x k)⟩, fun x hx => .inl hx⟩⟩
  · by_cases e : h = hd
    · subst e
      simp [c'] at k1; subst k1
      exact .inr ⟨b, hr, hA, .inr ⟨_, _, h6, VRs.keep keep _ h9, h10⟩⟩
    · simp only [c', if_neg e] at k1
      rcases H.blk h cs2 k1 with k | ⟨x, k2, k3⟩
      · exact .inl k
      · refine .inr ⟨x, k2, k3.keep keep k3.1 (h5 x ?_)⟩
        rintro rfl
        exact e (H.inj h hd cs2 cs x k1 hl k2 hr)
  · have g : ∀ h cs1, c'.look h = some cs1 → ∃ cs2, c.look h = some cs2 := fun h cs1 k => by
      by_cases e : h = hd
      · subst e; exact ⟨cs, hl⟩
      · simp only [c', if_neg e] at k; exact ⟨cs1, k⟩
    obtain ⟨a1, g1⟩ := g h cs1 k1
    obtain ⟨a2, g2⟩ := g h' cs2 k2
    exact H.inj h h' a1 a2 x g1 g2 k3 k4
  · rintro rfl
    exact ho ⟨hd, cs, hl, hr⟩
/-- A map is about to be gone through. -/
theorem evok_range {t kt et : TypeId} {x : Operand} {h0 : Nat} {kd : IntKind} {cs0 : List VV} (hop : o.op = .range t x) (hx : Tv x = .mp h0) (hl0 : lkf h0 = some cs0) (ht : MapTy P t kt et kd) :
    EvOk P G o Tv lkf n ⟨.it n, [h0], [(n, some [.tup [.mp h0, nI .i64 0, nI .i64 (cs0.length : Nat)]])], 1⟩ := by
  refine ⟨fun p hp => by simp at hp; subst hp; exact .inr ⟨Nat.le_refl _, by simp⟩, fun c a H hG hr hrd hf => ?_⟩
  have hn : c.ρ n = none := by simpa using hf 0 (by simp)
  rw [hop] at hr
  have h1 := hr x (by simp [Op.operands])
  rw [hx] at h1
  have h1' := h1
  simp only [VR] at h1
  obtain ⟨bm, k1, k2, kq⟩ := h1
  obtain ⟨es, kb, kA, kv, kborn⟩ := map_blk H (by rw [hrd h0 (by simp)]; exact hl0) k1 kq
  have kl : es.size = cs0.length := by have := kv.length; rw [← Array.length_toList, ← List.length_map (f := entV), this]
  let w' := c.w.alloc (.mapIter (some bm) es.size #[] es.size)
  have hold : ∀ b, b < c.w.heap.size → w'.heap[b]? = c.w.heap[b]? := fun b hb => by
    show (c.w.heap.push _)[b]? = _
    rw [Array.getElem?_push, if_neg (by omega)]
  have hnew : w'.heap[c.w.heap.size]? = some (.mapIter (some bm) es.size #[] es.size) := by show (c.w.heap.push _)[_]? = _; simp
  let c' : Cf := ⟨fun h => if h = n then some (some c.w.heap.size) else c.ρ h, fun x => c.A x ∧ x ≠ c.w.heap.size, fun h' => if h' = n then some [.tup [.mp h0, nI .i64 0, nI .i64 (cs0.length : Nat)]] else c.look h', w'⟩
  have keep : c.env.Keep c'.env := by
    refine ⟨?_, fun h x hx => ?_, fun b hb ha => ⟨⟨ha, ?_⟩, hold b hb⟩, fun b us' T' fr' hb => ?_, fun b es' k' hb => ?_⟩
    · show c.w.heap.size ≤ (c.w.heap.push _).size
      simp
    · show (if h = n then some (some c.w.heap.size) else c.ρ h) = some x
      rw [if_neg]
      · exact hx
      · rintro rfl; have : c.ρ h = some x := hx; rw [hn] at this; cases this
    · have : b < c.w.heap.size := hb
      omega
    · have : b < c.w.heap.size := (Array.getElem?_eq_some_iff.1 hb).1
      exact ⟨us', fr', by show w'.heap[b]? = _; rw [hold b this]; exact hb, rfl⟩
    · have : b < c.w.heap.size := (Array.getElem?_eq_some_iff.1 hb).1
      exact ⟨es', k', by show w'.heap[b]? = _; rw [hold b this]; exact hb⟩
  have own : ∀ h cs' b, c.look h = some cs' → c.ρ h = some (some b) → b < c.w.heap.size := fun h cs' b hl hr => by
    rcases H.blk h cs' hl with ⟨h1, _⟩ | ⟨b', h1, h2⟩
    · rw [hr] at h1; cases h1
    · rw [hr] at h1; cases h1
      exact h2.lt
  have run : (execOp a.eval o).run P c.w = .ok (.value (.pointer (some ⟨c.w.heap.size, 0, none⟩))) w' := by
    have kb' : (getObj bm).run P c.w = .ok (.map es es.size) c.w := MapKept.run_getObj_map kb
    simp only [execOp, hop, Instr.range, k2, Sem.run_bind, run_underlying ht.1, Result.andThen_ok, kb', Sem.run_pure]
    rfl
  unfold OGoes
  rw [run]
  refine ⟨c', rfl, ⟨fun h cs' hl => ?_, fun h h' cs1 cs2 b hl hl' hr hr' => ?_⟩, rfl, ?_, ⟨keep, rfl, rfl, rfl, fun b hb ho => ⟨hold b hb, ?_⟩, fun b hb => .inl hb.1⟩, fun h hh => ?_⟩
  · by_cases e : h = n
    · have : cs' = [.tup [.mp h0, nI .i64 0, nI .i64 (cs0.length : Nat)]] := by simp [c', e] at hl; exact hl.symm
      subst this
      refine .inr ⟨c.w.heap.size, by simp [c', e], fun ha => ha.2 rfl, .inr ⟨_, _, hnew, ?_, .iter (by simp) (by simp) rfl⟩⟩
      rw [k2] at h1'
      refine VRs.cons ?_ VRs.snoc_nil
      simp only [VR]
      exact ⟨_, rfl, VRs.cons (VR.keep keep (.mp h0) h1') (VRs.cons (by simp [VR, nI]) (VRs.cons (by simp [VR, nI, kl]) VRs.snoc_nil))⟩
    · simp only [c', if_neg e] at hl
      rcases H.blk h cs' hl with ⟨k1, k2⟩ | ⟨b, k1, k2⟩
      · exact .inl ⟨by simp only [c', if_neg e]; exact k1, k2⟩
      · have hb := own h cs' b hl k1
        exact .inr ⟨b, by simp only [c', if_neg e]; exact k1, k2.keep keep (fun ha => k2.1 ha.1) (hold b hb)⟩
  · simp only [c'] at hl hl' hr hr'
    by_cases e : h = n <;> by_cases e' : h' = n
    · rw [e, e']
    · rw [if_neg e'] at hl' hr'
      rw [if_pos e] at hr
      cases hr
      exact absurd (own h' cs2 _ hl' hr') (by omega)
    · rw [if_neg e] at hl hr
      rw [if_pos e'] at hr'
      cases hr'
      exact absurd (own h cs1 _ hl hr) (by omega)
    · rw [if_neg e] at hl hr
      rw [if_neg e'] at hl' hr'
      exact H.inj h h' cs1 cs2 b hl hl' hr hr'
  · simp only [VR]
    exact ⟨c.w.heap.size, by simp [c', Cf.env], rfl⟩
  · rintro ⟨h, cs', k1, k2⟩
    simp only [c'] at k1 k2
    by_cases e : h = n
    · rw [if_pos e] at k2; cases k2
      omega
    · rw [if_neg e] at k1 k2
      exact ho ⟨h, cs', k1, k2⟩
  · by_cases e : h = n
    · exact .inr ⟨by omega, by show h < n + 1; omega⟩
    · simp only [c', if_neg e] at hh; exact .inl hh

theorem pig : ∀ (n : Nat) (l : List Nat), l.Nodup → (∀ x ∈ l, x < n) → l.length ≤ n ∧ (l.length = n → ∀ i, i < n → i ∈ l)
  | 0, l, _, h => by
    cases l with
    | nil => exact ⟨Nat.le_refl _, fun _ i hi => by omega⟩
    | cons a l => exact absurd (h a (by simp)) (by omega)
  | n + 1, l, hn, h => by
    by_cases hm : n ∈ l
    · obtain ⟨g1, g2⟩ := pig n (l.erase n) (hn.erase n) fun x hx => by
        have := h x (List.mem_of_mem_erase hx)
        have : x ≠ n := fun e => by subst e; exact (List.Nodup.not_mem_erase hn) hx
        omega
      rw [List.length_erase_of_mem hm] at g1 g2
      have := List.length_pos_of_mem hm
      refine ⟨by omega, fun e i hi => ?_⟩
      by_cases ei : i = n
      · subst ei; exact hm
      · exact List.mem_of_mem_erase (g2 (by omega) i (by omega))
    · obtain ⟨g1, g2⟩ := pig n l hn fun x hx => by
        have := h x hx
        have : x ≠ n := fun e => by subst e; exact hm hx
        omega
      exact ⟨by omega, fun e => by omega⟩
theorem pig2 : ∀ (n : Nat) (l : List Nat), (∀ i, i < n → i ∈ l) → n ≤ l.length
  | 0, l, _ => Nat.zero_le _
  | n + 1, l, h => by
    have hm := h n (by omega)
    have := pig2 n (l.erase n) fun i hi => (List.mem_erase_of_ne (by omega)).2 (h i (by omega))
    rw [List.length_erase_of_mem hm] at this
    have := List.length_pos_of_mem hm
    omega
/-- What an iterator's block holds. -/
theorem iter_blk {c : Cf} (H : HRel c) {h hm j N b : Nat} (hlc : c.look h = some [.tup [.mp hm, nI .i64 (j : Nat), nI .i64 (N : Nat)]]) (k1 : c.ρ h = some (some b)) :
    ∃ (bm since : Nat) (seen : Array Nat) (clock : Nat), c.w.heap[b]? = some (.mapIter (some bm) since seen clock) ∧ ¬ c.A b ∧ c.ρ hm = some (some bm) ∧ (∃ es k, c.w.heap[bm]? = some (.map es k)) ∧ seen.size = j ∧ since = N ∧
      seen.toList.Nodup ∧ (∀ x ∈ seen.toList, x < since) ∧ since = clock := by
  rcases H.blk h _ hlc with ⟨_, k4⟩ | ⟨b', k3, k4, k5⟩
  · cases k4
  rw [k1] at k3
  cases k3
  rcases k5 with ⟨us, T, fr, g1, g2, g3, g4, g5⟩ | ⟨ob, us, g1, g2, g3⟩
  · simp only [List.length_singleton, VRs, VR] at g4
    obtain ⟨u, us', e1, ⟨us2, rfl, _⟩, _⟩ := g4
    have := g5 (.tuple us2.toArray) (by rw [List.length_singleton, e1]; simp)
    simp [Value.oneCell'] at this
  cases g3 with
  | map a1 a2 =>
    rename_i es kk
    have gl := g2.length
    cases hes : es.toList with
    | nil => rw [hes] at gl; simp at gl
    | cons e0 er =>
      rw [hes] at g2
      simp only [List.map_cons, VRs, VR, entV] at g2
      obtain ⟨u, us', e1, ⟨us2, e2, u2, us3, e3, _, u4, us5, e5, _, u6, us7, e7, _⟩, _⟩ := g2
      simp only [List.cons.injEq] at e1
      rw [← e1.1, e3, e5, e7] at e2
      simp at e2
  | iter a1 a2 a3 =>
    rename_i m since seen clock
    simp only [VRs, VR] at g2
    obtain ⟨u, us', e1, ⟨us2, e2, u2, us3, e3, ⟨bm, f1, f2, f3⟩, u4, us5, e5, e6, u7, us7, e7, e8, e9⟩, _⟩ := g2
    simp only [List.cons.injEq] at e1
    rw [← e1.1, e3, e5, e7, e9, f2, e6, e8] at e2
    simp [nI] at e2
    obtain ⟨rfl, es1, es2⟩ := e2
    exact ⟨bm, since, seen, clock, g1, k4, f1, f3, by omega, by omega, a1, a2, a3⟩
/-- The one that the last step handed out. -/
theorem evok_entry {x : Operand} {h hm j : Nat} {cs : List VV} {v : VV} (hop : o.op = .entry x) (hx : Tv x = .it h) (hl : lkf h = some [.tup [.mp hm, nI .i64 (j : Nat), nI .i64 (cs.length : Nat)]]) (hlm : lkf hm = some cs)
    (hv : ∀ c ∈ cs, ∃ k, c = .tup [k, v]) (hj : 1 ≤ j) : EvOk P G o Tv lkf n ⟨.tup [.any, v], [h, hm], [], 0⟩ := by
  refine ⟨(fun p hp => by cases hp), fun c a H hG hr hrd hf => ?_⟩
  rw [hop] at hr
  have h1 := hr x (by simp [Op.operands])
  rw [hx] at h1
  simp only [VR] at h1
  obtain ⟨b, k1, k2⟩ := h1
  have hlc : c.look h = _ := (hrd h (by simp)).trans hl
  obtain ⟨bm, since, seen, clock, g1', k4, f1, f3, es1, es2, a1, a2, a3⟩ := iter_blk H hlc k1
  obtain ⟨es, kb, kA, kv, kborn⟩ := map_blk H ((hrd hm (by simp)).trans hlm) f1 f3
  have kl : es.size = cs.length := by have := kv.length; rw [← Array.length_toList, ← List.length_map (f := entV), this]
  obtain ⟨seen', last, rfl⟩ : ∃ (bs : Array Nat) (c : Nat), seen = bs.push c := Array.exists_push_of_size_pos (by omega)
  have hlast := a2 last (by simp)
  have hle : last < es.size := by omega
  have hb := kborn last es[last] (by simp [hle])
  have nd : (es.toList.map (·.born)).Nodup := by
    have : es.toList.map (·.born) = List.range es.size := by
      refine List.ext_getElem (by simp) fun i h1 h2 => ?_
      rw [List.getElem_map, List.getElem_range]
      exact kborn i _ (List.getElem?_eq_getElem _)
    rw [this]; exact List.nodup_range
  have cl : clock = es.size := by omega
  rw [cl] at g1'
  have g2 : c.w.heap[b]? = some (.mapIter (some bm) since (seen'.push es[last].born) es.size) := by rw [hb]; exact g1'
  have re := run_entry_at (P := P) c.w b bm since seen' es es.size es[last] g2 kb (by simp) nd
  have run : (execOp a.eval o).run P c.w = .ok (.value (.tuple #[es[last].key, es[last].val])) c.w := by
    simp only [execOp, hop, k2, Sem.run_bind, re, Result.andThen_ok, Sem.run_pure]
  have hic : last < cs.length := by omega
  obtain ⟨kk, hk⟩ := hv _ (List.getElem_mem hic)
  obtain ⟨u0, hu0, hev⟩ := kv.get (i := last) (c := .tup [kk, v]) (by rw [List.getElem?_eq_getElem hic, hk])
  have hu0 : some (entV es[last]) = some u0 := by rw [← hu0, List.getElem?_map, List.getElem?_eq_getElem (by simpa using hle)]; rfl
  cases hu0
  have hev' : VR c.env v es[last].val := by
    simp only [entV, VR, VRs] at hev
    obtain ⟨us2, q1, u1, us3, q2, _, u4, us5, q5, q6, q7⟩ := hev
    rw [q2, q5, q7] at q1
    simp at q1
    rw [q1.2]; exact q6
  unfold OGoes
  rw [run]
  refine ⟨c, rfl, H, rfl, ?_, Le.refl c, newOnly.refl⟩
  simp only [VR]
  exact ⟨_, rfl, VRs.cons (by simp [VR]) (VRs.cons hev' VRs.snoc_nil)⟩
/-- The next one of a map, whichever it is: all hold the same. -/
theorem evok_next {x : Operand} {h hm j : Nat} {cs : List VV} {v : VV} (hop : o.op = .next x false) (hx : Tv x = .it h) (hl : lkf h = some [.tup [.mp hm, nI .i64 (j : Nat), nI .i64 (cs.length : Nat)]]) (hlm : lkf hm = some cs)
    (hv : ∀ c ∈ cs, ∃ k, c = .tup [k, v]) : EvOk P G o Tv lkf n (match Nat.beq j cs.length with
      | true => ⟨.tup [bI false], [h, hm], [], 0⟩
      | false => ⟨.tup [bI true, .any, v], [h, hm], [(h, some [.tup [.mp hm, nI .i64 (j + 1 : Nat), nI .i64 (cs.length : Nat)]])], 0⟩) := by
  have core : ∀ (c : Cf) (a : Act), HRel c → (∀ x ∈ o.op.operands, VR c.env (Tv x) (a.eval x)) → (∀ h' ∈ [h, hm], c.look h' = lkf h') →
      (j = cs.length ∧ OGoes P o a c.w (Leaves c n ⟨.tup [bI false], [h, hm], [], 0⟩)) ∨ (j ≠ cs.length ∧ OGoes P o a c.w (Leaves c n ⟨.tup [bI true, .any, v], [h, hm], [(h, some [.tup [.mp hm, nI .i64 (j + 1 : Nat), nI .i64 (cs.length : Nat)]])], 0⟩)) := by
    intro c a H hr hrd
    rw [hop] at hr
    have h1 := hr x (by simp [Op.operands])
    rw [hx] at h1
    simp only [VR] at h1
    obtain ⟨b, k1, k2⟩ := h1
    have hlc : c.look h = _ := (hrd h (by simp)).trans hl
    rcases H.blk h _ hlc with ⟨_, k4⟩ | ⟨b', k3, k4, k5⟩
    · cases k4
    rw [show c.ρ h = some (some b) from k1] at k3
    cases k3
    rcases k5 with ⟨us, T, fr, g1, g2, g3, g4, g5⟩ | ⟨ob, us, g1, g2, g3⟩
    · simp only [List.length_singleton, VRs, VR] at g4
      obtain ⟨u, us', e1, ⟨us2, rfl, _⟩, _⟩ := g4
      have := g5 (.tuple us2.toArray) (by rw [List.length_singleton, e1]; simp)
      simp [Value.oneCell'] at this
    cases g3 with
    | map a1 a2 =>
      rename_i es kk
      have gl := g2.length
      cases hes : es.toList with
      | nil => rw [hes] at gl; simp at gl
      | cons e0 er =>
        rw [hes] at g2
        simp only [List.map_cons, VRs, VR, entV] at g2
        obtain ⟨u, us', e1, ⟨us2, e2, u2, us3, e3, _, u4, us5, e5, _, u6, us7, e7, _⟩, _⟩ := g2
        simp only [List.cons.injEq] at e1
        rw [← e1.1, e3, e5, e7] at e2
        simp at e2
    | iter a1 a2 a3 =>
      rename_i m since seen clock
      simp only [VRs, VR] at g2
      obtain ⟨u, us', e1, ⟨us2, e2, u2, us3, e3, ⟨bm, f1, f2, f3⟩, u4, us5, e5, e6, u7, us7, e7, e8, e9⟩, _⟩ := g2
      simp only [List.cons.injEq] at e1
      rw [← e1.1, e3, e5, e7, e9, f2, e6, e8] at e2
      simp [nI] at e2
      obtain ⟨rfl, es1, es2⟩ := e2
      have es1 : seen.size = j := by omega
      have es2 : since = cs.length := by omega
      obtain ⟨es, kb, kA, kv, kborn⟩ := map_blk H ((hrd hm (by simp)).trans hlm) f1 f3
      have kl : es.size = cs.length := by have := kv.length; rw [← Array.length_toList, ← List.length_map (f := entV), this]
      have hold : ∀ e ∈ es.toList, e.born < since := fun e he => by
        obtain ⟨i, hi, rfl⟩ := List.getElem_of_mem he
        have := kborn i _ (List.getElem?_eq_getElem hi)
        rw [this]; simp at hi; omega
      have g1' : c.w.heap[b]? = some (.mapIter (some bm) since seen clock) := g1
      have rn := run_next_at (P := P) c.w o.type b bm since clock seen es es.size g1' kb hold (Nat.le_of_eq a3)
      have pg := pig since seen.toList a1 a2
      have ll : seen.toList.length = j := by simpa using es1
      rcases rn with ⟨r1, r2⟩ | ⟨e, he, w1, hw1, r2⟩
      · refine .inl ⟨?_, ?_⟩
        · by_cases hlt : j < since
          · exfalso
            have : ∃ i, i < since ∧ i ∉ seen.toList := by
              refine Classical.byContradiction fun hno => ?_
              have hall : ∀ i, i < since → i ∈ seen.toList := fun i hi => Classical.byContradiction fun hn => hno ⟨i, hi, hn⟩
              have := pig2 since seen.toList hall
              omega
            obtain ⟨i, hi, hni⟩ := this
            have hie : i < es.size := by omega
            have : es[i] ∈ (leftOf es seen).toList := by
              unfold leftOf
              have hb' := kborn i es[i] (by simp [hie])
              simp only [Array.toList_filter, List.mem_filter, Array.getElem_mem_toList, true_and, hb']
              simpa using hni
            have hz : (leftOf es seen).toList.length = 0 := by simpa using r1
            rw [List.length_eq_zero_iff] at hz
            rw [hz] at this
            cases this
          · have := pg.1; omega
        · have run : (execOp a.eval o).run P c.w = .ok (.value (.tuple #[.bool false])) c.w := by
            simp only [execOp, hop, k2, Sem.run_bind, r2, Result.andThen_ok, Sem.run_pure]
          unfold OGoes
          rw [run]
          exact ⟨c, rfl, H, rfl, by simp [VR, VRs, bI], Le.refl c, newOnly.refl⟩
      · have hel : e ∈ es.toList ∧ e.born ∉ seen.toList := by
          unfold leftOf at he
          simpa using he
        refine .inr ⟨fun ej => ?_, ?_⟩
        · have := pg.2 (by omega) e.born (hold e hel.1)
          exact hel.2 this
        · obtain ⟨i, hi, hie⟩ := List.getElem_of_mem hel.1
          have hic : i < cs.length := by simp at hi; omega
          obtain ⟨kk, hk⟩ := hv _ (List.getElem_mem hic)
          obtain ⟨u0, hu0, hev⟩ := kv.get (i := i) (c := .tup [kk, v]) (by rw [List.getElem?_eq_getElem hic, hk])
          rw [List.getElem?_map, List.getElem?_eq_getElem hi, hie] at hu0
          cases hu0
          have hev' : VR c.env v e.val := by
            simp only [entV, VR, VRs] at hev
            obtain ⟨us2, q1, u1, us3, q2, _, u4, us5, q5, q6, q7⟩ := hev
            rw [q2, q5, q7] at q1
            simp at q1
            rw [q1.2]; exact q6
          obtain ⟨c', p1, p2, p3, p4, p5⟩ := iwrite_ok H (cs' := [.tup [.mp hm, nI .i64 (j + 1 : Nat), nI .i64 (cs.length : Nat)]]) (w0 := w1) (m' := some bm) (s1' := since) (c1' := es.size) (q' := seen.push e.born) hlc k1 hw1 g1' k4
            (us' := [.tuple #[.map (some bm), .int .i64 ((seen.push e.born).size : Nat), .int .i64 (since : Nat)]])
            (by
              refine VRs.cons ?_ VRs.snoc_nil
              simp only [VR]
              refine ⟨_, rfl, VRs.cons (by simp only [VR]; exact ⟨bm, f1, rfl, f3⟩) (VRs.cons (by simp [VR, nI, es1]) (VRs.cons (by simp [VR, nI, es2]) VRs.snoc_nil))⟩)
            (.iter (by
                rw [Array.toList_push, List.nodup_append]
                refine ⟨a1, by simp, fun x hx y hy => ?_⟩
                simp at hy; subst hy; rintro rfl; exact hel.2 hx)
              (fun x hx => by
                rw [Array.toList_push, List.mem_append] at hx
                rcases hx with hx | hx
                · exact a2 x hx
                · simp at hx; subst hx; exact hold e hel.1) (by omega))
          have hset : ChangeMaps.setBlock w1 b (.mapIter (some bm) since (seen.push e.born) es.size) = { w1 with heap := c.w.heap.setIfInBounds b (.mapIter (some bm) since (seen.push e.born) es.size) } := by
            rcases hw1 with rfl | rfl <;> rfl
          have run : (execOp a.eval o).run P c.w = .ok (.value (.tuple #[.bool true, e.key, e.val])) c'.w := by
            rw [p1, ← hset]
            simp only [execOp, hop, k2, Sem.run_bind, r2, Result.andThen_ok, Sem.run_pure]
          unfold OGoes
          rw [run]
          refine ⟨c', rfl, p4, by rw [p3]; rfl, ?_, p5, newOnly.of_eq p2⟩
          simp only [VR]
          exact ⟨_, rfl, VRs.cons (by simp [VR, bI]) (VRs.cons (by simp [VR]) (VRs.cons (VR.keep p5.keep _ hev') VRs.snoc_nil))⟩
  by_cases hj : j = cs.length
  · rw [show Nat.beq j cs.length = true from by simpa using hj]
    refine ⟨(fun p hp => by cases hp), fun c a H hG hr hrd hf => ?_⟩
    rcases core c a H hr hrd with ⟨_, h⟩ | ⟨h, _⟩
    · exact h
    · exact absurd hj h
  · rw [show Nat.beq j cs.length = false from by cases e : Nat.beq j cs.length with | false => rfl | true => exact absurd (Nat.eq_of_beq_eq_true e) hj]
    refine ⟨fun p hp => by simp at hp; subst hp; exact .inl (by simp), fun c a H hG hr hrd hf => ?_⟩
    rcases core c a H hr hrd with ⟨h, _⟩ | ⟨_, h⟩
    · exact absurd h hj
    · exact h
end

noncomputable def bindP {α : Type} (x : Option α) (k : α → Prop) : Prop := @Option.rec α (fun _ => Prop) False k x
theorem bindP_elim {α : Type} {x : Option α} {k : α → Prop} (h : bindP x k) : ∃ a, x = some a ∧ k a := by
  cases x with
  | none => exact h.elim
  | some a => exact ⟨a, rfl, h⟩

/-- Where b is true. -/
noncomputable def onlyIf (b : Bool) (k : Prop) : Prop := @Bool.rec (fun _ => Prop) False k b
/-- One or the other. -/
noncomputable def condP (b : Bool) (A B : Prop) : Prop := @Bool.rec (fun _ => Prop) B A b
theorem condP_eq (b : Bool) (A B : Prop) : condP b A B = (match b with | true => A | false => B) := by cases b <;> rfl
theorem onlyIf_elim {b : Bool} {k : Prop} (h : onlyIf b k) : b = true ∧ k := by
  cases b with
  | true => exact ⟨rfl, h⟩
  | false => exact h.elim
theorem onlyIf_intro {b : Bool} {k q : Prop} (h : b = true) (hk : k) : (@Bool.rec (fun _ => Prop) q k b : Prop) := by subst h; exact hk
theorem impB {a b : Bool} (h : (!a || b) = true) : a = true → b = true := fun e => by rw [e] at h; simpa using h
theorem neB {a b : Nat} (h : (!Nat.beq a b) = true) : a ≠ b := fun e => by subst e; simp at h
theorem bb {a b : Bool} (h : (a && b) = true) : a = true ∧ b = true := by simpa using h
/-- Cells that are appended: slices among them that are owned are given up. -/
def isSl : VV → Bool
  | .sl _ _ _ _ => true
  | _ => false

/-- A new row that is only read from the beginning. -/
theorem evok_freeze {P : Program} {G : Globs} {o : Oper} {Tv : Operand → VV} {lkf : Nat → Option (List VV)} {n k wd : Nat} {cs : List VV} {rd : List Nat} {u0 : List (Nat × Option (List VV))}
    (base : EvOk P G o Tv lkf n ⟨.sl n 0 k wd, rd, u0 ++ [(n, some cs)], 1⟩) (hk : cs.length = k * wd) (hn : noHs cs = true) : EvOk P G o Tv lkf n ⟨.ds false k cs, rd, u0 ++ [(n, none)], 1⟩ := by
  refine ⟨fun p hp => ?_, fun c a H hG hr hrd hf => ?_⟩
  · simp only [List.mem_append, List.mem_singleton] at hp
    rcases hp with hp | rfl
    · exact base.within p (by simp [hp])
    · exact .inr ⟨Nat.le_refl _, by simp⟩
  have h := base.goes c a H hG hr hrd hf
  have fupa : ∀ (u v : List (Nat × Option (List VV))) (f : Nat → Option (List VV)), fup f (u ++ v) = fup (fup f u) v := by
    intro u
    induction u with
    | nil => intro v f; rfl
    | cons p u ih => intro v f; simp only [List.cons_append, fup]; exact ih v _
  have conv : ∀ u w', Leaves c n ⟨.sl n 0 k wd, rd, u0 ++ [(n, some cs)], 1⟩ u w' → Leaves c n ⟨.ds false k cs, rd, u0 ++ [(n, none)], 1⟩ u w' := by
    rintro u w' ⟨c', g1, g2, g3, g4, g5, g6⟩
    have hlk : c'.look n = some cs := by rw [g3, fupa]; simp [fup]
    have hlook : (fun h' => if h' = n then none else c'.look h') = fup c.look (u0 ++ [(n, none)]) := by
      rw [g3, fupa, fupa]
      funext h'
      simp only [fup]
      split <;> rfl
    simp only [VR] at g4
    rcases g4 with ⟨k1, _, rfl, ao, rfl⟩ | ⟨b, cap, q1, q2, q3, _, uq, Tq, fq, hq, _⟩
    · have h0 : cs = [] := List.eq_nil_of_length_eq_zero (by simpa using hk)
      subst h0
      obtain ⟨c2, p1, p2, p3, p4, p5, p6⟩ := kill_ok g2 n
      refine ⟨c2, by rw [p1]; exact g1, p5, by rw [p4]; exact hlook, ?_, g5.trans p6, fun x hx => ?_⟩
      · simp only [VR]; exact .inl (by simp)
      · rw [p2] at hx; exact g6 x hx
    · obtain ⟨c2, p1, p2, p3, p4, p5, p6⟩ := freeze_ok g2 hlk q1
      obtain ⟨us, T, fr, b1, b2, b3, b4, b5, b6⟩ := blk_cells g2 hlk q1 ⟨uq, Tq, fq, hq⟩
      refine ⟨c2, by rw [p1]; exact g1, p4, by rw [p3]; exact hlook, ?_, g5.trans p5, fun x hx => ?_⟩
      · simp only [VR]
        refine .inr ⟨b, 0, cap, p6, ?_, q2, q3, by simp, us.toList.take cs.length, ?_, VRs.keep p5.keep _ b4, b5⟩
        · show b < c2.w.heap.size
          rw [p1]; exact (Array.getElem?_eq_some_iff.1 b1).1
        · intro j x hx
          rw [List.getElem?_take] at hx
          split at hx
          · show c2.w.cell? _ = _
            rw [p1]; simpa using (b6 j x (by simpa using hx)).1
          · cases hx
      · rw [p2] at hx; exact g6 x hx
  unfold OGoes at h ⊢
  split at h
  · exact conv _ _ h
  · exact conv _ _ h
  · exact Calls.mono h fun e w'' ⟨u, he, hR⟩ => ⟨u, he, conv _ _ hR⟩
  · exact h.elim
/-- A new row: owned, or only read; its cells by another word. -/
inductive RowP (n c wd : Nat) (cs : List VV) (rd : List Nat) (u0 : List (Nat × Option (List VV))) (k : Ev → Prop) : Prop
  | own (h : k ⟨.sl n 0 c wd, rd, u0 ++ [(n, some cs)], 1⟩)
  | ownAs (c' : Nat) (cs' : List VV) (e1 : c = c') (e2 : cs = cs') (h : k ⟨.sl n 0 c' wd, rd, u0 ++ [(n, some cs')], 1⟩)
  | read (c' : Nat) (cs' : List VV) (e1 : c = c') (e2 : cs = cs') (h1 : cs'.length = c' * wd) (h2 : noHs cs' = true) (h : k ⟨.ds false c' cs', rd, u0 ++ [(n, none)], 1⟩)
theorem rowP_ok {P : Program} {G : Globs} {o : Oper} {Tv : Operand → VV} {lkf : Nat → Option (List VV)} {n c wd : Nat} {cs : List VV} {rd : List Nat} {u0 : List (Nat × Option (List VV))} {k : Ev → Prop}
    (base : EvOk P G o Tv lkf n ⟨.sl n 0 c wd, rd, u0 ++ [(n, some cs)], 1⟩) (h : RowP n c wd cs rd u0 k) : ∃ e, EvOk P G o Tv lkf n e ∧ k e := by
  cases h with
  | own h => exact ⟨_, base, h⟩
  | ownAs c' cs' e1 e2 h => subst e1 e2; exact ⟨_, base, h⟩
  | read c' cs' e1 e2 h1 h2 h => subst e1 e2; exact ⟨_, evok_freeze base h1 h2, h⟩

noncomputable def headP (l : List VV) (k : VV → Prop) : Prop := @List.rec VV (fun _ => Prop) False (fun v _ _ => k v) l
theorem headP_elim {l : List VV} {k : VV → Prop} (hl : l.length = 1) (h : headP l k) : ∃ v, l = [v] ∧ k v := by
  match l, hl with
  | [v], _ => exact ⟨v, rfl, h⟩
theorem splice_set' {cs : List VV} {i : Nat} {x : VV} (h : i < cs.length) : splice cs i [x] = cs.set i x := by
  rw [List.set_eq_take_append_cons_drop, if_pos h]
  rfl
theorem splice_whole {cs new : List VV} (h : new.length = cs.length) : splice cs 0 new = new := by
  unfold splice
  rw [List.take_zero, List.drop_eq_nil_of_le (by omega)]
  simp
/-- An operation, in the engine. -/
noncomputable def opv (P : Program) (G : Globs) (Γ : Tab) (op : Op) (ev : Operand → VV) (lkf : Nat → Option (List VV)) (n : Nat) (k : Ev → Prop) : Prop :=
  match op with
  | .alloc t => bindP (Γ t) fun r => k ⟨.ptr n 0, [], [(n, some r.zero)], 1⟩
  | .box _ x => bindP (cellsOf (ev x)) fun cs => k ⟨.ptr n 0, [], [(n, some cs)], 1⟩
  | .load t x => match ev x with
    | .ptr h off => bindP (lkf h) fun cs => bindP (vload Γ t cs off) fun v => k ⟨v, [h], [], 0⟩
    | .dp es off => bindP (vload Γ t es off) fun v => k ⟨v, [], [], 0⟩
    | _ => False
  | .store t x y => match ev x with
    | .ptr h off => bindP (lkf h) fun cs => bindP (cellsOf (ev y)) fun new => bindP (Γ t) fun r => onlyIf (Nat.beq new.length r.size && Nat.ble (off + new.length) cs.length) <|
        condP (Nat.beq r.size 1) (headP new fun v => k ⟨.any, [h], [(h, some (cs.set off v))], 0⟩)
          (condP (Nat.beq off 0 && Nat.beq r.size cs.length) (k ⟨.any, [h], [(h, some new)], 0⟩) (k ⟨.any, [h], [(h, some (splice cs off new))], 0⟩))
    | _ => False
  | .buildSlice t len parts => bindP (sliceOf Γ t) fun er => onlyIf (Nat.ble 1 er.2.size && Nat.ble (len * er.2.size) 16777216) <|
      bindP (vfill (fun i => some (i * er.2.size, er.2.size)) (vzeros er.2 (len * er.2.size)) (parts.toList.map fun (i, x) => (i, ev x))) fun cs => onlyIf (Nat.beq cs.length (len * er.2.size)) <| RowP n len er.2.size cs [] [] k
  | .makeSlice t l cp => bindP (sliceOf Γ t) fun er => match ev l, ev cp with
    | .v (.int _ a), .v (.int _ b) => onlyIf (decide (a = b) && (Nat.ble 1 er.2.size && (decide (0 ≤ a) && (decide (a * er.2.bytes ≤ 140737488355328) && decide (a ≤ 140737488355328))))) <| RowP n a.toNat er.2.size (vzeros er.2 (a.toNat * er.2.size)) [] [] k
    | _, _ => False
  | .slice t x lo hi mx => match ev x with
    | .ptr h off => bindP (arrOf Γ t) fun a => bindP (lkf h) fun cs => bindP (vb (lo.map ev) 0) fun l => bindP (vb (hi.map ev) a.1) fun hh => bindP (vb (mx.map ev) a.1) fun m =>
        onlyIf ((!(mx.map ev).isSome || (hi.map ev).isSome) && (Nat.ble l hh && (Nat.ble hh m && (Nat.ble m a.1 && (Nat.ble a.1 maxLen && Nat.ble (off + a.1 * a.2.2) cs.length))))) <| k ⟨.sl h (if m = l then off else off + l * a.2.2) (hh - l) a.2.2, [h], [], 0⟩
    | _ => bindP (vpure Γ op ev) fun v => k ⟨v, [], [], 0⟩
  | .binOp bop t x y _ => match ev x, ev y with
    | .agg xs, .agg ys => ∃ r, EqAgg P bop t xs ys r ∧ k ⟨bI r, [], [], 0⟩
    | _, _ => bindP (vpure Γ op ev) fun v => k ⟨v, [], [], 0⟩
  | .convert src dst x => match tdOf Γ src, tdOf Γ dst with
    | some .str, some (.slice _) => bindP (sliceOf Γ dst) fun er => match er.2.d, ev x with
      | .int .u8, .v (.string s) => onlyIf (Nat.ble s.size 140737488355328) <| RowP n s.size 1 (s.data.toList.map byV) [] [] k
      | _, _ => False
    | some (.slice _), some .str => bindP (sliceOf Γ src) fun er => match er.2.d with
      | .int .u8 => bindP (view lkf (ev x)) fun q => ∃ l : List UInt8, q.2.2 = l.map byV ∧ q.2.1 = l.length ∧ k ⟨.v (.string ⟨l.toArray⟩), q.1, [], 0⟩
      | _ => False
    | some (.slice _), some (.slice _) => bindP (sliceOf Γ src) fun er => match er.2.d, ev x with
      | .int .u8, .sl h off c wd => onlyIf (Nat.beq src dst) <| bindP (lkf h) fun cs => onlyIf (Nat.ble 1 cs.length) <| k ⟨.sl h off c wd, [h], [], 0⟩
      | _, _ => False
    | _, _ => bindP (vpure Γ op ev) fun v => k ⟨v, [], [], 0⟩
  | .call { callee := .builtin .append, args := args, argTypes := ts } => match args.toList, ts.toList with
    | [s, x], [t, t'] => onlyIf (Nat.beq t t') <| bindP (sliceOf Γ t) fun er => bindP (view lkf (ev x)) fun q => onlyIf (Nat.ble 1 er.2.size && (Nat.ble 1 er.2.bytes && Nat.beq q.2.2.length (q.2.1 * er.2.size))) <| match ev s with
      | .sl h off c wd => onlyIf (Nat.beq off 0 && (Nat.beq wd er.2.size && !Nat.beq h n)) <| bindP (lkf h) fun cs => condP (Nat.beq cs.length (c * er.2.size) && Nat.ble ((c + q.2.1) * er.2.bytes) 140737488355328) (RowP n (c + q.2.1) er.2.size (cs ++ q.2.2) (h :: q.1) [(h, none)] k)
          (onlyIf (Nat.ble (c * er.2.size) cs.length && Nat.ble ((c + q.2.1) * er.2.bytes) 140737488355328) <| RowP n (c + q.2.1) er.2.size (cs.take (c * er.2.size) ++ q.2.2) (h :: q.1) [(h, none)] k)
      | .ds full c es => onlyIf (full && (Nat.beq es.length (c * er.2.size) && Nat.ble ((c + q.2.1) * er.2.bytes) 140737488355328)) <|
          condP (Nat.beq c 0 || Nat.ble 1 q.2.1) (RowP n (c + q.2.1) er.2.size (es ++ q.2.2) q.1 [] k)
            (k ⟨.ds false (c + q.2.1) (es ++ q.2.2), q.1, [(n, none)], 1⟩)
      | _ => False
    | _, _ => False
  | .call { callee := .builtin .copy, args := args, argTypes := ts } => match args.toList, ts.toList with
    | [s, x], [t, _] => bindP (sliceOf Γ t) fun er => onlyIf (Nat.beq er.2.size 1) <| match ev x with
      | .v (.string q) => (match ev s with
        | .sl h off c wd => bindP (lkf h) fun cs => onlyIf (Nat.ble (off + c) cs.length) <| k ⟨nI .i64 (Nat.min q.size c : Nat), [h], [(h, some (splice cs off ((q.data.toList.map byV).take (Nat.min q.size c))))], 0⟩
        | _ => False)
      | y => bindP (view lkf y) fun q => onlyIf (Nat.beq q.2.2.length q.2.1) <| match ev s with
        | .sl h off c wd => bindP (lkf h) fun cs => onlyIf (Nat.ble (off + c) cs.length) <| k ⟨nI .i64 (Nat.min q.2.1 c : Nat), h :: q.1, [(h, some (splice cs off (q.2.2.take (Nat.min q.2.1 c))))], 0⟩
        | _ => False
    | _, _ => False
  | .call { callee := .value f, args := args, argTypes := _ } => match ev f with
    | .fn (.func g) caps => ∃ e, Ret P G g (args.toList.map ev ++ caps) lkf n e ∧ k e
    | _ => False
  | .call { callee := .invoke r name, args := args, argTypes := _ } => match ev r with
    | .ifc t x => ∃ g, Meth P t name g ∧ ∃ e, Ret P G g (x :: args.toList.map ev) lkf n e ∧ k e
    | _ => False
  | .makeMap _ none => k ⟨.mp n, [], [(n, some [])], 1⟩
  | .lookup t x i ok => match ev x, ev i with
    | .mp h, .v (.int kd z) => bindP (lkf h) fun cs => ∃ kt et, MapTy P t kt et kd ∧ ∃ zv, ZeroIs P et zv ∧ ∃ q, MFind kd z cs q ∧ k ⟨lookV ok zv q, [h], [], 0⟩
    | _, _ => False
  | .mapUpdate t m i x => match ev m, ev i with
    | .mp h, .v (.int kd z) => bindP (lkf h) fun cs => ∃ kt et, MapTy P t kt et kd ∧ ∃ q, MFind kd z cs q ∧ k ⟨.any, [h], [(h, some (putV kd z (ev x) cs q))], 0⟩
    | _, _ => False
  | .mapEntry t m i => match ev m, ev i with
    | .mp h, .v (.int kd z) => bindP (lkf h) fun cs => ∃ kt et, MapTy P t kt et kd ∧ ∃ zv, ZeroIs P et zv ∧ ∃ q, MFind kd z cs q ∧ k ⟨entryV zv cs.length q, [h], [(h, some (entryC kd z zv cs q))], 0⟩
    | _, _ => False
  | .entryStore _ m s x => match ev m, ev s with
    | .mp h, .v (.int .i64 p) => bindP (lkf h) fun cs => ∃ (i : Nat) (kd : IntKind) (z : Int) (v0 : VV), p = (i : Nat) ∧ cs[i]? = some (ent kd z v0) ∧ k ⟨.any, [h], [(h, some (cs.set i (ent kd z (ev x))))], 0⟩
    | _, _ => False
  | .range t x => match ev x with
    | .mp h => bindP (lkf h) fun cs => ∃ kt et kd, MapTy P t kt et kd ∧ k ⟨.it n, [h], [(n, some [.tup [.mp h, nI .i64 0, nI .i64 (cs.length : Nat)]])], 1⟩
    | _ => bindP (vpure Γ op ev) fun v => k ⟨v, [], [], 0⟩
  | .next x false => match ev x with
    | .it h => ∃ (hm j : Nat) (cs : List VV) (v : VV), lkf h = some [.tup [.mp hm, nI .i64 (j : Nat), nI .i64 (cs.length : Nat)]] ∧ lkf hm = some cs ∧ (∀ c ∈ cs, ∃ y, c = .tup [y, v]) ∧
        condP (Nat.beq j cs.length) (k ⟨.tup [bI false], [h, hm], [], 0⟩) (k ⟨.tup [bI true, .any, v], [h, hm], [(h, some [.tup [.mp hm, nI .i64 (j + 1 : Nat), nI .i64 (cs.length : Nat)]])], 0⟩)
    | _ => bindP (vpure Γ op ev) fun v => k ⟨v, [], [], 0⟩
  | .entry x => match ev x with
    | .it h => ∃ (hm j : Nat) (cs : List VV) (v : VV), lkf h = some [.tup [.mp hm, nI .i64 (j : Nat), nI .i64 (cs.length : Nat)]] ∧ lkf hm = some cs ∧ (∀ c ∈ cs, ∃ y, c = .tup [y, v]) ∧ 1 ≤ j ∧ k ⟨.tup [.any, v], [h, hm], [], 0⟩
    | _ => bindP (vpure Γ op ev) fun v => k ⟨v, [], [], 0⟩
  | .nilCheck x => match ev x with
    | .fn (.method nm) [.ifc t y] => NilFine P t nm ∧ k ⟨.fn (.method nm) [.ifc t y], [], [], 0⟩
    | _ => bindP (vpure Γ op ev) fun v => k ⟨v, [], [], 0⟩
  | op => bindP (vpure Γ op ev) fun v => k ⟨v, [], [], 0⟩

theorem arr1 {α : Type} {xs : Array α} {x : α} (h : xs.toList = [x]) : xs = #[x] := by rw [← Array.toList_inj]; exact h
theorem arr2 {α : Type} {xs : Array α} {x y : α} (h : xs.toList = [x, y]) : xs = #[x, y] := by rw [← Array.toList_inj]; exact h

theorem opv_ok {P : Program} {G : Globs} {Γ : Tab} (hΓ : TabOk P Γ) {o : Oper} {ev : Operand → VV} {lkf : Nat → Option (List VV)} {n : Nat} {k : Ev → Prop} (h : opv P G Γ o.op ev lkf n k) : ∃ e, EvOk P G o ev lkf n e ∧ k e := by
  have pureCase : ∀ op, o.op = op → bindP (vpure Γ op ev) (fun v => k ⟨v, [], [], 0⟩) → ∃ e, EvOk P G o ev lkf n e ∧ k e := by
    intro op hop hb
    obtain ⟨v, hv, hk⟩ := bindP_elim hb
    exact ⟨_, evok_pure hΓ (by rw [hop]; exact hv), hk⟩
  generalize hop : o.op = op at h
  unfold opv at h
  split at h
  · obtain ⟨r, hr, hk⟩ := bindP_elim h
    exact ⟨_, evok_alloc hΓ hop hr, hk⟩
  · obtain ⟨cs, hc, hk⟩ := bindP_elim h
    exact ⟨_, evok_box hΓ hop hc, hk⟩
  · split at h
    · rename_i hx
      obtain ⟨cs, hc, h⟩ := bindP_elim h
      obtain ⟨v, hv, hk⟩ := bindP_elim h
      exact ⟨_, evok_load hΓ hop hx hc hv, hk⟩
    · rename_i hx
      obtain ⟨v, hv, hk⟩ := bindP_elim h
      exact ⟨_, evok_load_dp hΓ hop hx hv, hk⟩
    · exact h.elim
  · split at h
    · rename_i hx
      obtain ⟨cs, hc, h⟩ := bindP_elim h
      obtain ⟨new, hn, h⟩ := bindP_elim h
      obtain ⟨r, hr, h⟩ := bindP_elim h
      obtain ⟨hb, hk⟩ := onlyIf_elim h
      obtain ⟨h1, h2⟩ := bb hb
      have h1 := Nat.eq_of_beq_eq_true h1
      have h2 := Nat.le_of_ble_eq_true h2
      refine ⟨_, evok_store hΓ hop hx hc hn hr h1 h2, ?_⟩
      rw [condP_eq] at hk
      split at hk
      · rename_i hs
        have hs := Nat.eq_of_beq_eq_true hs
        obtain ⟨v, rfl, hk⟩ := headP_elim (by omega) hk
        rw [show splice cs _ [v] = cs.set _ v from splice_set' (by simp at h2; omega)]
        exact hk
      · rw [condP_eq] at hk
        split at hk
        · rename_i hs
          rw [Bool.and_eq_true] at hs
          have e1 := Nat.eq_of_beq_eq_true hs.1
          have e2 := Nat.eq_of_beq_eq_true hs.2
          subst e1
          rw [splice_whole (by omega)]
          exact hk
        · exact hk
    · exact h.elim
  · obtain ⟨er, he, h⟩ := bindP_elim h
    obtain ⟨hb, h⟩ := onlyIf_elim h
    obtain ⟨h1, h2⟩ := bb hb
    obtain ⟨cs, hc, h⟩ := bindP_elim h
    obtain ⟨h3, hk⟩ := onlyIf_elim h
    exact rowP_ok (evok_buildSlice hΓ (e := er.1) (r := er.2) hop he (Nat.le_of_ble_eq_true h1) (Nat.le_of_ble_eq_true h2) hc (Nat.eq_of_beq_eq_true h3)) hk
  · obtain ⟨er, he, h⟩ := bindP_elim h
    split at h
    · rename_i k1 a k2 b ha hb
      obtain ⟨hb, hk⟩ := onlyIf_elim h
      simp only [Bool.and_eq_true, decide_eq_true_eq] at hb
      obtain ⟨rfl, h1, h2, h3, h4⟩ := hb
      have h1 := Nat.le_of_ble_eq_true h1
      exact rowP_ok (evok_makeSlice hΓ (e := er.1) (r := er.2) hop he h1 ha hb h2 h3 h4) hk
    · exact h.elim
  · split at h
    · rename_i hx
      obtain ⟨⟨N, e, s⟩, ha, h⟩ := bindP_elim h
      obtain ⟨cs, hc, h⟩ := bindP_elim h
      obtain ⟨l, hl, h⟩ := bindP_elim h
      obtain ⟨hh, hhh, h⟩ := bindP_elim h
      obtain ⟨m, hm, h⟩ := bindP_elim h
      obtain ⟨hb, hk⟩ := onlyIf_elim h
      obtain ⟨h1, hb⟩ := bb hb
      obtain ⟨h2, hb⟩ := bb hb
      obtain ⟨h3, hb⟩ := bb hb
      obtain ⟨h4, hb⟩ := bb hb
      obtain ⟨h5, h6⟩ := bb hb
      have h1 := impB h1
      have h2 := Nat.le_of_ble_eq_true h2
      have h3 := Nat.le_of_ble_eq_true h3
      have h4 := Nat.le_of_ble_eq_true h4
      have h5 := Nat.le_of_ble_eq_true h5
      have h6 := Nat.le_of_ble_eq_true h6
      exact ⟨_, evok_slicePtr hΓ hop hx ha hc hl hhh hm h1 h2 h3 h4 h5 h6, hk⟩
    · exact pureCase _ hop h
  · split at h
    · rename_i hx hy
      obtain ⟨r, hr, hk⟩ := h
      exact ⟨_, evok_eqAgg hop hx hy hr, hk⟩
    · exact pureCase _ hop h
  · split at h
    · rename_i hs hd
      obtain ⟨er, he, h⟩ := bindP_elim h
      split at h
      · rename_i s hd2 hx
        exact rowP_ok (evok_str2bytes hΓ (e := er.1) (r := er.2) hop hs he hd2 hx (Nat.le_of_ble_eq_true (onlyIf_elim h).1)) (onlyIf_elim h).2
      · exact h.elim
    · rename_i hs hd
      obtain ⟨er, he, h⟩ := bindP_elim h
      split at h
      · rename_i hd2
        obtain ⟨⟨rd, m, xs⟩, hq, l, hl, hm, hk⟩ := bindP_elim h
        simp only at hl; subst hl
        exact ⟨_, evok_bytes2str hΓ (e := er.1) (r := er.2) hop he hd2 hd hq hm, hk⟩
      · exact h.elim
    · rename_i hs hd
      obtain ⟨er, he, h⟩ := bindP_elim h
      split at h
      · rename_i hd2 hx
        obtain ⟨q1, q2⟩ := onlyIf_elim h
        obtain ⟨cs, hc, q3⟩ := bindP_elim q2
        obtain ⟨hp, hk⟩ := onlyIf_elim q3
        have q4 := Nat.eq_of_beq_eq_true q1
        rw [← q4] at hop
        exact ⟨_, evok_mark hΓ (e := er.1) (r := er.2) hop he hd2 hx hc (Nat.le_of_ble_eq_true hp), hk⟩
      · exact h.elim
    · exact pureCase _ hop h
  · split at h
    · rename_i s x t t' ha ht
      have hh := onlyIf_elim h
      clear h
      obtain ⟨ht', h⟩ := hh
      have ht' := Nat.eq_of_beq_eq_true ht'
      subst ht'
      obtain ⟨er, he, h⟩ := bindP_elim h
      obtain ⟨⟨rd, m, xs⟩, hq, h⟩ := bindP_elim h
      obtain ⟨hb, h⟩ := onlyIf_elim h
      obtain ⟨h1, hb⟩ := bb hb
      obtain ⟨h2, h3⟩ := bb hb
      have h1 := Nat.le_of_ble_eq_true h1
      have h2 := Nat.le_of_ble_eq_true h2
      have h3 := Nat.eq_of_beq_eq_true h3
      rw [arr2 ha, arr2 ht] at hop
      split at h
      · rename_i hs
        have hh := onlyIf_elim h
        clear h
        obtain ⟨hb, h⟩ := hh
        obtain ⟨q1, hb⟩ := bb hb
        obtain ⟨q2, q3⟩ := bb hb
        have q1 := Nat.eq_of_beq_eq_true q1
        have q2 := Nat.eq_of_beq_eq_true q2
        subst q1
        subst q2
        have h4 := neB q3
        obtain ⟨cs, hc, h⟩ := bindP_elim h
        rw [condP_eq] at h
        split at h
        · rename_i hb
          obtain ⟨h5, h6⟩ := bb hb
          have h5 := Nat.eq_of_beq_eq_true h5
          have h6 := Nat.le_of_ble_eq_true h6
          exact rowP_ok (evok_append hΓ (e := er.1) (r := er.2) hop he hs hc h5 hq h3 h1 h2 h6 h4) h
        · obtain ⟨hb, hk⟩ := onlyIf_elim h
          obtain ⟨h5, h6⟩ := bb hb
          have h5 := Nat.le_of_ble_eq_true h5
          have h6 := Nat.le_of_ble_eq_true h6
          exact rowP_ok (evok_append_part hΓ (e := er.1) (r := er.2) hop he hs hc h5 hq h3 h1 h2 h6 h4) hk
      · rename_i hs
        have hh := onlyIf_elim h
        clear h
        obtain ⟨hb, h⟩ := hh
        obtain ⟨q1, hb⟩ := bb hb
        obtain ⟨h4, h5⟩ := bb hb
        have h4 := Nat.eq_of_beq_eq_true h4
        have h5 := Nat.le_of_ble_eq_true h5
        subst q1
        rw [condP_eq] at h
        split at h
        · rename_i hkm
          exact rowP_ok (evok_append_full hΓ (e := er.1) (r := er.2) hop he hs h4 hq h3 h1 h2 h5 (by
            rw [Bool.or_eq_true] at hkm
            rcases hkm with e | e
            · exact .inl (Nat.eq_of_beq_eq_true e)
            · exact .inr (Nat.le_of_ble_eq_true e))) h
        · exact ⟨_, evok_append_ds hΓ (e := er.1) (r := er.2) hop he hs h4 hq h3 h1 h2 h5, h⟩
      · exact h.elim
    · exact h.elim
  · split at h
    · rename_i s x t t' ha ht
      obtain ⟨er, he, h⟩ := bindP_elim h
      obtain ⟨h1, h⟩ := onlyIf_elim h
      have h1 := Nat.eq_of_beq_eq_true h1
      rw [arr2 ha, arr2 ht] at hop
      split at h
      · rename_i hx
        split at h
        · rename_i hs
          obtain ⟨cs, hc, h⟩ := bindP_elim h
          obtain ⟨h3, hk⟩ := onlyIf_elim h
          have h3 := Nat.le_of_ble_eq_true h3
          exact ⟨_, evok_copy_str hΓ (e := er.1) (r := er.2) hop he h1 hs hc hx h3, hk⟩
        · exact h.elim
      · obtain ⟨⟨rd, m, xs⟩, hq, h⟩ := bindP_elim h
        obtain ⟨h2, h⟩ := onlyIf_elim h
        have h2 := Nat.eq_of_beq_eq_true h2
        split at h
        · rename_i hs
          obtain ⟨cs, hc, h⟩ := bindP_elim h
          obtain ⟨h3, hk⟩ := onlyIf_elim h
          have h3 := Nat.le_of_ble_eq_true h3
          exact ⟨_, evok_copy hΓ (e := er.1) (r := er.2) hop he h1 hs hc hq h2 h3, hk⟩
        · exact h.elim
    · exact h.elim
  · split at h
    · rename_i hf
      obtain ⟨e, hr, hk⟩ := h
      exact ⟨e, evok_call hop hf hr, hk⟩
    · exact h.elim
  · split at h
    · rename_i hf
      obtain ⟨g, hm, e, hr, hk⟩ := h
      exact ⟨e, evok_invoke hop hf hm hr, hk⟩
    · exact h.elim
  · exact ⟨_, evok_makeMap hop, h⟩
  · split at h
    · rename_i hx hi
      obtain ⟨cs, hc, kt, et, ht, zv, hz, q, hq, hk⟩ := bindP_elim h
      exact ⟨_, evok_lookup hop hx hi hc ht hz hq, hk⟩
    · exact h.elim
  · split at h
    · rename_i hx hi
      obtain ⟨cs, hc, kt, et, ht, q, hq, hk⟩ := bindP_elim h
      exact ⟨_, evok_mapUpdate hop hx hi hc ht hq, hk⟩
    · exact h.elim
  · split at h
    · rename_i hx hi
      obtain ⟨cs, hc, kt, et, ht, zv, hz, q, hq, hk⟩ := bindP_elim h
      exact ⟨_, evok_mapEntry hop hx hi hc ht hz hq, hk⟩
    · exact h.elim
  · split at h
    · rename_i hx hi
      obtain ⟨cs, hc, i, kd, z, v0, rfl, he, hk⟩ := bindP_elim h
      exact ⟨_, evok_entryStore hop hx hi hc he, hk⟩
    · exact h.elim
  · split at h
    · rename_i hx
      obtain ⟨cs, hc, kt, et, kd, ht, hk⟩ := bindP_elim h
      exact ⟨_, evok_range hop hx hc ht, hk⟩
    · exact pureCase _ hop h
  · split at h
    · rename_i hx
      obtain ⟨hm, j, cs, v, hl, hlm, hv, hk⟩ := h
      rw [condP_eq] at hk
      refine ⟨_, evok_next hop hx hl hlm hv, ?_⟩
      cases e : Nat.beq j cs.length <;> rw [e] at hk <;> exact hk
    · exact pureCase _ hop h
  · split at h
    · rename_i hx
      obtain ⟨hm, j, cs, v, hl, hlm, hv, hj, hk⟩ := h
      exact ⟨_, evok_entry hop hx hl hlm hv hj, hk⟩
    · exact pureCase _ hop h
  · split at h
    · rename_i hx
      exact ⟨_, evok_nilMethod hop hx h.1, h.2⟩
    · exact pureCase _ hop h
  · exact pureCase _ hop h
variable {K : Nat}

def putT (T : List (Nat × VV)) (sz : Nat) (dst : Option Tmp) (v : VV) : List (Nat × VV) := match dst with | some d => (match Nat.blt d sz with | true => (d, v) :: T | false => T) | none => T
def VS.apply (σ : VS) (dst : Option Tmp) (e : Ev) : VS := ⟨putT σ.T σ.sz dst e.v, σ.sz, ups σ.H e.upd, σ.n + e.m⟩
/-- What an event touches. -/
structure Sh where
  rd : List Nat
  dm : List Nat
  m : Nat
def Ev.sh (e : Ev) : Sh := ⟨e.rd, e.upd.map (·.1), e.m⟩
noncomputable def force (v : VV) (k : VV → Prop) : Prop := @VV.casesOn (fun _ => Prop) v
  (fun x => k (.v x)) (fun cs => k (.agg cs)) (fun cs => k (.tup cs)) (fun h o => k (.ptr h o)) (fun h o n w => k (.sl h o n w)) (fun f n es => k (.ds f n es))
  (fun es o => k (.dp es o)) (fun f c => k (.fn f c)) (fun t x => k (.ifc t x)) (fun h => k (.mp h)) (fun h => k (.it h)) (k .any)
theorem force_eq (v : VV) (k : VV → Prop) : force v k = k v := by cases v <;> rfl
abbrev HL := List (Nat × Option (List VV))
noncomputable def forceO (x : Option (List VV)) (k : Option (List VV) → Prop) : Prop := @Option.rec (List VV) (fun _ => Prop) (k none) (fun cs => k (some cs)) x
theorem forceO_eq (x : Option (List VV)) (k : Option (List VV) → Prop) : forceO x k = k x := by cases x <;> rfl
/-- A block's cells turn, in place. -/
noncomputable def setK (h : Nat) (x : Option (List VV)) (H : HL) : (HL → Prop) → Prop :=
  @List.rec (Nat × Option (List VV)) (fun _ => (HL → Prop) → Prop) (fun k => k [(h, x)]) (fun p l ih k => condP (Nat.beq p.1 h) (k ((h, x) :: l)) (ih fun l' => k (p :: l'))) H
theorem setK_eq (h : Nat) (x : Option (List VV)) : ∀ (H : HL) (k : HL → Prop), setK h x H k = k (setL h x H)
  | [], k => rfl
  | p :: l, k => by
    show condP (Nat.beq p.1 h) (k ((h, x) :: l)) (setK h x l fun l' => k (p :: l')) = _
    rw [condP_eq, setK_eq h x l]
    simp only [setL]
    cases Nat.beq p.1 h <;> rfl
noncomputable def forceH (k : HL → Prop) (u : HL) : HL → Prop :=
  @List.rec (Nat × Option (List VV)) (fun _ => HL → Prop) (fun H => k H) (fun p _ ih H => @Prod.rec Nat (Option (List VV)) (fun _ => Prop) (fun h x => forceO x fun x => setK h x H ih) p) u
theorem forceH_eq (k : HL → Prop) : ∀ (u H : HL), forceH k u H = k (ups H u)
  | [], H => rfl
  | (h, x) :: l, H => by
    show (forceO x fun x => setK h x H (forceH k l)) = _
    rw [forceO_eq, setK_eq, forceH_eq k l]
    rfl
noncomputable def forceN (n : Nat) (k : Nat → Prop) : Prop := @Nat.casesOn (fun _ => Prop) n (k 0) (fun j => k (j + 1))
noncomputable def forceM (n m : Nat) (k : Nat → Prop) : Prop := @Nat.casesOn (fun _ => Prop) m (k n) (fun j => forceN (n + (j + 1)) k)
theorem forceM_eq (n m : Nat) (k : Nat → Prop) : forceM n m k = k (n + m) := by
  cases m with
  | zero => rfl
  | succ m => show forceN (n + (m + 1)) k = _; cases n + (m + 1) <;> rfl
def skipEv : Ev := ⟨.tup [], [], [], 0⟩
theorem put_SlR {E : Env} {T : List (Nat × VV)} {a : Act} {sz : Nat} (h : SlR E T a.tmps) (hsz : a.tmps.size = sz) (dst : Option Tmp) {v : VV} {u : Value} (hv : VR E v u) : SlR E (putT T sz dst v) (a.put dst u).tmps := by
  cases dst with
  | none => exact h
  | some d =>
    simp only [putT, Act.put]
    have hold : ∀ t w, t ≠ d → lkt T t = some w → ∃ x, (a.tmps.setIfInBounds d u)[t]? = some x ∧ VR E w x := fun t w ht hw => by
      obtain ⟨x, h1, h2⟩ := h t w hw
      exact ⟨x, by rw [Array.getElem?_setIfInBounds_ne (Ne.symm ht)]; exact h1, h2⟩
    cases hb : Nat.blt d sz with
    | true =>
      have hlt : d < a.tmps.size := by rw [hsz]; simpa [Nat.blt_eq] using hb
      intro t w hw
      rw [lkt_cons] at hw
      split at hw
      · rename_i e; subst e; cases hw
        exact ⟨u, by simp [hlt], hv⟩
      · rename_i e; exact hold t w e hw
    | false =>
      have hge : ¬ d < a.tmps.size := by rw [hsz]; intro hlt; rw [← Nat.blt_eq] at hlt; rw [hb] at hlt; cases hlt
      have : a.tmps.setIfInBounds d u = a.tmps := by simp [Array.setIfInBounds, hge]
      simp only [this]
      exact h
theorem put_size (a : Act) (dst : Option Tmp) (u : Value) : (a.put dst u).tmps.size = a.tmps.size := by cases dst <;> simp [Act.put]
theorem put_defers (a : Act) (dst : Option Tmp) (u : Value) : (a.put dst u).defers = a.defers := by cases dst <;> rfl

/-- The guard of an operation: is it carried out? -/
def guardV (ops : Array Oper) (T : List (Nat × VV)) (o : Oper) : Option Bool :=
  match o.guard with
  | none => some true
  | some (j, want) => match (ops[j]?).bind (·.dst) with
    | some d => match lkt T d with
      | some (.v (.bool b)) => some (match want with | true => b | false => !b)
      | some (.tup []) => some false
      | _ => none
    | none => none
theorem guardV_ok {ops : Array Oper} {E : Env} {T : List (Nat × VV)} {tmps : Array Value} {o : Oper} {b : Bool} (h : guardV ops T o = some b) (hr : ∀ d v, lkt T d = some v → (∃ j want, o.guard = some (j, want) ∧ (ops[j]?).bind (·.dst) = some d) → ∃ u, tmps[d]? = some u ∧ VR E v u) :
    Region.wanted o (yielded ops tmps) = b := by
  unfold guardV at h
  unfold Region.wanted
  split at h
  · rename_i hg; rw [hg]; cases h; rfl
  · rename_i j want hg
    rw [hg]
    split at h
    · rename_i d hd
      split at h
      · rename_i c hc
        obtain ⟨u, h1, h2⟩ := hr d _ hc ⟨j, want, hg, hd⟩
        simp only [VR] at h2; subst h2
        cases h
        simp only [yielded, hd, Option.bind_some, h1]
        cases c <;> cases want <;> rfl
      · rename_i hc
        obtain ⟨u, h1, h2⟩ := hr d _ hc ⟨j, want, hg, hd⟩
        obtain ⟨us, rfl, hu⟩ := h2
        cases h
        simp only [yielded, hd, Option.bind_some, h1]
        cases want <;> rfl
      · cases h
    · cases h

section
variable (P : Program) (Γ : Tab) (G : Globs)
/-- The operations of a region, one by one. -/
noncomputable def regS (ops : Array Oper) : List Oper → VS → List Sh → (List Sh → VS → Prop) → Prop
  | [], σ, sh, K => K sh.reverse σ
  | o :: os, σ, sh, K => bindP (guardV ops σ.T o) fun b => condP b
      (opv P G Γ o.op (evalV G σ.T) (lk σ.H) σ.n fun e => regS ops os (σ.apply o.dst e) (e.sh :: sh) K)
      (regS ops os (σ.apply o.dst skipEv) (skipEv.sh :: sh) K)
/-- The same, so that a machine has little to keep: the recursion is bare, so that all who reduce it see one form. -/
abbrev RegT := List (Nat × VV) → Nat → List (Nat × Option (List VV)) → Nat → List Sh → (List Sh → VS → Prop) → Prop
def regNil : RegT := fun T sz H n sh K => K sh.reverse ⟨T, sz, H, n⟩
noncomputable def dstP (o : Oper) (sz : Nat) (A : Prop) (B : Nat → Prop) : Prop := @Option.rec Tmp (fun _ => Prop) A (fun d => condP (Nat.blt d sz) (B d) A) o.dst
noncomputable def regCons (ops : Array Oper) (o : Oper) (_ : List Oper) (next : RegT) : RegT := fun T sz H n sh K => bindP (guardV ops T o) fun b => condP b
    (opv P G Γ o.op (evalV G T) (lk H) n fun e => @Ev.rec (fun _ => Prop) (fun v rd upd m => forceM n m fun n' => forceH (fun H' => dstP o sz
        (next T sz H' n' (⟨rd, upd.map (·.1), m⟩ :: sh) K) (fun d => force v fun v => next ((d, v) :: T) sz H' n' (⟨rd, upd.map (·.1), m⟩ :: sh) K)) upd H) e)
    (dstP o sz (next T sz H n (⟨[], [], 0⟩ :: sh) K) (fun d => next ((d, .tup []) :: T) sz H n (⟨[], [], 0⟩ :: sh) K))
noncomputable def regv (ops : Array Oper) (os : List Oper) : RegT := @List.rec Oper (fun _ => RegT) regNil (regCons P Γ G ops) os
theorem regv_eq (ops : Array Oper) (K : List Sh → VS → Prop) : ∀ (os : List Oper) (T : List (Nat × VV)) (sz : Nat) (H : List (Nat × Option (List VV))) (n : Nat) (sh : List Sh), regv P Γ G ops os T sz H n sh K = regS P Γ G ops os ⟨T, sz, H, n⟩ sh K
  | [], T, sz, H, n, sh => rfl
  | o :: os, T, sz, H, n, sh => by
    show regCons P Γ G ops o os (regv P Γ G ops os) T sz H n sh K = _
    unfold regCons regS
    congr 1
    funext b
    cases b with
    | true =>
      simp only [condP_eq]
      congr 1
      funext e
      obtain ⟨v, rd, upd, m⟩ := e
      simp only [forceM_eq, forceH_eq, dstP]
      cases hd : o.dst with
      | none => simp only []; rw [regv_eq ops K os]; simp only [VS.apply, putT, Ev.sh]
      | some d =>
        cases hb : Nat.blt d sz with
        | true => simp only [condP_eq, force_eq]; rw [regv_eq ops K os]; simp only [VS.apply, putT, Ev.sh, hb]
        | false => simp only [condP_eq]; rw [regv_eq ops K os]; simp only [VS.apply, putT, Ev.sh, hb]
    | false =>
      simp only [condP_eq, dstP]
      cases hd : o.dst with
      | none => simp only []; rw [regv_eq ops K os]; simp only [VS.apply, putT, Ev.sh, skipEv, ups, Nat.add_zero, List.map_nil]
      | some d =>
        cases hb : Nat.blt d sz with
        | true => simp only [condP_eq]; rw [regv_eq ops K os]; simp only [VS.apply, putT, Ev.sh, skipEv, ups, Nat.add_zero, List.map_nil, hb]
        | false => simp only [condP_eq, VS.apply, putT, Ev.sh, skipEv, ups, Nat.add_zero, List.map_nil, hb]; exact regv_eq ops K os _ _ _ _ _
/-- What is known of the steps of a region. -/
def StepOk (ops : Array Oper) (o : Oper) (σ : VS) (e : Ev) : Prop :=
  (guardV ops σ.T o = some true ∧ EvOk P G o (evalV G σ.T) (lk σ.H) σ.n e) ∨ (guardV ops σ.T o = some false ∧ e = skipEv)
def Chain (ops : Array Oper) : List Oper → VS → List Ev → VS → Prop
  | [], σ, es, σ' => es = [] ∧ σ' = σ
  | o :: os, σ, es, σ' => ∃ e es', es = e :: es' ∧ StepOk P G ops o σ e ∧ Chain ops os (σ.apply o.dst e) es' σ'
end
section
variable {P : Program} {Γ : Tab} {G : Globs}
theorem regS_chain (hΓ : TabOk P Γ) {ops : Array Oper} {K : List Sh → VS → Prop} : ∀ (os : List Oper) (σ : VS) (sh : List Sh), regS P Γ G ops os σ sh K → ∃ es σ', Chain P G ops os σ es σ' ∧ K (sh.reverse ++ es.map (·.sh)) σ'
  | [], σ, sh, h => ⟨[], σ, ⟨rfl, rfl⟩, by simpa [regS] using h⟩
  | o :: os, σ, sh, h => by
    unfold regS at h
    obtain ⟨b, hb, h⟩ := bindP_elim h
    cases b with
    | true =>
      replace h : opv P G Γ o.op (evalV G σ.T) (lk σ.H) σ.n fun e => regS P Γ G ops os (σ.apply o.dst e) (e.sh :: sh) K := h
      obtain ⟨e, h1, h2⟩ := opv_ok hΓ h
      obtain ⟨es, σ', h3, h4⟩ := regS_chain hΓ os _ _ h2
      exact ⟨e :: es, σ', ⟨e, es, rfl, .inl ⟨hb, h1⟩, h3⟩, by simpa using h4⟩
    | false =>
      obtain ⟨es, σ', h3, h4⟩ := regS_chain hΓ os _ _ h
      exact ⟨skipEv :: es, σ', ⟨_, es, rfl, .inr ⟨hb, rfl⟩, h3⟩, by simpa using h4⟩
theorem regv_chain (hΓ : TabOk P Γ) {ops : Array Oper} {K : List Sh → VS → Prop} {σ : VS} (h : regv P Γ G ops ops.toList σ.T σ.sz σ.H σ.n [] K) : ∃ es σ', Chain P G ops ops.toList σ es σ' ∧ K (es.map (·.sh)) σ' := by
  rw [regv_eq] at h
  obtain ⟨es, σ', h1, h2⟩ := regS_chain hΓ _ _ _ h
  exact ⟨es, σ', h1, by simpa using h2⟩

/-- One step of a region, carried out at its place. -/
theorem step_St {σ : VS} {c : Cf} {a : Act} {o : Oper} {e : Ev} {u : Value} {w' : World} (hs : St G c σ a) (h : Leaves c σ.n e u w') : ∃ c', c'.w = w' ∧ St G c' (σ.apply o.dst e) (a.put o.dst u) ∧ Le c c' := by
  obtain ⟨c', h1, h2, h3, h4, h5, h6⟩ := h
  refine ⟨c', h1, ⟨put_SlR (hs.tmps.keep h5.keep) hs.size _ h4, by rw [put_size]; exact hs.size, by rw [put_defers]; exact hs.defers, ?_, h2, fun x hx => ?_, St.keep_glob hs.glob h5⟩, h5⟩
  · simp only [VS.apply]; rw [lk_ups, h3, hs.look]
  · simp only [VS.apply] at hx
    cases hq : c'.ρ x with
    | none => rfl
    | some y =>
      rcases h6 x (by rw [hq]; simp) with h7 | h7
      · exact absurd (hs.fresh x (by omega)) h7
      · omega
theorem step_skip_St {σ : VS} {c : Cf} {a : Act} {o : Oper} (hs : St G c σ a) : St G c (σ.apply o.dst skipEv) (a.put o.dst undef) :=
  ⟨put_SlR hs.tmps hs.size _ ⟨[], rfl, rfl⟩, by rw [put_size]; exact hs.size, by rw [put_defers]; exact hs.defers, hs.look, hs.heap, hs.fresh, hs.glob⟩

theorem chain_list {ops : Array Oper} {Q : Exit → Act → World → Prop} {σ' : VS} : ∀ (os : List Oper) (σ : VS) (es : List Ev) (c : Cf) (a : Act), Chain P G ops os σ es σ' → St G c σ a →
    (∀ c' a', St G c' σ' a' → LeW K c c' → Q .normal a' c'.w) → wpList P ops Q os a c.w
  | [], σ, es, c, a, h, hs, hq => by
    obtain ⟨_, rfl⟩ := h
    exact hq c a hs (LeW.refl c)
  | o :: os, σ, es, c, a, h, hs, hq => by
    obtain ⟨e, es', rfl, h1, h2⟩ := h
    have hg : ∀ b, guardV ops σ.T o = some b → Region.wanted o (yielded ops a.tmps) = b := fun b hb => guardV_ok hb fun d v hd _ => hs.tmps d v hd
    unfold wpList
    rcases h1 with ⟨hb, h1⟩ | ⟨hb, rfl⟩
    · rw [if_pos (hg true hb)]
      refine .inl ((h1.goes c a hs.heap hs.glob (fun x _ => evalV_ok hs.tmps hs.glob x) (fun x _ => by rw [hs.look]) (fun i hi => hs.fresh _ (by omega))).wp fun u w' hl => ?_)
      obtain ⟨c', hw, hs', hle⟩ := step_St (o := o) hs hl
      subst hw
      exact chain_list os _ es' c' _ h2 hs' fun c'' a' hs'' hle' => hq c'' a' hs'' (hle.w.trans hle')
    · rw [if_neg (by rw [hg false hb]; simp)]
      exact chain_list os _ es' c _ h2 (step_skip_St hs) hq

theorem vwp_region_seq (hΓ : TabOk P Γ) {id : Nat} {ops : Array Oper} {Q : Exit → VS → Prop} {σ : VS} (h : regv P Γ G ops ops.toList σ.T σ.sz σ.H σ.n [] fun _ σ' => Q .normal σ') : VWP P G K (.region id ops false) Q σ := by
  refine ⟨fun c a hs => ?_⟩
  obtain ⟨es, σ', h1, h2⟩ := regv_chain hΓ h
  exact wp_region_list (chain_list _ σ es c a h1 hs fun c' a' hs' hle => ⟨c', σ', rfl, h2, hs', hle⟩)
end

def runTo : List (Oper × Ev) → VS → VS
  | [], σ => σ
  | (o, e) :: l, σ => runTo l (σ.apply o.dst e)
def dom (e : Ev) (h : Nat) : Bool := e.upd.any fun p => p.1 == h
def updVal (e : Ev) (h : Nat) : Option (List VV) := fup (fun _ => none) e.upd h
theorem fup_other : ∀ (u : List (Nat × Option (List VV))) (f : Nat → Option (List VV)) (h : Nat), (u.any fun p => p.1 == h) = false → fup f u h = f h
  | [], f, h, _ => rfl
  | (k, x) :: u, f, h, hh => by
    simp only [List.any_cons, Bool.or_eq_false_iff, beq_eq_false_iff_ne] at hh
    simp only [fup]
    rw [fup_other u _ h hh.2, if_neg (Ne.symm hh.1)]
theorem fup_dom : ∀ (u : List (Nat × Option (List VV))) (f g : Nat → Option (List VV)) (h : Nat), (u.any fun p => p.1 == h) = true → fup f u h = fup g u h
  | [], f, g, h, hh => by simp at hh
  | (k, x) :: u, f, g, h, hh => by
    simp only [fup]
    by_cases hu : (u.any fun p => p.1 == h) = true
    · exact fup_dom u _ _ h hu
    · have hu' : (u.any fun p => p.1 == h) = false := Bool.eq_false_iff.2 hu
      rw [fup_other u _ h hu', fup_other u _ h hu']
      simp only [List.any_cons, hu', Bool.or_false, beq_iff_eq] at hh
      rw [if_pos hh.symm, if_pos hh.symm]
theorem fup_old {e : Ev} {h : Nat} (hh : dom e h = false) (f : Nat → Option (List VV)) : fup f e.upd h = f h := fup_other _ _ _ hh
theorem fup_new {e : Ev} {h : Nat} (hh : dom e h = true) (f : Nat → Option (List VV)) : fup f e.upd h = updVal e h := fup_dom _ _ _ _ hh

theorem putT_ne {T : List (Nat × VV)} {sz : Nat} {d : Option Tmp} {v : VV} {t : Nat} (h : d ≠ some t) : lkt (putT T sz d v) t = lkt T t := by
  cases d with
  | none => rfl
  | some d =>
    simp only [putT]
    cases Nat.blt d sz with
    | true => simp only []; rw [lkt_cons, if_neg]; rintro rfl; exact h rfl
    | false => rfl
theorem putT_eq {T : List (Nat × VV)} {sz d : Nat} {v : VV} (h : d < sz) : lkt (putT T sz (some d) v) d = some v := by
  simp only [putT]
  rw [← Nat.blt_eq] at h
  rw [h]
  simp only []
  rw [lkt_cons, if_pos rfl]
theorem putT_range {T : List (Nat × VV)} {sz : Nat} (h : ∀ t v, lkt T t = some v → t < sz) (d : Option Tmp) (x : VV) : ∀ t v, lkt (putT T sz d x) t = some v → t < sz := by
  intro t v ht
  cases d with
  | none => exact h t v ht
  | some d =>
    simp only [putT] at ht
    cases hb : Nat.blt d sz with
    | true =>
      rw [hb] at ht
      simp only [] at ht
      rw [lkt_cons] at ht
      split at ht
      · rename_i e; subst e; rwa [Nat.blt_eq] at hb
      · exact h t v ht
    | false => rw [hb] at ht; exact h t v ht
theorem runTo_sz : ∀ (L : List (Oper × Ev)) (σ : VS), (runTo L σ).sz = σ.sz
  | [], σ => rfl
  | (o, e) :: L, σ => by simp only [runTo]; rw [runTo_sz L]; rfl
theorem runTo_T_range : ∀ (L : List (Oper × Ev)) (σ : VS), (∀ t v, lkt σ.T t = some v → t < σ.sz) → ∀ t v, lkt (runTo L σ).T t = some v → t < σ.sz
  | [], σ, h, t, v, ht => h t v ht
  | (o, e) :: L, σ, h, t, v, ht => by
    simp only [runTo] at ht
    exact runTo_T_range L (σ.apply o.dst e) (putT_range h o.dst e.v) t v ht
theorem runTo_T_old : ∀ (L : List (Oper × Ev)) (σ : VS) (t : Nat), (∀ p ∈ L, p.1.dst ≠ some t) → lkt (runTo L σ).T t = lkt σ.T t
  | [], σ, t, _ => rfl
  | (o, e) :: L, σ, t, h => by
    simp only [runTo]
    rw [runTo_T_old L _ t (fun p hp => h p (by simp [hp]))]
    exact putT_ne (h (o, e) (by simp))
theorem runTo_T_val : ∀ (L : List (Oper × Ev)) (σ : VS) (t i : Nat) (o : Oper) (e : Ev), L[i]? = some (o, e) → o.dst = some t → (∀ (j : Nat) (p : Oper × Ev), j ≠ i → L[j]? = some p → p.1.dst ≠ some t) → t < σ.sz →
    lkt (runTo L σ).T t = some e.v
  | [], σ, t, i, o, e, h, _, _, _ => by simp at h
  | (o', e') :: L, σ, t, 0, o, e, h, hd, hu, ht => by
    simp at h; obtain ⟨rfl, rfl⟩ := h
    simp only [runTo]
    rw [runTo_T_old L _ t (fun p hp => by
      obtain ⟨j, hj⟩ := List.getElem?_of_mem hp
      exact hu (j + 1) p (by omega) (by simpa using hj))]
    simp only [VS.apply, hd]
    exact putT_eq ht
  | (o', e') :: L, σ, t, i + 1, o, e, h, hd, hu, ht => by
    simp only [runTo]
    exact runTo_T_val L _ t i o e (by simpa using h) hd (fun j p hj hp => hu (j + 1) p (by omega) (by simpa using hp)) ht
theorem runTo_look_old : ∀ (L : List (Oper × Ev)) (σ : VS) (h : Nat), (∀ p ∈ L, dom p.2 h = false) → lk (runTo L σ).H h = lk σ.H h
  | [], σ, h, _ => rfl
  | (o, e) :: L, σ, h, hh => by
    simp only [runTo]
    rw [runTo_look_old L _ h (fun p hp => hh p (by simp [hp]))]
    simp only [VS.apply]
    rw [lk_ups, fup_old (hh (o, e) (by simp))]
theorem runTo_look_upd : ∀ (L : List (Oper × Ev)) (σ : VS) (h i : Nat) (o : Oper) (e : Ev), L[i]? = some (o, e) → dom e h = true → (∀ (j : Nat) (p : Oper × Ev), i < j → L[j]? = some p → dom p.2 h = false) → lk (runTo L σ).H h = updVal e h
  | [], σ, h, i, o, e, hi, _, _ => by simp at hi
  | (o', e') :: L, σ, h, 0, o, e, hi, hd, hu => by
    simp at hi; obtain ⟨rfl, rfl⟩ := hi
    simp only [runTo]
    rw [runTo_look_old L _ h (fun p hp => by
      obtain ⟨j, hj⟩ := List.getElem?_of_mem hp
      exact hu (j + 1) p (by omega) (by simpa using hj))]
    simp only [VS.apply]
    rw [lk_ups, fup_new hd]
  | (o', e') :: L, σ, h, i + 1, o, e, hi, hd, hu => by
    simp only [runTo]
    exact runTo_look_upd L _ h i o e (by simpa using hi) hd (fun j p hj hp => hu (j + 1) p (by omega) (by simpa using hp))
theorem runTo_append : ∀ (L M : List (Oper × Ev)) (σ : VS), runTo (L ++ M) σ = runTo M (runTo L σ)
  | [], M, σ => rfl
  | (o, e) :: L, M, σ => by simp only [List.cons_append, runTo]; exact runTo_append L M _
theorem runTo_n_le : ∀ (L : List (Oper × Ev)) (σ : VS), σ.n ≤ (runTo L σ).n
  | [], σ => Nat.le_refl _
  | (o, e) :: L, σ => by simp only [runTo]; exact Nat.le_trans (by simp [VS.apply]) (runTo_n_le L _)
def nAt (L : List (Oper × Ev)) (σ : VS) (i : Nat) : Nat := (runTo (L.take i) σ).n
theorem nAt_step {L : List (Oper × Ev)} {σ : VS} {i : Nat} {o : Oper} {e : Ev} (h : L[i]? = some (o, e)) : nAt L σ (i + 1) = nAt L σ i + e.m := by
  unfold nAt
  rw [List.take_add_one, h, runTo_append]
  simp [runTo, VS.apply]
theorem nAt_mono {L : List (Oper × Ev)} {σ : VS} {i j : Nat} (h : i ≤ j) : nAt L σ i ≤ nAt L σ j := by
  unfold nAt
  have : L.take j = L.take i ++ (L.take j).drop i := by
    have := (List.take_append_drop i (L.take j)).symm
    rwa [List.take_take, Nat.min_eq_left h] at this
  rw [this, runTo_append]
  exact runTo_n_le _ _

theorem chain_at {P : Program} {G : Globs} {ops : Array Oper} : ∀ (os : List Oper) (σ : VS) (es : List Ev) (σ' : VS), Chain P G ops os σ es σ' → es.length = os.length ∧ σ' = runTo (os.zip es) σ ∧
    ∀ (i : Nat) (o : Oper) (e : Ev), (os.zip es)[i]? = some (o, e) → StepOk P G ops o (runTo ((os.zip es).take i) σ) e
  | [], σ, es, σ', h => by
    obtain ⟨rfl, rfl⟩ := h
    exact ⟨rfl, rfl, fun i o e hi => by simp at hi⟩
  | o :: os, σ, es, σ', h => by
    obtain ⟨e, es', rfl, h1, h2⟩ := h
    obtain ⟨h3, h4, h5⟩ := chain_at os _ es' σ' h2
    refine ⟨by simp [h3], by simp only [List.zip_cons_cons, runTo]; exact h4, fun i o' e' hi => ?_⟩
    cases i with
    | zero =>
      simp at hi; obtain ⟨rfl, rfl⟩ := hi
      simpa [runTo] using h1
    | succ i =>
      simp only [List.zip_cons_cons, List.take_succ_cons, runTo]
      exact h5 i o' e' (by simpa using hi)

def noDup : List Nat → Bool
  | [] => true
  | x :: l => !l.contains x && noDup l
def dsts (ops : Array Oper) : List Nat := ops.toList.filterMap (·.dst)
def ordered (b : Array Nat) (i j : Nat) : Bool := if j < i then (b.getD i 0).testBit j else (b.getD j 0).testBit i
/-- Two operations of a region in whatever order. -/
def pairOk (ops : Array Oper) (o : Oper) (e : Sh) (o' : Oper) (e' : Sh) : Bool :=
  (match o'.dst with | some d => !(o.looksAt ops).contains d | none => true) && e'.dm.all fun h => !e.rd.contains h && !e.dm.contains h
def regOk (ops : Array Oper) (es : List Sh) : Bool :=
  noDup (dsts ops) && es.length == ops.size &&
  (let b := Region.before ops
   (List.range ops.size).all fun i => match ops[i]?, es[i]? with
    | some o, some e => (o.after.all fun x => !Region.binds .any x || decide (x.on < i)) &&
        (List.range ops.size).all fun j => j == i || match ops[j]?, es[j]? with
          | some o', some e' => pairOk ops o e o' e' || ordered b i j
          | _, _ => false
    | _, _ => false)

/-- What is always ahead of an operation is listed. -/
theorem before_listed {ops : Array Oper} {S : Nat → Prop} (hS : ∀ (i : Nat) (o : Oper), ops[i]? = some o → S i → ∀ x ∈ o.after, Region.binds .any x = true → S x.on)
    {i : Nat} {o : Oper} (ho : ops[i]? = some o) (hi : ∀ x ∈ o.after, Region.binds .any x = true → S x.on) {j : Nat} (hj : ((Region.before ops).getD i 0).testBit j = true) : S j := by
  have key : ∀ (os : List Oper) (acc : Array Nat) (m : Nat), acc.size = m → (∀ k, os[k]? = ops[m + k]?) →
      (∀ k o, k < m → ops[k]? = some o → (∀ x ∈ o.after, Region.binds .any x = true → S x.on) → ∀ j, (acc.getD k 0).testBit j = true → S j) →
      ∀ k o, ops[k]? = some o → (∀ x ∈ o.after, Region.binds .any x = true → S x.on) → ∀ j, ((os.foldl (init := acc) fun acc o =>
        acc.push (o.after.foldl (fun s e => if Region.binds .any e then s ||| 2 ^ e.on ||| acc.getD e.on 0 else s) 0)).getD k 0).testBit j = true → S j := by
    intro os
    induction os with
    | nil =>
      intro acc m hm hos hacc k o hk hx j hj
      have hlt : k < m := by
        rcases Nat.lt_or_ge k m with h | h
        · exact h
        · have := hos (k - m)
          rw [show m + (k - m) = k by omega, hk] at this
          simp at this
      exact hacc k o hlt hk hx j hj
    | cons q os ih =>
      intro acc m hm hos hacc k o hk hx j hj
      rw [List.foldl_cons] at hj
      have hq : ops[m]? = some q := by have := hos 0; simpa using this.symm
      refine ih _ (m + 1) (by simp [hm]) (fun k => by have := hos (k + 1); rw [show m + 1 + k = m + (k + 1) by omega]; simpa using this) ?_ k o hk hx j hj
      intro k' o' hk' ho' hx' j' hj'
      rcases Nat.lt_or_ge k' m with h | h
      · refine hacc k' o' h ho' hx' j' ?_
        rw [Array.getD_eq_getD_getElem?, Array.getElem?_push, if_neg (by omega)] at hj'
        rw [Array.getD_eq_getD_getElem?]; exact hj'
      · have hkm : k' = m := by omega
        subst hkm
        rw [hq] at ho'; cases ho'
        rw [Array.getD_eq_getD_getElem?, Array.getElem?_push, if_pos (by omega)] at hj'
        simp only [Option.getD_some] at hj'
        rw [← Array.foldl_toList] at hj'
        -- bit by bit
        have inner : ∀ (l : List Edge) (s : Nat), (∀ x ∈ l, Region.binds .any x = true → S x.on) → (l.foldl (fun s e => if Region.binds .any e then s ||| 2 ^ e.on ||| acc.getD e.on 0 else s) s).testBit j' = true → s.testBit j' = true ∨ S j' := by
          intro l
          induction l with
          | nil => intro s _ h; exact .inl h
          | cons x l ihl =>
            intro s hl h
            rw [List.foldl_cons] at h
            rcases ihl _ (fun y hy => hl y (by simp [hy])) h with h1 | h1
            · split at h1
              · rename_i hb
                have hSx := hl x (by simp) hb
                rw [Nat.testBit_or, Nat.testBit_or, Bool.or_eq_true, Bool.or_eq_true] at h1
                rcases h1 with (h1 | h1) | h1
                · exact .inl h1
                · have : x.on = j' := by
                    rw [Nat.testBit_two_pow] at h1; simpa using h1
                  exact .inr (this ▸ hSx)
                · refine .inr ?_
                  rcases Nat.lt_or_ge x.on acc.size with h2 | h2
                  · have h3 : x.on < k' := by omega
                    rcases ho2 : ops[x.on]? with _ | o2
                    · have := (Array.getElem?_eq_some_iff.1 hq).1
                      simp at ho2; omega
                    · exact hacc x.on o2 h3 ho2 (hS x.on o2 ho2 hSx) j' h1
                  · simp [Array.getElem?_eq_none h2] at h1
              · exact .inl h1
            · exact .inr h1
        rcases inner q.after.toList 0 (fun x hx2 => hx' x (by simpa using hx2)) hj' with h1 | h1
        · simp at h1
        · exact h1
  have := key ops.toList #[] 0 rfl (fun k => by simp) (fun k o hk => by omega) i o ho hi j
  refine this ?_
  unfold Region.before at hj
  rw [← Array.foldl_toList] at hj
  exact hj
/-- Either none, or a last one. -/
theorem last_or (p : Nat → Bool) : ∀ k, (∀ i, i < k → p i = false) ∨ ∃ i, i < k ∧ p i = true ∧ ∀ j, i < j → j < k → p j = false
  | 0 => .inl fun i hi => by omega
  | k + 1 => by
    cases hk : p k with
    | true => exact .inr ⟨k, by omega, hk, fun j h1 h2 => by omega⟩
    | false =>
      rcases last_or p k with h | ⟨i, h1, h2, h3⟩
      · refine .inl fun i hi => ?_
        by_cases e : i = k
        · subst e; exact hk
        · exact h i (by omega)
      · refine .inr ⟨i, by omega, h2, fun j h4 h5 => ?_⟩
        by_cases e : j = k
        · subst e; exact hk
        · exact h3 j h4 (by omega)

theorem noDup_pairwise : ∀ {l : List Nat}, noDup l = true → l.Pairwise (· ≠ ·)
  | [], _ => List.Pairwise.nil
  | x :: l, h => by
    simp [noDup] at h
    exact List.Pairwise.cons (fun y hy e => h.1 (e ▸ hy)) (noDup_pairwise h.2)
theorem dst_uniq {ops : Array Oper} {i j : Nat} {oi oj : Oper} {d : Tmp} (h : noDup (dsts ops) = true) (hi : ops[i]? = some oi) (hj : ops[j]? = some oj) (di : oi.dst = some d) (dj : oj.dst = some d) : i = j := by
  have hp := noDup_pairwise h
  unfold dsts at hp
  rw [List.pairwise_filterMap, List.pairwise_iff_getElem] at hp
  have key : ∀ (i j : Nat) (oi oj : Oper), i < j → ops[i]? = some oi → ops[j]? = some oj → oi.dst = some d → oj.dst = some d → False := by
    intro i j oi oj hlt hi hj di dj
    obtain ⟨h1, e1⟩ := Array.getElem?_eq_some_iff.1 hi
    obtain ⟨h2, e2⟩ := Array.getElem?_eq_some_iff.1 hj
    refine hp i j (by simpa using h1) (by simpa using h2) hlt d ?_ d ?_ rfl
    · simpa [e1] using di
    · simpa [e2] using dj
  rcases Nat.lt_trichotomy i j with hlt | he | hgt
  · exact (key i j oi oj hlt hi hj di dj).elim
  · exact he
  · exact (key j i oj oi hgt hj hi dj di).elim

structure RI (ops : Array Oper) (es : List Ev) (G : Globs) (σ0 : VS) (c0 : Cf) (listed : Array Bool) (c : Cf) (a : Act) : Prop where
  lsize : listed.size = ops.size
  le : Le c0 c
  heap : HRel c
  defers : a.defers = []
  size : a.tmps.size = σ0.sz
  inr : ∀ t v, lkt σ0.T t = some v → t < σ0.sz
  closed : ∀ (i : Nat) (o : Oper), ops[i]? = some o → listed.getD i false = true → ∀ x ∈ o.after, Region.binds .any x = true → listed.getD x.on false = true
  old : ∀ t x, (∀ (i : Nat) (o : Oper), ops[i]? = some o → listed.getD i false = true → o.dst ≠ some t) → lkt σ0.T t = some x → ∃ u, a.tmps[t]? = some u ∧ VR c.env x u
  val : ∀ (i : Nat) (o : Oper) (e : Ev) d, ops[i]? = some o → es[i]? = some e → listed.getD i false = true → o.dst = some d → d < σ0.sz → ∃ u, a.tmps[d]? = some u ∧ VR c.env e.v u
  look : ∀ h, (∀ (i : Nat) (e : Ev), es[i]? = some e → listed.getD i false = true → dom e h = false) → c.look h = lk σ0.H h
  upd : ∀ h (i : Nat) (e : Ev), es[i]? = some e → listed.getD i false = true → dom e h = true → (∀ (j : Nat) (e' : Ev), i < j → es[j]? = some e' → listed.getD j false = true → dom e' h = false) → c.look h = updVal e h
  fresh : ∀ (i : Nat) (e : Ev), es[i]? = some e → listed.getD i false = false → ∀ q, q < e.m → c.ρ (nAt (ops.toList.zip es) σ0 i + q) = none
  free : ∀ h, nAt (ops.toList.zip es) σ0 ops.size ≤ h → c.ρ h = none
  glob : ∀ g es, G g = some es → VR c.env (.dp es 0) (.pointer (some ⟨g, 0, none⟩))

theorem listed_set {listed : Array Bool} {i j : Nat} (hi : i < listed.size) : (listed.setIfInBounds i true).getD j false = (if j = i then true else listed.getD j false) := by
  by_cases h : j = i
  · subst h; simp [hi]
  · rw [if_neg h, getD_set_ne false (Ne.symm h)]

section
variable {P : Program} {Γ : Tab} {G : Globs} {ops : Array Oper} {es : List Ev} {σ0 : VS} {c0 : Cf}

structure RC (P : Program) (G : Globs) (ops : Array Oper) (es : List Ev) (σ0 : VS) : Prop where
  len : es.length = ops.size
  nodup : noDup (dsts ops) = true
  after : ∀ (i : Nat) (o : Oper), ops[i]? = some o → ∀ x ∈ o.after, Region.binds .any x = true → x.on < i
  pair : ∀ (i j : Nat) (o o' : Oper) (e e' : Ev), ops[i]? = some o → es[i]? = some e → ops[j]? = some o' → es[j]? = some e' → j ≠ i → pairOk ops o e.sh o' e'.sh = true ∨ ordered (Region.before ops) i j = true
  step : ∀ (i : Nat) (o : Oper) (e : Ev), ops[i]? = some o → es[i]? = some e → StepOk P G ops o (runTo ((ops.toList.zip es).take i) σ0) e

theorem zip_at {i : Nat} {o : Oper} {e : Ev} (ho : ops[i]? = some o) (he : es[i]? = some e) : (ops.toList.zip es)[i]? = some (o, e) := by
  simp [List.getElem?_zip_eq_some, ho, he]
theorem zip_of {i : Nat} {p : Oper × Ev} (h : (ops.toList.zip es)[i]? = some p) : ops[i]? = some p.1 ∧ es[i]? = some p.2 := by
  rw [List.getElem?_zip_eq_some] at h
  simpa using h

theorem RC.of {σ' : VS} (hc : Chain P G ops ops.toList σ0 es σ') (hr : regOk ops (es.map (·.sh)) = true) : RC P G ops es σ0 := by
  obtain ⟨h1, h2, h3⟩ := chain_at _ _ _ _ hc
  simp only [regOk, Bool.and_eq_true, beq_iff_eq] at hr
  obtain ⟨⟨r1, r2⟩, r3⟩ := hr
  have hmap : ∀ (i : Nat) (e : Ev), es[i]? = some e → (es.map (·.sh))[i]? = some e.sh := fun i e h => by simp [h]
  rw [List.length_map] at r2
  have key : ∀ (i : Nat) (o : Oper) (e : Ev), ops[i]? = some o → es[i]? = some e → (o.after.all fun x => !Region.binds .any x || decide (x.on < i)) = true ∧
      ∀ j, j < ops.size → (j == i || match ops[j]?, (es.map (·.sh))[j]? with | some o', some e' => pairOk ops o e.sh o' e' || ordered (Region.before ops) i j | _, _ => false) = true := by
    intro i o e ho he
    have := List.all_eq_true.1 r3 i (List.mem_range.2 (Array.getElem?_eq_some_iff.1 ho).1)
    simp only [ho, hmap i e he, Bool.and_eq_true] at this
    exact ⟨this.1, fun j hj => List.all_eq_true.1 this.2 j (List.mem_range.2 hj)⟩
  refine ⟨r2, r1, fun i o ho x hx hb => ?_, fun i j o o' e e' ho he ho' he' hne => ?_, fun i o e ho he => h3 i o e (zip_at ho he)⟩
  · have he : es[i]? = some (es[i]'(by rw [r2]; exact (Array.getElem?_eq_some_iff.1 ho).1)) := by simp
    have := (key i o _ ho he).1
    rw [Array.all_eq_true_iff_forall_mem] at this
    have := this x hx
    simp [hb] at this
    exact this
  · have := (key i o e ho he).2 j (Array.getElem?_eq_some_iff.1 ho').1
    simp only [ho', hmap j e' he', Bool.or_eq_true, beq_iff_eq] at this
    rcases this with h | h | h
    · exact absurd h hne
    · exact .inl h
    · exact .inr h

variable (C : RC P G ops es σ0)
include C
/-- Operation j is carried out now: those that must be ahead of it have been, those that must be behind it have not. -/
theorem RC.order {listed : Array Bool} {c : Cf} {a : Act} (I : RI ops es G σ0 c0 listed c a) {j : Nat} {o : Oper} (ho : ops[j]? = some o) (hpre : ∀ x ∈ o.after, Region.binds .any x = true → listed.getD x.on false = true) (hj : listed.getD j false = false)
    {i : Nat} {o' : Oper} (ho' : ops[i]? = some o') (hne : i ≠ j) (hord : ordered (Region.before ops) j i = true) : (i < j ∧ listed.getD i false = true) ∨ (j < i ∧ listed.getD i false = false) := by
  unfold ordered at hord
  have hcl : ∀ (i : Nat) (o : Oper), ops[i]? = some o → listed.getD i false = true → ∀ x ∈ o.after, Region.binds .any x = true → listed.getD x.on false = true := I.closed
  split at hord
  · rename_i hlt
    exact .inl ⟨hlt, before_listed (S := fun i => listed.getD i false = true) hcl ho hpre hord⟩
  · rename_i hlt
    refine .inr ⟨by omega, ?_⟩
    cases hl : listed.getD i false with
    | false => rfl
    | true =>
      have := before_listed (S := fun i => listed.getD i false = true) hcl ho' (hcl i o' ho' hl) hord
      rw [hj] at this; cases this

/-- A slot that operation j looks at holds what it holds when the operations are carried out one by one. -/
theorem RC.tmp {listed : Array Bool} {c : Cf} {a : Act} (I : RI ops es G σ0 c0 listed c a) {j : Nat} {o : Oper} {e : Ev} (ho : ops[j]? = some o) (he : es[j]? = some e) (hpre : ∀ x ∈ o.after, Region.binds .any x = true → listed.getD x.on false = true) (hj : listed.getD j false = false)
    {t : Tmp} (ht : t ∈ o.looksAt ops) {v : VV} (hv : lkt (runTo ((ops.toList.zip es).take j) σ0).T t = some v) : ∃ u, a.tmps[t]? = some u ∧ VR c.env v u := by
  have hlt : t < σ0.sz := runTo_T_range _ _ I.inr t v hv
  by_cases hex : ∃ (i : Nat) (o' : Oper), i ≠ j ∧ ops[i]? = some o' ∧ o'.dst = some t
  · obtain ⟨i, o', hne, ho', hd⟩ := hex
    have hi' : i < es.length := by rw [C.len]; exact (Array.getElem?_eq_some_iff.1 ho').1
    have he' : es[i]? = some es[i] := by simp [hi']
    have hord : ordered (Region.before ops) j i = true := by
      rcases C.pair j i o o' e _ ho he ho' he' hne with h | h
      · simp only [pairOk, hd, Bool.and_eq_true] at h
        have h1 := h.1
        simp at h1
        exact absurd ht h1
      · exact h
    rcases C.order I ho hpre hj ho' hne hord with ⟨h1, h2⟩ | ⟨h1, h2⟩
    · have hz := zip_at (es := es) ho' he'
      rw [runTo_T_val _ σ0 t i o' es[i] (by rw [List.getElem?_take, if_pos h1]; exact hz) hd (fun k p hk hp => by
        rw [List.getElem?_take] at hp
        split at hp
        · obtain ⟨q1, _⟩ := zip_of hp
          intro hd2
          exact hk (dst_uniq C.nodup q1 ho' hd2 hd)
        · cases hp) hlt] at hv
      cases hv
      exact I.val i o' _ t ho' he' h2 hd hlt
    · rw [runTo_T_old _ _ _ fun p hp => by
        obtain ⟨k, hk⟩ := List.getElem?_of_mem hp
        rw [List.getElem?_take] at hk
        split at hk
        · rename_i hkj
          obtain ⟨q1, _⟩ := zip_of hk
          intro hd2
          have := dst_uniq C.nodup q1 ho' hd2 hd
          omega
        · cases hk] at hv
      refine I.old t v (fun k ok hk hlk hdk => ?_) hv
      have := dst_uniq C.nodup hk ho' hdk hd
      subst this
      rw [h2] at hlk; cases hlk
  · rw [runTo_T_old _ _ _ fun p hp => by
      obtain ⟨k, hk⟩ := List.getElem?_of_mem hp
      rw [List.getElem?_take] at hk
      split at hk
      · rename_i hkj
        obtain ⟨q1, _⟩ := zip_of hk
        intro hd2
        exact hex ⟨k, p.1, by omega, q1, hd2⟩
      · cases hk] at hv
    refine I.old t v (fun k ok hk hlk hdk => hex ⟨k, ok, ?_, hk, hdk⟩) hv
    rintro rfl
    rw [hj] at hlk; cases hlk

theorem RC.touch {j i : Nat} {o o' : Oper} {e e' : Ev} {h : Nat} (ho : ops[j]? = some o) (he : es[j]? = some e) (ho' : ops[i]? = some o') (he' : es[i]? = some e') (hne : i ≠ j) (hd : dom e' h = true) (hr : h ∈ e.rd ∨ dom e h = true) : ordered (Region.before ops) j i = true := by
  rcases C.pair j i o o' e e' ho he ho' he' hne with hp | hp
  · exfalso
    simp only [pairOk, Bool.and_eq_true] at hp
    have h2 := hp.2
    rw [List.all_eq_true] at h2
    obtain ⟨p, hp1, hp2⟩ := List.any_eq_true.1 hd
    have hph : p.1 = h := by simpa using hp2
    have h3 := h2 h (List.mem_map.2 ⟨p, hp1, hph⟩)
    simp only [Bool.and_eq_true, Bool.not_eq_true'] at h3
    rcases hr with hr | hr
    · have := h3.1; simp [Ev.sh] at this; exact this hr
    · obtain ⟨q, hq1, hq2⟩ := List.any_eq_true.1 hr
      have hqh : q.1 = h := by simpa using hq2
      have hin : h ∈ e.sh.dm := List.mem_map.2 ⟨q, hq1, hqh⟩
      have h4 := h3.2
      simp at h4
      exact h4 hin
  · exact hp

theorem RC.lookup {listed : Array Bool} {c : Cf} {a : Act} (I : RI ops es G σ0 c0 listed c a) {j : Nat} {o : Oper} {e : Ev} (ho : ops[j]? = some o) (he : es[j]? = some e) (hpre : ∀ x ∈ o.after, Region.binds .any x = true → listed.getD x.on false = true) (hj : listed.getD j false = false)
    {h : Nat} (hh : h ∈ e.rd) : c.look h = lk (runTo ((ops.toList.zip es).take j) σ0).H h := by
  have hord : ∀ (i : Nat) (e' : Ev), es[i]? = some e' → i ≠ j → dom e' h = true → (i < j ∧ listed.getD i false = true) ∨ (j < i ∧ listed.getD i false = false) := fun i e' he' hne hd => by
    have hi : i < ops.size := by rw [← C.len]; exact (List.getElem?_eq_some_iff.1 he').1
    have ho' : ops[i]? = some ops[i] := by simp [hi]
    exact C.order I ho hpre hj ho' hne (C.touch ho he ho' he' hne hd (.inl hh))
  have hjl : j < es.length := (List.getElem?_eq_some_iff.1 he).1
  rcases last_or (fun i => (es[i]?).any fun e' => dom e' h) j with hno | ⟨i, hi, hp, hlast⟩
  · rw [I.look h fun i e' he' hl => ?_, runTo_look_old _ _ _ fun p hp => ?_]
    · obtain ⟨k, hk⟩ := List.getElem?_of_mem hp
      rw [List.getElem?_take] at hk
      split at hk
      · rename_i hkj
        have := hno k hkj
        rw [(zip_of hk).2] at this
        simpa using this
      · cases hk
    · cases hd : dom e' h with
      | false => rfl
      | true =>
        have hne : i ≠ j := by rintro rfl; rw [hj] at hl; cases hl
        rcases hord i e' he' hne hd with ⟨h1, _⟩ | ⟨_, h2⟩
        · have := hno i h1; rw [he'] at this; simp [hd] at this
        · rw [hl] at h2; cases h2
  · have hil : i < es.length := by omega
    have he' : es[i]? = some es[i] := by simp [hil]
    rw [he'] at hp
    have hd : dom es[i] h = true := by simpa using hp
    have hio : i < ops.size := by rw [← C.len]; exact hil
    rcases hord i _ he' (by omega) hd with ⟨_, h2⟩ | ⟨h1, _⟩
    · rw [I.upd h i _ he' h2 hd fun k e2 hk he2 hl2 => ?_, runTo_look_upd _ σ0 h i ops[i] es[i] ?_ hd fun k p hk hp2 => ?_]
      · rw [List.getElem?_take, if_pos hi]; exact zip_at (by simp [hio]) he'
      · rw [List.getElem?_take] at hp2
        split at hp2
        · rename_i hkj
          have := hlast k hk hkj
          rw [(zip_of hp2).2] at this
          simpa using this
        · cases hp2
      · cases hd2 : dom e2 h with
        | false => rfl
        | true =>
          have hne : k ≠ j := by rintro rfl; rw [hj] at hl2; cases hl2
          rcases hord k e2 he2 hne hd2 with ⟨g1, _⟩ | ⟨_, g2⟩
          · have := hlast k hk g1; rw [he2] at this; simp [hd2] at this
          · rw [hl2] at g2; cases g2
    · omega
end
variable {K : Nat}
section
variable {P : Program} {Γ : Tab} {G : Globs} {ops : Array Oper} {es : List Ev} {σ0 : VS} {c0 : Cf}

theorem RC.next (C : RC P G ops es σ0) {listed : Array Bool} {c : Cf} {a : Act} (I : RI ops es G σ0 c0 listed c a) {j : Nat} {o : Oper} {e : Ev} (ho : ops[j]? = some o) (he : es[j]? = some e)
    (hpre : ∀ x ∈ o.after, Region.binds .any x = true → listed.getD x.on false = true) (hj : listed.getD j false = false) {u : Value} {w' : World} (hl : Leaves c (nAt (ops.toList.zip es) σ0 j) e u w') :
    ∃ c', c'.w = w' ∧ RI ops es G σ0 c0 (listed.setIfInBounds j true) c' (a.put o.dst u) := by
  obtain ⟨c', h1, h2, h3, h4, h5, h6⟩ := hl
  have hjs : j < listed.size := by rw [I.lsize]; exact (Array.getElem?_eq_some_iff.1 ho).1
  have hjo : j < ops.size := (Array.getElem?_eq_some_iff.1 ho).1
  have L := fun i => listed_set (j := i) hjs
  have htsize : (a.put o.dst u).tmps.size = a.tmps.size := by cases o.dst <;> simp [Act.put]
  have hne : ∀ t, o.dst ≠ some t → (a.put o.dst u).tmps[t]? = a.tmps[t]? := fun t ht => by
    cases hd : o.dst with
    | none => rfl
    | some d =>
      simp only [Act.put]
      rw [Array.getElem?_setIfInBounds_ne]
      rintro rfl
      exact ht hd
  refine ⟨c', h1, ⟨by simpa using I.lsize, I.le.trans h5, h2, by rw [put_defers]; exact I.defers, by rw [htsize]; exact I.size, I.inr, ?_, ?_, ?_, ?_, ?_, ?_, ?_, St.keep_glob I.glob h5⟩⟩
  · intro i oi hi hli x hx hb
    rw [L] at hli ⊢
    split
    · rfl
    · by_cases hij : i = j
      · subst hij; rw [ho] at hi; cases hi; exact hpre x hx hb
      · rw [if_neg hij] at hli; exact I.closed i oi hi hli x hx hb
  · intro t x hno hx
    have hd : o.dst ≠ some t := hno j o ho (by rw [L]; simp)
    rw [hne t hd]
    obtain ⟨v, g1, g2⟩ := I.old t x (fun i oi hi hli => hno i oi hi (by rw [L]; split <;> simp_all)) hx
    exact ⟨v, g1, VR.keep h5.keep _ g2⟩
  · intro i oi ei d hi hei hli hd hdl
    by_cases hij : i = j
    · subst hij
      rw [ho] at hi; cases hi
      rw [he] at hei; cases hei
      refine ⟨u, ?_, h4⟩
      simp only [Act.put, hd]
      have : d < a.tmps.size := by rw [I.size]; exact hdl
      simp [this]
    · rw [L, if_neg hij] at hli
      have hdj : o.dst ≠ some d := fun e => hij (dst_uniq C.nodup hi ho hd e)
      rw [hne d hdj]
      obtain ⟨v, g1, g2⟩ := I.val i oi ei d hi hei hli hd hdl
      exact ⟨v, g1, VR.keep h5.keep _ g2⟩
  · intro h hno
    rw [h3, fup_old (hno j e he (by rw [L]; simp))]
    exact I.look h fun i ei hi hli => hno i ei hi (by rw [L]; split <;> simp_all)
  · intro h i ei hi hli hd hmax
    by_cases hij : i = j
    · subst hij
      rw [he] at hi; cases hi
      rw [h3, fup_new hd]
    · rw [L, if_neg hij] at hli
      have hnd : dom e h = false := by
        cases hde : dom e h with
        | false => rfl
        | true =>
          have hio : i < ops.size := by rw [← C.len]; exact (List.getElem?_eq_some_iff.1 hi).1
          have hoi : ops[i]? = some ops[i] := by simp [hio]
          rcases C.order I ho hpre hj hoi hij (C.touch ho he hoi hi hij hd (.inr hde)) with ⟨g1, _⟩ | ⟨_, g2⟩
          · have := hmax j e g1 he (by rw [L]; simp)
            rw [hde] at this; cases this
          · rw [hli] at g2; cases g2
      rw [h3, fup_old hnd]
      exact I.upd h i ei hi hli hd fun k ek hk hek hlk => hmax k ek hk hek (by rw [L]; split <;> simp_all)
  · intro i ei hi hli q hq
    have hij : i ≠ j := by rintro rfl; rw [L] at hli; simp at hli
    rw [L, if_neg hij] at hli
    have hold := I.fresh i ei hi hli q hq
    cases hρ : c'.ρ (nAt (ops.toList.zip es) σ0 i + q) with
    | none => rfl
    | some y =>
      rcases h6 _ (by rw [hρ]; simp) with h7 | h7
      · exact absurd hold h7
      · exfalso
        have hio : i < ops.size := by rw [← C.len]; exact (List.getElem?_eq_some_iff.1 hi).1
        have e1 := nAt_step (σ := σ0) (zip_at (es := es) (show ops[i]? = some ops[i] by simp [hio]) hi)
        have e2 := nAt_step (σ := σ0) (zip_at (es := es) ho he)
        rcases Nat.lt_or_gt_of_ne hij with hlt | hgt
        · have := nAt_mono (L := ops.toList.zip es) (σ := σ0) (show i + 1 ≤ j by omega)
          omega
        · have := nAt_mono (L := ops.toList.zip es) (σ := σ0) (show j + 1 ≤ i by omega)
          omega
  · intro h hh
    have hold := I.free h hh
    cases hρ : c'.ρ h with
    | none => rfl
    | some y =>
      rcases h6 _ (by rw [hρ]; simp) with h7 | h7
      · exact absurd hold h7
      · exfalso
        have e2 := nAt_step (σ := σ0) (zip_at (es := es) ho he)
        have := nAt_mono (L := ops.toList.zip es) (σ := σ0) (show j + 1 ≤ ops.size by omega)
        omega

theorem RC.done (C : RC P G ops es σ0) {listed : Array Bool} {c : Cf} {a : Act} (I : RI ops es G σ0 c0 listed c a) (hr : Region.ready .any ops listed = []) : St G c (runTo (ops.toList.zip es) σ0) a := by
  have hall : ∀ i, i < ops.size → listed.getD i false = true := by
    intro i
    induction i using Nat.strongRecOn with
    | _ i ih =>
      intro hi
      cases hl : listed.getD i false with
      | true => rfl
      | false =>
        exfalso
        have ho : ops[i]? = some ops[i] := by simp [hi]
        have : i ∈ Region.ready .any ops listed := mem_ready.2 ⟨by
          have : i < listed.size := by rw [I.lsize]; exact hi
          simp [this] at hl ⊢; exact hl, _, ho, fun e he hb => by
            have := C.after i _ ho e he hb
            exact ih e.on this (by omega)⟩
        rw [hr] at this; cases this
  have hal : ∀ (i : Nat) (e : Ev), es[i]? = some e → listed.getD i false = true := fun i e h => hall i (by rw [← C.len]; exact (List.getElem?_eq_some_iff.1 h).1)
  refine ⟨?_, by rw [runTo_sz]; exact I.size, I.defers, ?_, I.heap, ?_, I.glob⟩
  · intro t x h1
    have hlt : t < σ0.sz := runTo_T_range _ _ I.inr t x h1
    by_cases hex : ∃ (i : Nat) (o : Oper), ops[i]? = some o ∧ o.dst = some t
    · obtain ⟨i, o, ho, hd⟩ := hex
      have hi : i < es.length := by rw [C.len]; exact (Array.getElem?_eq_some_iff.1 ho).1
      have he : es[i]? = some es[i] := by simp [hi]
      rw [runTo_T_val _ σ0 t i o es[i] (zip_at ho he) hd (fun j p hj hp hd2 => hj (dst_uniq C.nodup (zip_of hp).1 ho hd2 hd)) hlt] at h1
      cases h1
      exact I.val i o _ t ho he (hal i _ he) hd hlt
    · rw [runTo_T_old _ _ _ fun p hp hd => by
        obtain ⟨k, hk⟩ := List.getElem?_of_mem hp
        exact hex ⟨k, p.1, (zip_of hk).1, hd⟩] at h1
      exact I.old t x (fun i o hi _ hd => hex ⟨i, o, hi, hd⟩) h1
  · funext h
    rcases last_or (fun i => (es[i]?).any fun e' => dom e' h) es.length with hno | ⟨i, hi, hp, hlast⟩
    · have hno' : ∀ (i : Nat) (e : Ev), es[i]? = some e → dom e h = false := fun i e he => by
        have := hno i (List.getElem?_eq_some_iff.1 he).1
        rw [he] at this; simpa using this
      rw [I.look h fun i e he _ => hno' i e he, runTo_look_old _ _ _ fun p hp => by
        obtain ⟨k, hk⟩ := List.getElem?_of_mem hp
        exact hno' k p.2 (zip_of hk).2]
    · have he : es[i]? = some es[i] := by simp [hi]
      rw [he] at hp
      have hd : dom es[i] h = true := by simpa using hp
      have hio : i < ops.size := by rw [← C.len]; exact hi
      have hl' : ∀ (j : Nat) (e' : Ev), i < j → es[j]? = some e' → dom e' h = false := fun j e' hij he' => by
        have := hlast j hij (List.getElem?_eq_some_iff.1 he').1
        rw [he'] at this; simpa using this
      rw [I.upd h i _ he (hal i _ he) hd fun j e' hij he' _ => hl' j e' hij he',
        runTo_look_upd _ σ0 h i ops[i] es[i] (zip_at (by simp [hio]) he) hd fun j p hij hp2 => hl' j p.2 hij (zip_of hp2).2]
  · intro h hh
    refine I.free h ?_
    unfold nAt
    rw [List.take_of_length_le (by simp [C.len])]
    exact hh

theorem vwp_region_any (hΓ : TabOk P Γ) (hm : P.follows .mixedOrders = true) {id : Nat} {Q : Exit → VS → Prop} (h : regv P Γ G ops ops.toList σ0.T σ0.sz σ0.H σ0.n [] fun es σ' => regOk ops es = true ∧ Q .normal σ') : VWP P G K (.region id ops true) Q σ0 := by
  refine ⟨fun c0 a0 hs0 => ?_⟩
  obtain ⟨es, σ', hch, hreg, hq⟩ := regv_chain hΓ h
  have C := RC.of hch hreg
  obtain ⟨_, hσ, _⟩ := chain_at _ _ _ _ hch
  subst hσ
  refine wp_region_any hm ?_
  let c1 : Cf := ⟨c0.ρ, c0.A, c0.look, c0.w.drew⟩
  have keep : c0.env.Keep c1.env := ⟨Nat.le_refl _, fun _ _ h => h, fun _ _ h => ⟨h, rfl⟩, fun _ us _ fr h => ⟨us, fr, h, rfl⟩, fun _ es k h => ⟨es, k, h⟩⟩
  have hle : Le c0 c1 := ⟨keep, rfl, rfl, rfl, fun b _ ho => ⟨rfl, ho⟩, fun b h => .inl h⟩
  have hH : HRel c1 := by
    refine ⟨fun h cs hl => ?_, fun h h' cs cs' b => hs0.heap.inj h h' cs cs' b⟩
    rcases hs0.heap.blk h cs hl with h1 | ⟨b, h1, h2⟩
    · exact .inl h1
    · exact .inr ⟨b, h1, h2.keep keep h2.1 rfl⟩
  have main : ∀ (fuel : Nat) (listed : Array Bool) (c : Cf) (a : Act), listed.toList.count false ≤ fuel → RI ops es G σ0 c0 listed c a → wpAny P .any ops (Post G K c0 Q) fuel listed a c.w := by
    have hend : ∀ (listed : Array Bool) (c : Cf) (a : Act), RI ops es G σ0 c0 listed c a → Region.ready .any ops listed = [] → Post G K c0 Q .normal a c.w := fun listed c a I hr => ⟨c, _, rfl, hq, C.done I hr, I.le.w⟩
    intro fuel
    induction fuel with
    | zero =>
      intro listed c a hc I
      have hr : Region.ready .any ops listed = [] := by
        cases hr : Region.ready .any ops listed with
        | nil => rfl
        | cons i l =>
          exfalso
          obtain ⟨hl0, _⟩ := mem_ready.1 (show i ∈ Region.ready .any ops listed by rw [hr]; simp)
          have hil : i < listed.size := by
            rcases Nat.lt_or_ge i listed.size with h | h
            · exact h
            · simp [Array.getElem?_eq_none h] at hl0
          have : false ∈ listed.toList := List.mem_of_getElem? (i := i) (by simp [hil] at hl0 ⊢; exact hl0)
          have := List.count_pos_iff.2 this
          omega
      exact ⟨hr, hend listed c a I hr⟩
    | succ fuel ih =>
      intro listed c a hc I
      refine ⟨hend listed c a I, fun i hr => ?_⟩
      obtain ⟨hl0, o, ho, hpre⟩ := mem_ready.1 hr
      have hil : i < listed.size := by rw [I.lsize]; exact (Array.getElem?_eq_some_iff.1 ho).1
      have hl : listed.getD i false = false := by simp [hil] at hl0 ⊢; exact hl0
      have hc' : (listed.setIfInBounds i true).toList.count false ≤ fuel := by
        have hlv : listed[i] = false := by simpa [hil] using hl
        have hpos := List.count_pos_iff.2 (show false ∈ listed.toList from List.mem_of_getElem? (i := i) (by simp [hil, hlv]))
        rw [Array.toList_setIfInBounds, List.count_set (by simpa using hil)]
        simp [hlv]
        simp only [Array.count_toList] at *
        omega
      have hie : i < es.length := by rw [C.len]; exact (Array.getElem?_eq_some_iff.1 ho).1
      have he : es[i]? = some es[i] := by simp [hie]
      have hop : ∀ x ∈ o.op.operands, VR c.env (evalV G (runTo ((ops.toList.zip es).take i) σ0).T x) (a.eval x) := fun x hx => by
        cases x with
        | tmp t =>
          simp only [evalV, Act.eval, Array.getD_eq_getD_getElem?]
          split
          · rename_i v hv
            obtain ⟨u, h1, h2⟩ := C.tmp I ho he hpre hl (by
              simp only [Oper.looksAt, List.mem_append, List.mem_filterMap]
              exact .inl ⟨.tmp t, by simpa using hx, rfl⟩) hv
            rw [h1]; exact h2
          · simp [VR]
        | const v => exact evalV_ok (T := []) (a := ⟨#[], []⟩) (fun t v h => by cases h) I.glob (.const v)
        | global g => exact evalV_ok (T := []) (a := ⟨#[], []⟩) (fun t v h => by cases h) I.glob (.global g)
        | func f => exact evalV_ok (T := []) (a := ⟨#[], []⟩) (fun t v h => by cases h) I.glob (.func f)
      have hguard : ∀ b, guardV ops (runTo ((ops.toList.zip es).take i) σ0).T o = some b → Region.wanted o (yielded ops a.tmps) = b := fun b hb => guardV_ok hb fun d v hd ⟨j, want, hg, hdst⟩ => C.tmp I ho he hpre hl (by
        simp only [Oper.looksAt, List.mem_append, hg, hdst]
        exact .inr (by simp)) hd
      unfold wpOp
      simp only [ho]
      rcases C.step i o _ ho he with ⟨hb, hev⟩ | ⟨hb, hsk⟩
      · rw [if_pos (hguard true hb)]
        refine .inl ((hev.goes c a I.heap I.glob hop (fun h hh => C.lookup I ho he hpre hl hh) (fun q hq => I.fresh i _ he hl q hq)).wp fun u w' hlv => ?_)
        obtain ⟨c', hw, I'⟩ := C.next I ho he hpre hl hlv
        subst hw
        exact ih _ c' _ hc' I'
      · rw [if_neg (by rw [hguard false hb]; simp)]
        obtain ⟨c', hw, I'⟩ := C.next I ho he hpre hl (u := undef) (w' := c.w) (by rw [hsk]; exact ⟨c, rfl, I.heap, rfl, ⟨[], rfl, rfl⟩, Le.refl c, newOnly.refl⟩)
        have := ih _ c' _ hc' I'
        rw [hw] at this
        exact this
  have hno : ∀ j, (Array.replicate ops.size false).getD j false = false := fun j => by
    simp [Array.getElem?_replicate]; split <;> rfl
  refine main ops.size _ c1 a0 (by simp) ⟨by simp, hle, hH, hs0.defers, hs0.size, (fun t v h => ?_), (fun i o _ h => by rw [hno] at h; cases h), (fun t x _ hx => ?_), (fun i o e d _ _ h => by rw [hno] at h; cases h), (fun h _ => by show c0.look h = _; rw [hs0.look]),
    (fun h i e _ hl => by rw [hno] at hl; cases hl), (fun i e _ _ q _ => ?_), (fun h hh => ?_), St.keep_glob hs0.glob hle⟩
  · obtain ⟨u, g1, _⟩ := hs0.tmps t v h
    rw [← hs0.size]; exact (Array.getElem?_eq_some_iff.1 g1).1
  · obtain ⟨u, g1, g2⟩ := hs0.tmps t x hx
    exact ⟨u, g1, VR.keep keep _ g2⟩
  · refine hs0.fresh _ ?_
    have : nAt (ops.toList.zip es) σ0 0 = σ0.n := by simp [nAt, runTo]
    have h2 := nAt_mono (L := ops.toList.zip es) (σ := σ0) (Nat.zero_le i)
    omega
  · refine hs0.fresh _ ?_
    have : nAt (ops.toList.zip es) σ0 0 = σ0.n := by simp [nAt, runTo]
    have h2 := nAt_mono (L := ops.toList.zip es) (σ := σ0) (Nat.zero_le ops.size)
    omega
end
end Go.Proofs.Ytilmfdlonpjjiaa
