/- '==' of arrays of whole numbers, by the engine. -/
import Derived.Test.YtidkdlaihmpjfaaDoorVWide
namespace Go.Proofs.YtidkdlaihmpjfaaDoor
set_option linter.unusedVariables false
set_option linter.unusedSimpArgs false
set_option linter.unusedSectionVars false
open Go.ChangeShapes Go.WideShapes Go.ChangeAt Go.RowKit Go.Joins
set_option maxRecDepth 10000
theorem eq_loop {P : Program} {w : World} (f : Nat → Sem Bool) (q : Nat → Bool) : ∀ (l : List Nat), (∀ k ∈ l, (f k).run P w = .ok (q k) w) →
    (forIn l (none, ()) fun (i : Nat) (_ : Option Bool × Unit) => (do
      let b ← f i
      if (!b) = true then pure (ForInStep.done (some false, ())) else pure (ForInStep.yield (none, ())) : Sem (ForInStep (Option Bool × Unit)))).run P w = .ok (if l.all q then (none, ()) else (some false, ())) w
  | [], _ => by simp
  | k :: l, h => by
    have h1 := h k (by simp)
    have h2 := eq_loop f q l fun k hk => h k (by simp [hk])
    rw [List.forIn_cons]
    cases hq : q k with
    | true =>
      rw [hq] at h1
      simp only [Sem.run_bind, h1, Result.andThen_ok, Bool.not_true, Bool.false_eq_true, if_false, Sem.run_pure, List.all_cons, hq, Bool.true_and]
      exact h2
    | false =>
      rw [hq] at h1
      simp only [Sem.run_bind, h1, Result.andThen_ok, Bool.not_false, if_true, Sem.run_pure, List.all_cons, hq, Bool.false_and, Bool.false_eq_true, if_false]
theorem equal_arr {P : Program} {Γ : Tab} (hΓ : TabOk P Γ) {t e : TypeId} {n : Nat} {r : TR} (ht : P.underlying t = some (.array n e)) (he : Γ e = some r) (us vs : Array Value) (q : Nat → Bool) (d : Nat) (w : World)
    (hq : ∀ k, k < n → (do let x ← part e us (k * r.size); let y ← part e vs (k * r.size); Op.equalIn d e x y : Sem Bool).run P w = .ok (q k) w) :
    (Op.equalIn (d + 1) t (.agg us) (.agg vs)).run P w = .ok ((List.range n).all q) w := by
  have h := eq_loop (P := P) (w := w) (fun k => (do let x ← part e us (k * r.size); let y ← part e vs (k * r.size); Op.equalIn d e x y : Sem Bool)) q (List.range n) (fun k hk => hq k (by simpa using hk))
  unfold Op.equalIn
  simp only [Sem.run_bind, run_underlying ht, Result.andThen_ok]
  simp only [Std.Legacy.Range.forIn_eq_forIn_range', Std.Legacy.Range.size, Nat.sub_zero, Nat.add_sub_cancel, Nat.div_one]
  rw [run_sizeOf_tab hΓ he, Result.andThen_ok, ← List.range_eq_range']
  simp only [bind_assoc] at h
  rw [h, Result.andThen_ok]
  cases (List.range n).all q <;> simp
theorem VRs_same (E : Env) : ∀ us : List Value, VRs E (us.map VV.v) us
  | [] => by simp [VRs]
  | u :: us => VRs.cons rfl (VRs_same E us)
theorem equal_words {P : Program} {Γ : Tab} (hΓ : TabOk P Γ) {t e : TypeId} {n : Nat} {k : IntKind} {r : TR} (ht : P.underlying t = some (.array n e)) (he : Γ e = some r) (hr : r.d = .int k) (hs : r.size = 1) (hd : P.underlying e = some (.int k)) (l m : List Int) (hl : l.length = n) (hm : m.length = n) (d : Nat) (w : World) :
    (Op.equalIn (d + 2) t (.agg (l.map fun x => Value.int k x).toArray) (.agg (m.map fun x => Value.int k x).toArray)).run P w = .ok (decide (l = m)) w := by
  have hpart : ∀ (l : List Int) (i : Nat), i < l.length → (part e (l.map fun x => Value.int k x).toArray (i * r.size)).run P w = .ok (.int k (l.getD i 0)) w := by
    intro l i hi
    have h1 : vpart Γ e ((l.map fun x => Value.int k x).map VV.v) (i * r.size) = some (.v (.int k (l.getD i 0))) := by
      unfold vpart
      rw [he]
      simp only [hr, TD.agg, hs, Nat.mul_one]
      simp [List.getElem?_eq_getElem hi, List.getD]
    obtain ⟨u, h2, h3⟩ := vpart_ok hΓ (E := E0 w (fun _ => False)) h1 (VRs_same _ _) (by intro u hu; simp only [List.mem_map] at hu; obtain ⟨x, _, rfl⟩ := hu; rfl) w
    simp only [VR] at h3
    rw [h2, h3]
  have h := equal_arr hΓ (d := d + 1) ht he (l.map fun x => Value.int k x).toArray (m.map fun x => Value.int k x).toArray (fun i => l.getD i 0 == m.getD i 0) w (fun i hi => by
    simp only [Sem.run_bind, hpart l i (by omega), hpart m i (by omega), Result.andThen_ok]
    unfold Op.equalIn
    simp [run_underlying hd])
  rw [h]
  congr 1
  rw [Bool.eq_iff_iff, List.all_eq_true, decide_eq_true_iff]
  constructor
  · intro h
    refine List.ext_getElem (by omega) fun i h1 h2 => ?_
    have := h i (by simp; omega)
    simpa [List.getD, List.getElem?_eq_getElem h1, List.getElem?_eq_getElem h2] using this
  · rintro rfl i _
    simp
theorem eqAgg_ints {P : Program} {Γ : Tab} (hΓ : TabOk P Γ) {t e : TypeId} {n : Nat} {k : IntKind} {r : TR} (ht : P.underlying t = some (.array n e)) (he : Γ e = some r) (hr : r.d = .int k) (hs : r.size = 1) (hd : P.underlying e = some (.int k))
    (hg : P.eqGuardType P.depth t = false) (l m : List Int) (hl : l.length = n) (hm : m.length = n) : EqAgg P .eql t (l.map fun x => nI k x) (m.map fun x => nI k x) (decide (l = m)) := by
  refine ⟨l.map fun x => .int k x, m.map fun x => .int k x, by simp [nI], by simp [nI], fun ox oy w => ?_⟩
  have h := equal_words hΓ ht he hr hs hd l m hl hm 9998 w
  have hg1 : (eqGuard .eql t ox oy (.agg (l.map fun x => Value.int k x).toArray) (.agg (m.map fun x => Value.int k x).toArray)).run P w = .ok () w := by
    unfold eqGuard
    simp [hg]
  simp only [Sem.run_bind, hg1, Result.andThen_ok]
  show (do let b ← Op.equal t _ _; pure (Value.bool b) : Sem Value).run P w = _
  simp only [Sem.run_bind]
  rw [show (Op.equal t (.agg (l.map fun x => Value.int k x).toArray) (.agg (m.map fun x => Value.int k x).toArray)).run P w = .ok (decide (l = m)) w from h]
  simp
theorem eqAgg_ints_ne {P : Program} {Γ : Tab} (hΓ : TabOk P Γ) {t e : TypeId} {n : Nat} {k : IntKind} {r : TR} (ht : P.underlying t = some (.array n e)) (he : Γ e = some r) (hr : r.d = .int k) (hs : r.size = 1) (hd : P.underlying e = some (.int k))
    (hg : P.eqGuardType P.depth t = false) (l m : List Int) (hl : l.length = n) (hm : m.length = n) : EqAgg P .neq t (l.map fun x => nI k x) (m.map fun x => nI k x) (!decide (l = m)) := by
  refine ⟨l.map fun x => .int k x, m.map fun x => .int k x, by simp [nI], by simp [nI], fun ox oy w => ?_⟩
  have h := equal_words hΓ ht he hr hs hd l m hl hm 9998 w
  have hg1 : (eqGuard .neq t ox oy (.agg (l.map fun x => Value.int k x).toArray) (.agg (m.map fun x => Value.int k x).toArray)).run P w = .ok () w := by
    unfold eqGuard
    simp [hg]
  simp only [Sem.run_bind, hg1, Result.andThen_ok]
  show (do let b ← Op.equal t _ _; pure (Value.bool (!b)) : Sem Value).run P w = _
  simp only [Sem.run_bind]
  rw [show (Op.equal t (.agg (l.map fun x => Value.int k x).toArray) (.agg (m.map fun x => Value.int k x).toArray)).run P w = .ok (decide (l = m)) w from h]
  simp
/-- '==' of two numbers of 256 bits. -/
theorem words_map (l : List Nat) : words l = (l.map fun (x : Nat) => (x : Int)).map fun x => nI .u64 x := by simp [words]
theorem map_cast_eq (l m : List Nat) : (l.map (fun (x : Nat) => (x : Int)) = m.map fun (x : Nat) => (x : Int)) ↔ l = m := by
  refine ⟨fun h => ?_, fun h => by rw [h]⟩
  have := congrArg (List.map Int.toNat) h
  simpa [List.map_map, Function.comp_def] using this
theorem uV_inj {a b : Nat} (ha : a < T256) (hb : b < T256) (h : [lim a 0, lim a 1, lim a 2, lim a 3] = [lim b 0, lim b 1, lim b 2, lim b 3]) : a = b := by
  simp only [List.cons.injEq, and_true] at h
  rw [← val4_lim ha, ← val4_lim hb, h.1, h.2.1, h.2.2.1, h.2.2.2]
noncomputable def uC (n : Nat) : List VV := words [lim n 0, lim n 1, lim n 2, lim n 3]
theorem eq_uC {a b : Nat} (ha : a < T256) (hb : b < T256) : EqAgg Tryd.prog .eql 55 (uC a) (uC b) (decide (a = b)) := by
  have h := eqAgg_ints (k := .u64) Γok (t := 55) (e := 22) Tryd.underlying55 rfl rfl rfl Tryd.underlying22 (by kernel_rfl) ([lim a 0, lim a 1, lim a 2, lim a 3].map fun (x : Nat) => (x : Int)) ([lim b 0, lim b 1, lim b 2, lim b 3].map fun (x : Nat) => (x : Int)) rfl rfl
  rw [← words_map, ← words_map] at h
  rw [show decide (a = b) = decide ([lim a 0, lim a 1, lim a 2, lim a 3].map (fun (x : Nat) => (x : Int)) = [lim b 0, lim b 1, lim b 2, lim b 3].map fun (x : Nat) => (x : Int)) from decide_eq_decide.2 ⟨fun h => by rw [h], fun h => uV_inj ha hb ((map_cast_eq _ _).1 h)⟩]
  exact h
theorem ne_uC {a b : Nat} (ha : a < T256) (hb : b < T256) : EqAgg Tryd.prog .neq 55 (uC a) (uC b) (!decide (a = b)) := by
  have h := eqAgg_ints_ne (k := .u64) Γok (t := 55) (e := 22) Tryd.underlying55 rfl rfl rfl Tryd.underlying22 (by kernel_rfl) ([lim a 0, lim a 1, lim a 2, lim a 3].map fun (x : Nat) => (x : Int)) ([lim b 0, lim b 1, lim b 2, lim b 3].map fun (x : Nat) => (x : Int)) rfl rfl
  rw [← words_map, ← words_map] at h
  rw [show decide (a = b) = decide ([lim a 0, lim a 1, lim a 2, lim a 3].map (fun (x : Nat) => (x : Int)) = [lim b 0, lim b 1, lim b 2, lim b 3].map fun (x : Nat) => (x : Int)) from decide_eq_decide.2 ⟨fun h => by rw [h], fun h => uV_inj ha hb ((map_cast_eq _ _).1 h)⟩]
  exact h
theorem uC_lit {n : Nat} (h : n < B64) : uC n = words [n, 0, 0, 0] := by
  have := lim_val4 (a := n) (b := 0) (c := 0) (d := 0) h (by decide) (by decide) (by decide)
  rw [show val4 n 0 0 0 = n by unfold val4; omega] at this
  unfold uC
  rw [this.1, this.2.1, this.2.2.1, this.2.2.2]
end Go.Proofs.YtidkdlaihmpjfaaDoor
