/- '==' of structs, by the engine. -/
import Derived.Test.YtidkdlaihmpjfaaDoorVEq
namespace Go.Proofs.YtidkdlaihmpjfaaDoor
set_option linter.unusedVariables false
set_option linter.unusedSimpArgs false
set_option linter.unusedSectionVars false
open Go.ChangeShapes Go.WideShapes Go.ChangeAt Go.RowKit Go.Joins
set_option maxRecDepth 10000
theorem eq_loopF {α : Type} {P : Program} {w : World} (f : α → Sem (ForInStep (Option Bool × Unit))) (q : α → Bool) : ∀ (l : List α), (∀ k ∈ l, (f k).run P w = .ok (if q k = true then .yield (none, ()) else .done (some false, ())) w) →
    (forIn l ((none, ()) : Option Bool × Unit) fun (i : α) (_ : Option Bool × Unit) => f i).run P w = .ok (if l.all q then (none, ()) else (some false, ())) w
  | [], _ => by simp
  | k :: l, h => by
    have h1 := h k (by simp)
    have h2 := eq_loopF f q l fun k hk => h k (by simp [hk])
    rw [List.forIn_cons]
    cases hq : q k with
    | true =>
      rw [hq] at h1
      simp only [if_true] at h1
      simp only [Sem.run_bind, h1, Result.andThen_ok, List.all_cons, hq, Bool.true_and]
      exact h2
    | false =>
      rw [hq] at h1
      simp only [Bool.false_eq_true, if_false] at h1
      simp only [Sem.run_bind, h1, Result.andThen_ok, Sem.run_pure, List.all_cons, hq, Bool.false_and, Bool.false_eq_true, if_false]
theorem equal_struct {P : Program} {t : TypeId} {fields : Array Field} (ht : P.underlying t = some (.struct fields)) (hs : P.stoodInHeld t = false) (us vs : Array Value) (q : Field → Bool) (d : Nat) (w : World)
    (hq : ∀ f ∈ fields.toList, f.name ≠ "_" ∧ (do let x ← part f.type us f.offset; let y ← part f.type vs f.offset; Op.equalIn d f.type x y : Sem Bool).run P w = .ok (q f) w) :
    (Op.equalIn (d + 1) t (.agg us) (.agg vs)).run P w = .ok (fields.toList.all q) w := by
  unfold Op.equalIn
  simp only [Sem.run_bind, run_underlying ht, Result.andThen_ok]
  have hp : (program : Sem Program).run P w = .ok P w := rfl
  simp only [hp, Result.andThen_ok, hs, Bool.false_eq_true, if_false]
  rw [← Array.forIn_toList]
  have h := eq_loopF (P := P) (w := w) (fun (f : Field) => if f.name ≠ "_" then (do
      let x ← part f.type us f.offset
      let y ← part f.type vs f.offset
      let b ← Op.equalIn d f.type x y
      if (!b) = true then pure (ForInStep.done (some false, ())) else pure (ForInStep.yield (none, ())) : Sem (ForInStep (Option Bool × Unit))) else pure (ForInStep.yield (none, ()))) q fields.toList (fun f hf => by
    obtain ⟨h1, h2⟩ := hq f hf
    rw [if_pos h1]
    simp only [← bind_assoc] at h2 ⊢
    simp only [Sem.run_bind] at h2 ⊢
    rw [h2]
    simp only [Result.andThen_ok]
    cases q f <;> rfl)
  rw [Sem.run_bind, h, Result.andThen_ok]
  cases fields.toList.all q <;> simp
section
variable {P : Program} {Γ : Tab} (hΓ : TabOk P Γ)
include hΓ
theorem part_agg {t : TypeId} {r : TR} (hr : Γ t = some r) (ha : r.d.agg = true) (us : List Value) (off : Nat) (w : World) : (part t us.toArray off).run P w = .ok (.agg ((us.drop off).take r.size).toArray) w := by
  have hA := run_isAgg_tab hΓ hr w
  have hS := run_sizeOf_tab hΓ hr w
  unfold part
  simp only [Sem.run_bind, hA, Result.andThen_ok, ha, if_true, hS, Sem.run_pure]
  simp [List.extract_eq_take_drop]
theorem part_one {t : TypeId} {r : TR} (hr : Γ t = some r) (ha : r.d.agg = false) {us : List Value} {off : Nat} {v : Value} (h : us[off]? = some v) (w : World) : (part t us.toArray off).run P w = .ok v w := by
  have hA := run_isAgg_tab hΓ hr w
  unfold part
  simp only [Sem.run_bind, hA, Result.andThen_ok, ha, Bool.false_eq_true, if_false]
  simp [h]
end
theorem eqAgg_of {P : Program} {t : TypeId} (hg : P.eqGuardType P.depth t = false) {us vs : List Value} {r : Bool} (h : ∀ w, (Op.equal t (.agg us.toArray) (.agg vs.toArray)).run P w = .ok r w) :
    EqAgg P .eql t (us.map .v) (vs.map .v) r ∧ EqAgg P .neq t (us.map .v) (vs.map .v) (!r) := by
  have hg1 : ∀ op ox oy w, (eqGuard op t ox oy (.agg us.toArray) (.agg vs.toArray)).run P w = .ok () w := fun op ox oy w => by
    unfold eqGuard
    cases op <;> simp [hg]
  refine ⟨⟨us, vs, rfl, rfl, fun ox oy w => ?_⟩, ⟨us, vs, rfl, rfl, fun ox oy w => ?_⟩⟩
  · simp only [Sem.run_bind, hg1, Result.andThen_ok]
    show (do let b ← Op.equal t _ _; pure (Value.bool b) : Sem Value).run P w = _
    simp only [Sem.run_bind, h w]
    simp
  · simp only [Sem.run_bind, hg1, Result.andThen_ok]
    show (do let b ← Op.equal t _ _; pure (Value.bool (!b)) : Sem Value).run P w = _
    simp only [Sem.run_bind, h w]
    simp
def wI (k : IntKind) (l : List Nat) : List Value := l.map fun (x : Nat) => Value.int k x
theorem equal_nats {P : Program} {Γ : Tab} (hΓ : TabOk P Γ) {t e : TypeId} {n : Nat} {k : IntKind} {r : TR} (ht : P.underlying t = some (.array n e)) (he : Γ e = some r) (hr : r.d = .int k) (hs : r.size = 1) (hd : P.underlying e = some (.int k)) (l m : List Nat) (hl : l.length = n) (hm : m.length = n) (d : Nat) (w : World) :
    (Op.equalIn (d + 2) t (.agg (wI k l).toArray) (.agg (wI k m).toArray)).run P w = .ok (decide (l = m)) w := by
  have h := equal_words hΓ ht he hr hs hd (l.map fun (x : Nat) => (x : Int)) (m.map fun (x : Nat) => (x : Int)) (by simpa using hl) (by simpa using hm) d w
  rw [show decide (l = m) = decide (l.map (fun (x : Nat) => (x : Int)) = m.map fun (x : Nat) => (x : Int)) from decide_eq_decide.2 (map_cast_eq l m).symm]
  simpa only [wI, List.map_map, Function.comp_def] using h
noncomputable def limW (n : Nat) : List Nat := [lim n 0, lim n 1, lim n 2, lim n 3]
theorem limW_inj {a b : Nat} (ha : a < T256) (hb : b < T256) : decide (limW a = limW b) = decide (a = b) := decide_eq_decide.2 ⟨fun h => uV_inj ha hb h, fun h => by rw [h]⟩
theorem words_v (l : List Nat) : words l = (wI .u64 l).map .v := by simp [words, wI, nI]
end Go.Proofs.YtidkdlaihmpjfaaDoor
