/- Contracts of the functions below, by the engine. -/
import GoSem.Core.Value
import Derived.Test.YtilmfdlonpjjiaaVLaw
import Derived.WalkKit
import Derived.WalkSpells
import Derived.WalkLawsBesides
import Derived.Laws.Externs
namespace Go.Proofs.Ytilmfdlonpjjiaa
set_option linter.unusedVariables false
set_option linter.unusedSimpArgs false
set_option linter.unusedSectionVars false

def B64 : Nat := 18446744073709551616
def T256 : Nat := 2 ^ 256
theorem B64_eq : B64 = 2 ^ 64 := by decide
theorem T256_eq : T256 = B64 * B64 * B64 * B64 := by decide
theorem T256_lit : T256 = 115792089237316195423570985008687907853269984665640564039457584007913129639936 := by decide
theorem lim_ex : ∃ f : Nat → Nat → Nat, ∀ n i, f n i = n / B64 ^ i % B64 := ⟨_, fun _ _ => rfl⟩
noncomputable def lim : Nat → Nat → Nat := Classical.choose lim_ex
theorem lim_def (n i : Nat) : lim n i = n / B64 ^ i % B64 := Classical.choose_spec lim_ex n i
theorem lim_lt (n i : Nat) : lim n i < B64 := by rw [lim_def]; exact Nat.mod_lt _ (by decide)
/-- A number below 2^256 as the model holds it. -/
@[reducible] noncomputable def u256 (n : Nat) : Value := .agg #[.int .u64 (lim n 0), .int .u64 (lim n 1), .int .u64 (lim n 2), .int .u64 (lim n 3)]
def val4 (a b c d : Nat) : Nat := a + B64 * b + B64 * B64 * c + B64 * B64 * B64 * d
theorem lim_val4 {a b c d : Nat} (ha : a < B64) (hb : b < B64) (hc : c < B64) (hd : d < B64) :
    lim (val4 a b c d) 0 = a ∧ lim (val4 a b c d) 1 = b ∧ lim (val4 a b c d) 2 = c ∧ lim (val4 a b c d) 3 = d := by
  simp only [lim_def]
  unfold val4
  simp only [B64] at *
  refine ⟨?_, ?_, ?_, ?_⟩ <;> omega
theorem val4_lim {n : Nat} (h : n < T256) : val4 (lim n 0) (lim n 1) (lim n 2) (lim n 3) = n := by
  rw [T256_eq] at h
  simp only [lim_def]
  unfold val4
  simp only [B64] at *
  omega
theorem val4_lt {a b c d : Nat} (ha : a < B64) (hb : b < B64) (hc : c < B64) (hd : d < B64) : val4 a b c d < T256 := by
  rw [T256_eq]
  unfold val4
  simp only [B64] at *
  omega
theorem u256_val4 {a b c d : Nat} (ha : a < B64) (hb : b < B64) (hc : c < B64) (hd : d < B64) :
    u256 (val4 a b c d) = .agg #[.int .u64 a, .int .u64 b, .int .u64 c, .int .u64 d] := by
  obtain ⟨h0, h1, h2, h3⟩ := lim_val4 ha hb hc hd
  unfold u256
  rw [h0, h1, h2, h3]
/-- Every number is its limbs. -/
theorem limbs {n : Nat} (h : n < T256) : ∃ a b c d, a < B64 ∧ b < B64 ∧ c < B64 ∧ d < B64 ∧ n = val4 a b c d :=
  ⟨_, _, _, _, lim_lt n 0, lim_lt n 1, lim_lt n 2, lim_lt n 3, (val4_lim h).symm⟩

theorem addS_ex : ∃ f : Nat → Nat → Nat, ∀ a b, f a b = (a + b) % T256 := ⟨_, fun _ _ => rfl⟩
noncomputable def addS : Nat → Nat → Nat := Classical.choose addS_ex
theorem addS_def (a b : Nat) : addS a b = (a + b) % T256 := Classical.choose_spec addS_ex a b
theorem addO_ex : ∃ f : Nat → Nat → Bool, ∀ a b, f a b = decide (T256 ≤ a + b) := ⟨_, fun _ _ => rfl⟩
noncomputable def addO : Nat → Nat → Bool := Classical.choose addO_ex
theorem addO_def (a b : Nat) : addO a b = decide (T256 ≤ a + b) := Classical.choose_spec addO_ex a b
theorem subS_ex : ∃ f : Nat → Nat → Nat, ∀ a b, f a b = (a + T256 - b) % T256 := ⟨_, fun _ _ => rfl⟩
noncomputable def subS : Nat → Nat → Nat := Classical.choose subS_ex
theorem subS_def (a b : Nat) : subS a b = (a + T256 - b) % T256 := Classical.choose_spec subS_ex a b
theorem subO_ex : ∃ f : Nat → Nat → Bool, ∀ a b, f a b = decide (a < b) := ⟨_, fun _ _ => rfl⟩
noncomputable def subO : Nat → Nat → Bool := Classical.choose subO_ex
theorem subO_def (a b : Nat) : subO a b = decide (a < b) := Classical.choose_spec subO_ex a b
theorem addS_lt (a b : Nat) : addS a b < T256 := by rw [addS_def]; exact Nat.mod_lt _ (by decide)
theorem subS_lt (a b : Nat) : subS a b < T256 := by rw [subS_def]; exact Nat.mod_lt _ (by decide)

def acc (x y c : Nat) : Nat := (x + y + c) % B64
def car (x y c : Nat) : Nat := (x + y + c) / B64
theorem acc_lt (x y c : Nat) : acc x y c < B64 := Nat.mod_lt _ (by decide)
theorem car_le {x y c : Nat} (hx : x < B64) (hy : y < B64) (hc : c ≤ 1) : car x y c ≤ 1 := by
  unfold car; simp only [B64] at *; omega
theorem acc_car (x y c : Nat) : x + y + c = acc x y c + B64 * car x y c := (Nat.mod_add_div _ _).symm
theorem add_val4 {a0 a1 a2 a3 b0 b1 b2 b3 s0 s1 s2 s3 c1 c2 c3 c4 : Nat}
    (l0 : s0 < B64) (l1 : s1 < B64) (l2 : s2 < B64) (l3 : s3 < B64) (lc : c4 ≤ 1)
    (e0 : a0 + b0 + 0 = s0 + B64 * c1) (e1 : a1 + b1 + c1 = s1 + B64 * c2) (e2 : a2 + b2 + c2 = s2 + B64 * c3) (e3 : a3 + b3 + c3 = s3 + B64 * c4) :
    addS (val4 a0 a1 a2 a3) (val4 b0 b1 b2 b3) = val4 s0 s1 s2 s3 ∧ addO (val4 a0 a1 a2 a3) (val4 b0 b1 b2 b3) = (c4 == 1) := by
  have hl := val4_lt l0 l1 l2 l3
  have e : val4 a0 a1 a2 a3 + val4 b0 b1 b2 b3 = val4 s0 s1 s2 s3 + T256 * c4 := by
    rw [T256_eq]; unfold val4; simp only [B64] at *; omega
  rw [addS_def, addO_def]
  rw [e]
  have h : c4 = 0 ∨ c4 = 1 := by omega
  rcases h with rfl | rfl
  · refine ⟨by simp [Nat.mod_eq_of_lt hl], by simp; omega⟩
  · refine ⟨by simp [Nat.mod_eq_of_lt hl], by simp⟩
def dif (x y b : Nat) : Nat := (x + B64 - y - b) % B64
def bor (x y b : Nat) : Nat := if x < y + b then 1 else 0
theorem dif_lt (x y b : Nat) : dif x y b < B64 := Nat.mod_lt _ (by decide)
theorem bor_le (x y b : Nat) : bor x y b ≤ 1 := by unfold bor; split <;> omega
theorem dif_bor {x y b : Nat} (hx : x < B64) (hy : y < B64) (hb : b ≤ 1) : x + B64 * bor x y b = y + b + dif x y b := by
  unfold bor dif; simp only [B64] at *; split <;> omega
theorem sub_val4 {a0 a1 a2 a3 b0 b1 b2 b3 : Nat} (k0 : a0 < B64) (k1 : a1 < B64) (k2 : a2 < B64) (k3 : a3 < B64) (m0 : b0 < B64) (m1 : b1 < B64) (m2 : b2 < B64) (m3 : b3 < B64) :
    subS (val4 a0 a1 a2 a3) (val4 b0 b1 b2 b3) = val4 (dif a0 b0 0) (dif a1 b1 (bor a0 b0 0)) (dif a2 b2 (bor a1 b1 (bor a0 b0 0))) (dif a3 b3 (bor a2 b2 (bor a1 b1 (bor a0 b0 0)))) ∧
    subO (val4 a0 a1 a2 a3) (val4 b0 b1 b2 b3) = (bor a3 b3 (bor a2 b2 (bor a1 b1 (bor a0 b0 0))) == 1) := by
  have e0 := dif_bor k0 m0 (b := 0) (by omega)
  have e1 := dif_bor k1 m1 (bor_le a0 b0 0)
  have e2 := dif_bor k2 m2 (bor_le a1 b1 (bor a0 b0 0))
  have e3 := dif_bor k3 m3 (bor_le a2 b2 (bor a1 b1 (bor a0 b0 0)))
  have hl := val4_lt (dif_lt a0 b0 0) (dif_lt a1 b1 (bor a0 b0 0)) (dif_lt a2 b2 (bor a1 b1 (bor a0 b0 0))) (dif_lt a3 b3 (bor a2 b2 (bor a1 b1 (bor a0 b0 0))))
  have la := val4_lt k0 k1 k2 k3
  have lb := val4_lt m0 m1 m2 m3
  have hc := bor_le a3 b3 (bor a2 b2 (bor a1 b1 (bor a0 b0 0)))
  generalize bor a3 b3 (bor a2 b2 (bor a1 b1 (bor a0 b0 0))) = c4 at *
  generalize dif a3 b3 (bor a2 b2 (bor a1 b1 (bor a0 b0 0))) = d3 at *
  generalize bor a2 b2 (bor a1 b1 (bor a0 b0 0)) = c3 at *
  generalize dif a2 b2 (bor a1 b1 (bor a0 b0 0)) = d2 at *
  generalize bor a1 b1 (bor a0 b0 0) = c2 at *
  generalize dif a1 b1 (bor a0 b0 0) = d1 at *
  generalize bor a0 b0 0 = c1 at *
  generalize dif a0 b0 0 = d0 at *
  have e : val4 a0 a1 a2 a3 + T256 * c4 = val4 b0 b1 b2 b3 + val4 d0 d1 d2 d3 := by
    rw [T256_eq]; unfold val4; simp only [B64] at *; omega
  generalize val4 a0 a1 a2 a3 = A at *
  generalize val4 b0 b1 b2 b3 = B at *
  generalize val4 d0 d1 d2 d3 = D at *
  rw [subS_def, subO_def]
  have h : c4 = 0 ∨ c4 = 1 := by omega
  rcases h with rfl | rfl
  · refine ⟨?_, by simp; omega⟩
    rw [show A + T256 - B = D + T256 by omega, Nat.add_mod_right, Nat.mod_eq_of_lt hl]
  · refine ⟨?_, by simp; omega⟩
    rw [show A + T256 - B = D by omega, Nat.mod_eq_of_lt hl]
theorem beq_one (n : Nat) : ((n : Int) == 1) = (n == 1) := by
  rw [Bool.eq_iff_iff]; simp only [beq_iff_eq]; omega
end Go.Proofs.Ytilmfdlonpjjiaa
namespace Go.Proofs.Ytilmfdlonpjjiaa
set_option linter.unusedVariables false
set_option linter.unusedSimpArgs false
set_option linter.unusedSectionVars false
open Go.ChangeShapes Go.WideShapes Go.ChangeAt Go.RowKit Go.Joins
set_option maxRecDepth 10000
theorem fn_calls {P : Program} {G : Globs} {g : FuncId} {fn : Func} {code : Code} (hf : P.funcs[g]? = some fn) (hname : (fn.name == "runtime.NumGoroutine") = false) (hb : fn.body = some code) {us : List Value} {r : Value} {d : VV}
    (h : ∀ w, Calls P g us.toArray w fun e w' => e = .returned r ∧ w = w') (hd : ∀ E, VR E d r) : FnV P G g (us.map .v) d := by
  intro w A args _ ha
  have h1 : args.toList = us := VRs_v ha
  obtain rfl : args = us.toArray := by rw [← h1]
  have hent : (callFunc g us.toArray).run P w = .ok (.enter g us.toArray) w := by
    have h1 : fn.name ≠ "runtime.NumGoroutine" := by simpa using hname
    simp [callFunc, hf, h1, hb]
  unfold FGoes
  rw [hent]
  refine Calls.mono (h w) fun e w' ⟨he, hw⟩ => ⟨r, he, hd _, ?_⟩
  subst hw
  exact Below.refl _ _
theorem fn_val {P : Program} {G : Globs} {g : FuncId} {us : List Value} {r : Value} {d : VV} (h : ∀ w, (callFunc g us.toArray).run P w = .ok (.value r) w) (hd : ∀ E, VR E d r) : FnV P G g (us.map .v) d := by
  intro w A args _ ha
  have h1 : args.toList = us := VRs_v ha
  obtain rfl : args = us.toArray := by rw [← h1]
  unfold FGoes
  rw [h w]
  exact ⟨hd _, Below.refl _ _⟩
noncomputable def uV (n : Nat) : VV := .agg (words [lim n 0, lim n 1, lim n 2, lim n 3])
theorem uV_val4 {a b c d : Nat} (ha : a < B64) (hb : b < B64) (hc : c < B64) (hd : d < B64) : uV (val4 a b c d) = .agg (words [a, b, c, d]) := by
  obtain ⟨h0, h1, h2, h3⟩ := lim_val4 ha hb hc hd
  simp only [uV, h0, h1, h2, h3]
end Go.Proofs.Ytilmfdlonpjjiaa
namespace Go.Proofs.Ytilmfdlonpjjiaa
set_option linter.unusedVariables false
set_option linter.unusedSimpArgs false
set_option linter.unusedSectionVars false
open Go.ChangeShapes Go.WideShapes Go.ChangeAt Go.RowKit Go.Joins
set_option maxRecDepth 10000
theorem eq_loop {P : Program} {w : World} (f : Nat → Sem Bool) (q : Nat → Bool) : ∀ (l : List Nat), (∀ k ∈ l, (f k).run P w = .ok (q k) w) →
    (forIn l (none, ()) fun (i : Nat) (_ : Option Bool × Unit) => (do
      let b ← f i
      if (!b) = true then pure (ForInStep.done (some false, ())) else pure (ForInStep.yield (none, ())) : Sem (ForInStep (Option Bool × Unit)))).run P w = .ok (if l.all q then (none, ()) else (some false, ())) w
  | [], _ => by simp
  | k :: l, h => by
    have h1 := h k (by simp)
    have h2 := eq_loop f q l fun k hk => h k (by simp [hk])
    rw [List.forIn_cons]
    cases hq : q k with
    | true =>
      rw [hq] at h1
      simp only [Sem.run_bind, h1, Result.andThen_ok, Bool.not_true, Bool.false_eq_true, if_false, Sem.run_pure, List.all_cons, hq, Bool.true_and]
      exact h2
    | false =>
      rw [hq] at h1
      simp only [Sem.run_bind, h1, Result.andThen_ok, Bool.not_false, if_true, Sem.run_pure, List.all_cons, hq, Bool.false_and, Bool.false_eq_true, if_false]
theorem equal_arr {P : Program} {Γ : Tab} (hΓ : TabOk P Γ) {t e : TypeId} {n : Nat} {r : TR} (ht : P.underlying t = some (.array n e)) (he : Γ e = some r) (us vs : Array Value) (q : Nat → Bool) (d : Nat) (w : World)
    (hq : ∀ k, k < n → (do let x ← part e us (k * r.size); let y ← part e vs (k * r.size); Op.equalIn d e x y : Sem Bool).run P w = .ok (q k) w) :
    (Op.equalIn (d + 1) t (.agg us) (.agg vs)).run P w = .ok ((List.range n).all q) w := by
  have h := eq_loop (P := P) (w := w) (fun k => (do let x ← part e us (k * r.size); let y ← part e vs (k * r.size); Op.equalIn d e x y : Sem Bool)) q (List.range n) (fun k hk => hq k (by simpa using hk))
  unfold Op.equalIn
  simp only [Sem.run_bind, run_underlying ht, Result.andThen_ok]
  simp only [Std.Legacy.Range.forIn_eq_forIn_range', Std.Legacy.Range.size, Nat.sub_zero, Nat.add_sub_cancel, Nat.div_one]
  rw [run_sizeOf_tab hΓ he, Result.andThen_ok, ← List.range_eq_range']
  simp only [bind_assoc] at h
  rw [h, Result.andThen_ok]
  cases (List.range n).all q <;> simp
theorem VRs_same (E : Env) : ∀ us : List Value, VRs E (us.map VV.v) us
  | [] => by simp [VRs]
  | u :: us => VRs.cons rfl (VRs_same E us)
theorem equal_words {P : Program} {Γ : Tab} (hΓ : TabOk P Γ) {t e : TypeId} {n : Nat} {k : IntKind} {r : TR} (ht : P.underlying t = some (.array n e)) (he : Γ e = some r) (hr : r.d = .int k) (hs : r.size = 1) (hd : P.underlying e = some (.int k)) (l m : List Int) (hl : l.length = n) (hm : m.length = n) (d : Nat) (w : World) :
    (Op.equalIn (d + 2) t (.agg (l.map fun x => Value.int k x).toArray) (.agg (m.map fun x => Value.int k x).toArray)).run P w = .ok (decide (l = m)) w := by
  have hpart : ∀ (l : List Int) (i : Nat), i < l.length → (part e (l.map fun x => Value.int k x).toArray (i * r.size)).run P w = .ok (.int k (l.getD i 0)) w := by
    intro l i hi
    have h1 : vpart Γ e ((l.map fun x => Value.int k x).map VV.v) (i * r.size) = some (.v (.int k (l.getD i 0))) := by
      unfold vpart
      rw [he]
      simp only [hr, TD.agg, hs, Nat.mul_one]
      simp [List.getElem?_eq_getElem hi, List.getD]
    obtain ⟨u, h2, h3⟩ := vpart_ok hΓ (E := E0 w (fun _ => False)) h1 (VRs_same _ _) (by intro u hu; simp only [List.mem_map] at hu; obtain ⟨x, _, rfl⟩ := hu; rfl) w
    simp only [VR] at h3
    rw [h2, h3]
  have h := equal_arr hΓ (d := d + 1) ht he (l.map fun x => Value.int k x).toArray (m.map fun x => Value.int k x).toArray (fun i => l.getD i 0 == m.getD i 0) w (fun i hi => by
    simp only [Sem.run_bind, hpart l i (by omega), hpart m i (by omega), Result.andThen_ok]
    unfold Op.equalIn
    simp [run_underlying hd])
  rw [h]
  congr 1
  rw [Bool.eq_iff_iff, List.all_eq_true, decide_eq_true_iff]
  constructor
  · intro h
    refine List.ext_getElem (by omega) fun i h1 h2 => ?_
    have := h i (by simp; omega)
    simpa [List.getD, List.getElem?_eq_getElem h1, List.getElem?_eq_getElem h2] using this
  · rintro rfl i _
    simp
theorem eqAgg_ints {P : Program} {Γ : Tab} (hΓ : TabOk P Γ) {t e : TypeId} {n : Nat} {k : IntKind} {r : TR} (ht : P.underlying t = some (.array n e)) (he : Γ e = some r) (hr : r.d = .int k) (hs : r.size = 1) (hd : P.underlying e = some (.int k))
    (hg : P.eqGuardType P.depth t = false) (l m : List Int) (hl : l.length = n) (hm : m.length = n) : EqAgg P .eql t (l.map fun x => nI k x) (m.map fun x => nI k x) (decide (l = m)) := by
  refine ⟨l.map fun x => .int k x, m.map fun x => .int k x, by simp [nI], by simp [nI], fun ox oy w => ?_⟩
  have h := equal_words hΓ ht he hr hs hd l m hl hm 9998 w
  have hg1 : (eqGuard .eql t ox oy (.agg (l.map fun x => Value.int k x).toArray) (.agg (m.map fun x => Value.int k x).toArray)).run P w = .ok () w := by
    unfold eqGuard
    simp [hg]
  simp only [Sem.run_bind, hg1, Result.andThen_ok]
  show (do let b ← Op.equal t _ _; pure (Value.bool b) : Sem Value).run P w = _
  simp only [Sem.run_bind]
  rw [show (Op.equal t (.agg (l.map fun x => Value.int k x).toArray) (.agg (m.map fun x => Value.int k x).toArray)).run P w = .ok (decide (l = m)) w from h]
  simp
theorem eqAgg_ints_ne {P : Program} {Γ : Tab} (hΓ : TabOk P Γ) {t e : TypeId} {n : Nat} {k : IntKind} {r : TR} (ht : P.underlying t = some (.array n e)) (he : Γ e = some r) (hr : r.d = .int k) (hs : r.size = 1) (hd : P.underlying e = some (.int k))
    (hg : P.eqGuardType P.depth t = false) (l m : List Int) (hl : l.length = n) (hm : m.length = n) : EqAgg P .neq t (l.map fun x => nI k x) (m.map fun x => nI k x) (!decide (l = m)) := by
  refine ⟨l.map fun x => .int k x, m.map fun x => .int k x, by simp [nI], by simp [nI], fun ox oy w => ?_⟩
  have h := equal_words hΓ ht he hr hs hd l m hl hm 9998 w
  have hg1 : (eqGuard .neq t ox oy (.agg (l.map fun x => Value.int k x).toArray) (.agg (m.map fun x => Value.int k x).toArray)).run P w = .ok () w := by
    unfold eqGuard
    simp [hg]
  simp only [Sem.run_bind, hg1, Result.andThen_ok]
  show (do let b ← Op.equal t _ _; pure (Value.bool (!b)) : Sem Value).run P w = _
  simp only [Sem.run_bind]
  rw [show (Op.equal t (.agg (l.map fun x => Value.int k x).toArray) (.agg (m.map fun x => Value.int k x).toArray)).run P w = .ok (decide (l = m)) w from h]
  simp
/-- '==' of two numbers of 256 bits. -/
theorem words_map (l : List Nat) : words l = (l.map fun (x : Nat) => (x : Int)).map fun x => nI .u64 x := by simp [words]
theorem map_cast_eq (l m : List Nat) : (l.map (fun (x : Nat) => (x : Int)) = m.map fun (x : Nat) => (x : Int)) ↔ l = m := by
  refine ⟨fun h => ?_, fun h => by rw [h]⟩
  have := congrArg (List.map Int.toNat) h
  simpa [List.map_map, Function.comp_def] using this
theorem uV_inj {a b : Nat} (ha : a < T256) (hb : b < T256) (h : [lim a 0, lim a 1, lim a 2, lim a 3] = [lim b 0, lim b 1, lim b 2, lim b 3]) : a = b := by
  simp only [List.cons.injEq, and_true] at h
  rw [← val4_lim ha, ← val4_lim hb, h.1, h.2.1, h.2.2.1, h.2.2.2]
noncomputable def uC (n : Nat) : List VV := words [lim n 0, lim n 1, lim n 2, lim n 3]
theorem eq_uC {a b : Nat} (ha : a < T256) (hb : b < T256) : EqAgg Try.prog .eql 27 (uC a) (uC b) (decide (a = b)) := by
  have h := eqAgg_ints (k := .u64) Γok (t := 27) (e := 25) Try.underlying27 rfl rfl rfl Try.underlying25 (by kernel_rfl) ([lim a 0, lim a 1, lim a 2, lim a 3].map fun (x : Nat) => (x : Int)) ([lim b 0, lim b 1, lim b 2, lim b 3].map fun (x : Nat) => (x : Int)) rfl rfl
  rw [← words_map, ← words_map] at h
  rw [show decide (a = b) = decide ([lim a 0, lim a 1, lim a 2, lim a 3].map (fun (x : Nat) => (x : Int)) = [lim b 0, lim b 1, lim b 2, lim b 3].map fun (x : Nat) => (x : Int)) from decide_eq_decide.2 ⟨fun h => by rw [h], fun h => uV_inj ha hb ((map_cast_eq _ _).1 h)⟩]
  exact h
theorem ne_uC {a b : Nat} (ha : a < T256) (hb : b < T256) : EqAgg Try.prog .neq 27 (uC a) (uC b) (!decide (a = b)) := by
  have h := eqAgg_ints_ne (k := .u64) Γok (t := 27) (e := 25) Try.underlying27 rfl rfl rfl Try.underlying25 (by kernel_rfl) ([lim a 0, lim a 1, lim a 2, lim a 3].map fun (x : Nat) => (x : Int)) ([lim b 0, lim b 1, lim b 2, lim b 3].map fun (x : Nat) => (x : Int)) rfl rfl
  rw [← words_map, ← words_map] at h
  rw [show decide (a = b) = decide ([lim a 0, lim a 1, lim a 2, lim a 3].map (fun (x : Nat) => (x : Int)) = [lim b 0, lim b 1, lim b 2, lim b 3].map fun (x : Nat) => (x : Int)) from decide_eq_decide.2 ⟨fun h => by rw [h], fun h => uV_inj ha hb ((map_cast_eq _ _).1 h)⟩]
  exact h
theorem uC_lit {n : Nat} (h : n < B64) : uC n = words [n, 0, 0, 0] := by
  have := lim_val4 (a := n) (b := 0) (c := 0) (d := 0) h (by decide) (by decide) (by decide)
  rw [show val4 n 0 0 0 = n by unfold val4; omega] at this
  unfold uC
  rw [this.1, this.2.1, this.2.2.1, this.2.2.2]
end Go.Proofs.Ytilmfdlonpjjiaa
namespace Go.Proofs.Ytilmfdlonpjjiaa
set_option linter.unusedVariables false
set_option linter.unusedSimpArgs false
set_option linter.unusedSectionVars false
open Go.ChangeShapes Go.WideShapes Go.ChangeAt Go.RowKit Go.Joins
set_option maxRecDepth 10000
/-- Cells of bytes. -/
def bts (l : List Nat) : List VV := l.map fun (x : Nat) => nI .u8 x
def bt (l : List Nat) (i : Nat) : Nat := l.getD (i / 8) 0 / 2 ^ (8 * (i % 8)) % 256
def btsTo (l : List Nat) (i : Nat) : List Nat := (List.range 32).map fun j => if 32 - i ≤ j then bt l (31 - j) else 0
theorem bts_noHs (l : List Nat) : noHs (bts l) = true := noHs_map (fun _ => rfl) l
theorem bts_length (l : List Nat) : (bts l).length = l.length := by simp [bts]
theorem bts_set (l : List Nat) (i x : Nat) : (bts l).set i (nI .u8 (x : Int)) = bts (l.set i x) := by simp [bts, List.map_set]
theorem splice_bts {l : List Nat} {j i x : Nat} (h : j = i) (hi : i < l.length) : (bts l).set j (VV.v (.int .u8 (x : Int))) = bts (l.set i x) := by
  subst h
  exact bts_set l j x
theorem btsTo_length (l : List Nat) (i : Nat) : (btsTo l i).length = 32 := by simp [btsTo]
theorem btsTo_set (l : List Nat) (i : Nat) (h : i < 32) : (btsTo l i).set (31 - i) (bt l i) = btsTo l (i + 1) := by
  refine List.ext_getElem (by simp [btsTo]) fun j h1 h2 => ?_
  have hj : j < 32 := by simpa [btsTo] using h2
  simp only [btsTo, List.getElem_set, List.getElem_map, List.getElem_range]
  by_cases e : 31 - i = j
  · rw [if_pos e, if_pos (by omega), show 31 - j = i by omega]
  · rw [if_neg e]
    by_cases e2 : 32 - i ≤ j
    · rw [if_pos e2, if_pos (by omega)]
    · rw [if_neg e2, if_neg (by omega)]
theorem bytes_fn (l : List Nat) (hl : l.length = 4) (hb : ∀ x ∈ l, x < 2 ^ 64) : FnV Try.prog G0 104 [.agg (words l)] (.agg (bts (btsTo l 32))) := by
  refine fn_of_vwp Γok Try.func104 (by kernel_rfl) rfl (by simp [Try.ntmps104]) (wpv_ok Γok (by kernel_rfl) _ _ _ ?_); conv => whnf
  refine vloop_invP (X := Nat) (fun i => ⟨[(5, nI .i64 i), (3, .ptr 2 0), (2, .ptr 1 0), (1, .ptr 0 0)], Try.f104.ntmps, [(2, some (bts (btsTo l i))), (1, some (List.replicate 32 (nI .u8 0))), (0, some (words l))], 3⟩)
    (fun i => i ≤ 32) (fun i => 32 - i) 0
    (sub_conv G0ok [(0, some 0), (1, some 1), (2, some 2)] rfl rfl ⟨⟨_, rfl, conv_nI rfl⟩, ⟨_, rfl, .ptr rfl⟩, ⟨_, rfl, .ptr rfl⟩, ⟨_, rfl, .ptr rfl⟩, trivial⟩
      ⟨.inr ⟨_, _, rfl, rfl, convs_eq rfl (bts_noHs _)⟩, .inr ⟨_, _, rfl, rfl, convs_eq rfl rfl⟩, .inr ⟨_, _, rfl, rfl, convs_eq rfl (words_noHs _)⟩, trivial⟩) (Nat.zero_le _) ?_
  intro i hi
  dsimp only at hi ⊢
  refine wpv_ok Γok (by kernel_rfl) _ _ _ ?_; conv => whnf
  refine bool_cases (fun hc => ?_) (fun hc => ?_)
  · have hc := of_decide_eq_true hc
    conv => whnf
    rw [Int.tdiv_eq_ediv_of_nonneg (by omega), ws_i64 (x := (i : Int) / 8) (by omega) (by omega)]
    conv => whnf
    refine bindP_intro (if_pos (inB_ok (by omega) (by omega))) ?_; conv => whnf
    refine bindP_intro (words_ix (i := i / 8) (by dsimp only; omega) (by omega)) ?_
    conv => whnf
    rw [Int.tmod_eq_emod_of_nonneg (by omega), ws_i64 (x := 8 * ((i : Int) % 8)) (by omega) (by omega), show 8 * ((i : Int) % 8) = ((8 * (i % 8) : Nat) : Int) from by omega]
    conv => whnf
    have hx := getD_lt (by omega) hb (i / 8)
    rw [shr_val (k := .u64) (x := l.getD (i / 8) 0) (n := 8 * (i % 8)) (by simp only [IntKind.bits]; omega), ws_u8, show (((l.getD (i / 8) 0 / 2 ^ (8 * (i % 8)) : Nat) : Int) % 256) = ((bt l i : Nat) : Int) from by unfold bt; push_cast; rfl]
    rw [ws_i64 (x := 31 - (i : Int)) (by omega) (by omega)]
    conv => whnf
    refine bindP_intro (if_pos (inB_ok (by omega) (by omega))) ?_; conv => whnf
    refine onlyIf_intro ?_ ?_
    · simp [bts_length, btsTo_length]
    conv => whnf
    rw [splice_bts (i := 31 - i) (by dsimp only; omega) (by rw [btsTo_length]; omega), btsTo_set l i (by omega)]
    conv => whnf
    refine ⟨i + 1, sub_conv G0ok [(0, some 0), (1, some 1), (2, some 2)] rfl rfl ⟨⟨_, rfl, conv_nI (ws_i64 (by omega) (by omega))⟩, ⟨_, rfl, .ptr rfl⟩, ⟨_, rfl, .ptr rfl⟩, ⟨_, rfl, .ptr rfl⟩, trivial⟩
      ⟨.inr ⟨_, _, rfl, rfl, convs_eq rfl (bts_noHs _)⟩, .inr ⟨_, _, rfl, rfl, convs_eq rfl rfl⟩, .inr ⟨_, _, rfl, rfl, convs_eq rfl (words_noHs _)⟩, trivial⟩, by omega, by omega⟩
  · have hc := of_decide_eq_false hc
    have hi2 : i = 32 := by omega
    subst hi2
    conv => whnf
    exact ⟨_, rfl, rfl⟩
theorem bts_map (l : List Nat) : bts l = (l.map fun (x : Nat) => (x : Int)).map fun x => nI .u8 x := by simp [bts]
theorem eq_b32 {l m : List Nat} (hl : l.length = 32) (hm : m.length = 32) : EqAgg Try.prog .eql 28 (bts l) (bts m) (decide (l = m)) := by
  have h := eqAgg_ints (k := .u8) Γok (t := 28) (e := 5) Try.underlying28 rfl rfl rfl Try.underlying5 (by kernel_rfl) (l.map fun (x : Nat) => (x : Int)) (m.map fun (x : Nat) => (x : Int)) (by simpa using hl) (by simpa using hm)
  rw [← bts_map, ← bts_map] at h
  rw [show decide (l = m) = decide ((l.map fun (x : Nat) => (x : Int)) = m.map fun (x : Nat) => (x : Int)) from decide_eq_decide.2 (map_cast_eq _ _).symm]
  exact h
end Go.Proofs.Ytilmfdlonpjjiaa
namespace Go.Proofs.Ytilmfdlonpjjiaa
set_option linter.unusedVariables false
set_option linter.unusedSimpArgs false
set_option linter.unusedSectionVars false
open Go.ChangeShapes Go.WideShapes Go.ChangeAt Go.RowKit Go.Joins
set_option maxRecDepth 10000
/-- The bytes of a number, the highest one first. -/
noncomputable def nB (n : Nat) : List Nat := hid (btsTo [lim n 0, lim n 1, lim n 2, lim n 3] 32)
theorem nB_len (n : Nat) : (nB n).length = 32 := by unfold nB; rw [hid_eq, btsTo_length]
theorem nB_lt (n : Nat) : ∀ x ∈ nB n, x < 256 := by
  intro x hx
  unfold nB at hx
  rw [hid_eq] at hx
  obtain ⟨j, _, rfl⟩ := List.mem_map.1 hx
  split
  · unfold bt; omega
  · decide
theorem nbytes_fn (n : Nat) : FnV Try.prog G0 104 [uV n] (.agg (bts (nB n))) := by
  have := bytes_fn [lim n 0, lim n 1, lim n 2, lim n 3] rfl (by
    intro x hx
    have h := fun i => lim_lt n i
    rw [B64_eq] at h
    simp only [List.mem_cons, List.not_mem_nil, or_false] at hx
    rcases hx with rfl | rfl | rfl | rfl <;> exact h _)
  unfold nB
  rw [hid_eq]
  exact this
end Go.Proofs.Ytilmfdlonpjjiaa
namespace Go.Proofs.Ytilmfdlonpjjiaa
set_option linter.unusedVariables false
set_option linter.unusedSimpArgs false
set_option linter.unusedSectionVars false
open Go.ChangeShapes Go.WideShapes Go.ChangeAt Go.RowKit Go.Joins
theorem lim_put {q p d : Nat} (hq : q < T256) (hd : d < 4) (h : lim q d + p < B64) : lim (q + B64 ^ d * p) d = lim q d + p ∧ (∀ e, e < 4 → e ≠ d → lim (q + B64 ^ d * p) e = lim q e) ∧ q + B64 ^ d * p < T256 := by
  obtain ⟨a0, a1, a2, a3, k0, k1, k2, k3, rfl⟩ := limbs hq
  obtain ⟨x0, x1, x2, x3⟩ := lim_val4 k0 k1 k2 k3
  have four : ∀ e, e < 4 → e = 0 ∨ e = 1 ∨ e = 2 ∨ e = 3 := by omega
  rcases four d hd with rfl | rfl | rfl | rfl
  · rw [x0] at h
    rw [show val4 a0 a1 a2 a3 + B64 ^ 0 * p = val4 (a0 + p) a1 a2 a3 by unfold val4; simp; omega]
    obtain ⟨y0, y1, y2, y3⟩ := lim_val4 h k1 k2 k3
    refine ⟨by rw [y0, x0], ?_, val4_lt h k1 k2 k3⟩
    intro e he hne
    rcases four e he with rfl | rfl | rfl | rfl <;> first | exact absurd rfl hne | rw [y1, x1] | rw [y2, x2] | rw [y3, x3]
  · rw [x1] at h
    rw [show val4 a0 a1 a2 a3 + B64 ^ 1 * p = val4 a0 (a1 + p) a2 a3 by unfold val4; simp only [Nat.mul_add, Nat.pow_one]; omega]
    obtain ⟨y0, y1, y2, y3⟩ := lim_val4 k0 h k2 k3
    refine ⟨by rw [y1, x1], ?_, val4_lt k0 h k2 k3⟩
    intro e he hne
    rcases four e he with rfl | rfl | rfl | rfl <;> first | exact absurd rfl hne | rw [y0, x0] | rw [y2, x2] | rw [y3, x3]
  · rw [x2] at h
    rw [show val4 a0 a1 a2 a3 + B64 ^ 2 * p = val4 a0 a1 (a2 + p) a3 by unfold val4; simp only [Nat.mul_add, Nat.pow_succ, Nat.pow_zero, Nat.one_mul]; omega]
    obtain ⟨y0, y1, y2, y3⟩ := lim_val4 k0 k1 h k3
    refine ⟨by rw [y2, x2], ?_, val4_lt k0 k1 h k3⟩
    intro e he hne
    rcases four e he with rfl | rfl | rfl | rfl <;> first | exact absurd rfl hne | rw [y0, x0] | rw [y1, x1] | rw [y3, x3]
  · rw [x3] at h
    rw [show val4 a0 a1 a2 a3 + B64 ^ 3 * p = val4 a0 a1 a2 (a3 + p) by unfold val4; simp only [Nat.mul_add, Nat.pow_succ, Nat.pow_zero, Nat.one_mul]; omega]
    obtain ⟨y0, y1, y2, y3⟩ := lim_val4 k0 k1 k2 h
    refine ⟨by rw [y3, x3], ?_, val4_lt k0 k1 k2 h⟩
    intro e he hne
    rcases four e he with rfl | rfl | rfl | rfl <;> first | exact absurd rfl hne | rw [y0, x0] | rw [y1, x1] | rw [y2, x2]

end Go.Proofs.Ytilmfdlonpjjiaa
namespace Go.Proofs.Ytilmfdlonpjjiaa
set_option linter.unusedVariables false
set_option linter.unusedSimpArgs false
set_option linter.unusedSectionVars false
open Go.ChangeShapes Go.WideShapes Go.ChangeAt Go.RowKit Go.Joins
set_option maxRecDepth 10000
noncomputable def limL (n : Nat) : List Nat := [lim n 0, lim n 1, lim n 2, lim n 3]
def fromV (c : List Nat) : Nat → Nat
  | 0 => 0
  | i + 1 => fromV c i + c.getD i 0 * 2 ^ (8 * (31 - i))
theorem bts_ix {c : List Nat} {j i : Nat} (h : j = i) (hi : i < c.length) : (bts c)[j]? = some (nI .u8 ((c.getD i 0 : Nat) : Int)) := by
  subst h
  simp [bts, List.getElem?_eq_getElem hi, List.getD]
/-- A byte more, below all that stands. -/
theorem put_byte {v b k : Nat} (hv : v < T256) (hk : k < 32) (hm : v % 2 ^ (8 * (k + 1)) = 0) (hb : b < 256) :
    (limL v).set (k / 8) ((limL v).getD (k / 8) 0 ||| b * 2 ^ (8 * (k % 8))) = limL (v + b * 2 ^ (8 * k)) ∧ v + b * 2 ^ (8 * k) < T256 ∧ (v + b * 2 ^ (8 * k)) % 2 ^ (8 * k) = 0 ∧ b * 2 ^ (8 * (k % 8)) < 2 ^ 64 ∧ (limL v).getD (k / 8) 0 < 2 ^ 64 := by
  obtain ⟨t, rfl⟩ := Nat.dvd_of_mod_eq_zero hm
  have hd : k / 8 < 4 := by omega
  have e1 : 2 ^ (8 * (k + 1)) = B64 ^ (k / 8) * 2 ^ (8 * (k % 8) + 8) := by
    rw [B64_eq, ← Nat.pow_mul, ← Nat.pow_add]
    congr 1; omega
  have e2 : B64 = 2 ^ (8 * (k % 8) + 8) * 2 ^ (56 - 8 * (k % 8)) := by
    rw [B64_eq, ← Nat.pow_add]
    congr 1; omega
  have hB : 0 < B64 ^ (k / 8) := Nat.pow_pos (by decide)
  have e3 : lim (2 ^ (8 * (k + 1)) * t) (k / 8) = 2 ^ (8 * (k % 8) + 8) * (t % 2 ^ (56 - 8 * (k % 8))) := by
    rw [lim_def, e1, Nat.mul_assoc, Nat.mul_div_cancel_left _ hB, e2, Nat.mul_mod_mul_left]
  have hlt : t % 2 ^ (56 - 8 * (k % 8)) < 2 ^ (56 - 8 * (k % 8)) := Nat.mod_lt _ (Nat.pow_pos (by omega))
  have hb2 : b * 2 ^ (8 * (k % 8)) < 2 ^ (8 * (k % 8) + 8) := by
    rw [Nat.pow_add, Nat.mul_comm]
    exact Nat.mul_lt_mul_of_pos_left (by omega) (Nat.pow_pos (by omega))
  have hsum : lim (2 ^ (8 * (k + 1)) * t) (k / 8) + b * 2 ^ (8 * (k % 8)) < B64 := by
    rw [e3]
    have h1 : 2 ^ (8 * (k % 8) + 8) * (t % 2 ^ (56 - 8 * (k % 8)) + 1) ≤ 2 ^ (8 * (k % 8) + 8) * 2 ^ (56 - 8 * (k % 8)) := Nat.mul_le_mul_left _ hlt
    rw [← e2, Nat.mul_add, Nat.mul_one] at h1
    omega
  have e4 : b * 2 ^ (8 * k) = B64 ^ (k / 8) * (b * 2 ^ (8 * (k % 8))) := by
    have : 2 ^ (8 * k) = B64 ^ (k / 8) * 2 ^ (8 * (k % 8)) := by
      rw [B64_eq, ← Nat.pow_mul, ← Nat.pow_add]
      congr 1; omega
    rw [this, Nat.mul_left_comm]
  obtain ⟨p1, p2, p3⟩ := lim_put hv hd hsum
  have e5 : lim (2 ^ (8 * (k + 1)) * t) (k / 8) ||| b * 2 ^ (8 * (k % 8)) = lim (2 ^ (8 * (k + 1)) * t) (k / 8) + b * 2 ^ (8 * (k % 8)) := by
    rw [e3]
    exact (Nat.two_pow_add_eq_or_of_lt hb2 _).symm
  have e6 : ∀ v, (limL v).getD (k / 8) 0 = lim v (k / 8) := by
    intro v
    have : k / 8 = 0 ∨ k / 8 = 1 ∨ k / 8 = 2 ∨ k / 8 = 3 := by omega
    rcases this with h | h | h | h <;> rw [h] <;> rfl
  refine ⟨?_, by rw [e4]; exact p3, ?_, ?_, ?_⟩
  · rw [e6, e5, ← p1, e4]
    generalize 2 ^ (8 * (k + 1)) * t = v at *
    generalize B64 ^ (k / 8) * (b * 2 ^ (8 * (k % 8))) = q at *
    have : k / 8 = 0 ∨ k / 8 = 1 ∨ k / 8 = 2 ∨ k / 8 = 3 := by omega
    rcases this with h | h | h | h <;> rw [h] at p2 ⊢ <;> simp only [limL, List.set_cons_zero, List.set_cons_succ]
    · rw [p2 1 (by omega) (by omega), p2 2 (by omega) (by omega), p2 3 (by omega) (by omega)]
    · rw [p2 0 (by omega) (by omega), p2 2 (by omega) (by omega), p2 3 (by omega) (by omega)]
    · rw [p2 0 (by omega) (by omega), p2 1 (by omega) (by omega), p2 3 (by omega) (by omega)]
    · rw [p2 0 (by omega) (by omega), p2 1 (by omega) (by omega), p2 2 (by omega) (by omega)]
  · have : 2 ^ (8 * (k + 1)) * t = 2 ^ (8 * k) * (256 * t) := by
      rw [show 8 * (k + 1) = 8 * k + 8 by omega, Nat.pow_add]; rw [Nat.mul_assoc]
    rw [this, Nat.mul_comm b, ← Nat.mul_add, Nat.mul_mod_right]
  · rw [B64_eq] at hsum; omega
  · rw [e6, ← B64_eq]; exact lim_lt _ _
theorem from_fn (c : List Nat) (hc : c.length = 32) (hb : ∀ x ∈ c, x < 256) : FnV Try.prog G0 68 [.agg (bts c)] (uV (fromV c 32)) := by
  refine fn_of_vwp Γok Try.func68 (by kernel_rfl) rfl (by simp [Try.ntmps68]) (wpv_ok Γok (by kernel_rfl) _ _ _ ?_); conv => whnf
  refine bindP_intro (load_agg rfl rfl (by simp [bts_length, *])) ?_
  conv => whnf
  refine vloop_invP (X := Nat) (fun i => ⟨[(8, nI .i64 i), (7, .agg (bts c)), (3, .ptr 2 0), (2, .ptr 1 0)], Try.f68.ntmps, [(2, some (words (limL (fromV c i)))), (1, some (words [0, 0, 0, 0]))], 3⟩)
    (fun i => i ≤ 32 ∧ fromV c i < T256 ∧ fromV c i % 2 ^ (8 * (32 - i)) = 0) (fun i => 32 - i) 0
    (sub_conv G0ok [(1, some 1), (2, some 2)] rfl rfl ⟨⟨_, rfl, conv_nI rfl⟩, ⟨_, rfl, conv_eq rfl (bts_noHs _)⟩, ⟨_, rfl, .ptr rfl⟩, ⟨_, rfl, .ptr rfl⟩, trivial⟩
      ⟨.inr ⟨_, _, rfl, rfl, convs_eq (by rw [show limL (fromV c 0) = [0, 0, 0, 0] from by simp [limL, lim_def, fromV]]; rfl) (words_noHs _)⟩, .inr ⟨_, _, rfl, rfl, convs_eq rfl rfl⟩, trivial⟩) ⟨Nat.zero_le _, by simp only [fromV]; decide, by simp only [fromV, Nat.zero_mod]⟩ ?_
  rintro i ⟨hi, hv, hm⟩
  dsimp only at hi ⊢
  refine wpv_ok Γok (by kernel_rfl) _ _ _ ?_; conv => whnf
  refine bool_cases (fun hc' => ?_) (fun hc' => ?_)
  · have hc' := of_decide_eq_true hc'
    have hci : c.getD i 0 < 256 := getD_lt (by omega) hb i
    obtain ⟨k, hk⟩ : ∃ k : Nat, 31 - i = k := ⟨_, rfl⟩
    have hm' : fromV c i % 2 ^ (8 * (k + 1)) = 0 := by rw [show k + 1 = 32 - i by omega]; exact hm
    obtain ⟨q1, q2, q3, q4, q5⟩ := put_byte hv (by omega) hm' hci
    conv => whnf
    refine bindP_intro ((if_pos (inB_ok (by omega) (by omega))).trans (bts_ix (i := i) (by dsimp only; omega) (by omega))) ?_
    conv => whnf
    rw [ws_i64 (x := 31 - (i : Int)) (by omega) (by omega), show (31 : Int) - i = (k : Int) from by omega]
    rw [Int.tdiv_eq_ediv_of_nonneg (by omega), ws_i64 (x := (k : Int) / 8) (by omega) (by omega)]
    conv => whnf
    refine bindP_intro (if_pos (inB_ok (by omega) (by omega))) ?_; conv => whnf
    refine bindP_intro (words_ix (i := k / 8) (by dsimp only; omega) (by simp only [limL, List.length_cons, List.length_nil]; omega)) ?_
    conv => whnf
    rw [ws_u64n (x := ((c.getD i 0 : Nat) : Int)) (by omega) (by omega)]
    rw [Int.tmod_eq_emod_of_nonneg (by omega), ws_i64 (x := 8 * ((k : Int) % 8)) (by omega) (by omega), show 8 * ((k : Int) % 8) = ((8 * (k % 8) : Nat) : Int) from by omega]
    conv => whnf
    rw [shl_val (k := .u64) (x := ((c.getD i 0 : Nat) : Int)) (n := 8 * (k % 8)) (by simp only [IntKind.bits]; omega), ← Int.natCast_mul, u64_wrap q4, u64_or q5 q4]
    conv => whnf
    refine bindP_intro (if_pos (inB_ok (by omega) (by omega))) ?_; conv => whnf
    refine onlyIf_intro ?_ ?_
    · simp [words_length, limL]
      omega
    conv => whnf
    rw [splice_words (i := k / 8) (by dsimp only; omega) (by simp only [limL, List.length_cons, List.length_nil]; omega), q1]
    conv => whnf
    refine ⟨by kernel_rfl, ?_⟩
    conv => whnf
    refine ⟨i + 1, sub_conv G0ok [(1, some 1), (2, some 2)] rfl rfl ⟨⟨_, rfl, conv_nI (ws_i64 (by omega) (by omega))⟩, ⟨_, rfl, conv_eq rfl (bts_noHs _)⟩, ⟨_, rfl, .ptr rfl⟩, ⟨_, rfl, .ptr rfl⟩, trivial⟩
      ⟨.inr ⟨_, _, rfl, rfl, convs_eq (by simp only [fromV, hk]) (words_noHs _)⟩, .inr ⟨_, _, rfl, rfl, convs_eq rfl rfl⟩, trivial⟩, ⟨by omega, by simp only [fromV, hk]; exact q2, ?_⟩, by omega⟩
    simp only [fromV, hk]
    rw [show 32 - (i + 1) = k by omega]
    exact q3
  · have hc' := of_decide_eq_false hc'
    have hi2 : i = 32 := by omega
    subst hi2
    conv => whnf
    exact ⟨_, rfl, rfl⟩
end Go.Proofs.Ytilmfdlonpjjiaa
namespace Go.Proofs.Ytilmfdlonpjjiaa
set_option linter.unusedVariables false
set_option linter.unusedSimpArgs false
set_option linter.unusedSectionVars false
open Go.ChangeShapes Go.WideShapes Go.ChangeAt Go.RowKit Go.Joins
theorem bt_val (n i : Nat) (hi : i < 32) : bt (limL n) i = n / 2 ^ (8 * i) % 256 := by
  have e6 : (limL n).getD (i / 8) 0 = lim n (i / 8) := by
    have : i / 8 = 0 ∨ i / 8 = 1 ∨ i / 8 = 2 ∨ i / 8 = 3 := by omega
    rcases this with h | h | h | h <;> rw [h] <;> rfl
  unfold bt
  rw [e6]
  rw [lim_def, B64_eq, ← Nat.pow_mul, show (256 : Nat) = 2 ^ 8 from rfl]
  refine Nat.eq_of_testBit_eq fun j => ?_
  simp only [Nat.testBit_mod_two_pow, Nat.testBit_div_two_pow]
  by_cases hj : j < 8
  · simp only [hj, decide_true, Bool.true_and]
    rw [decide_eq_true (by omega), Bool.true_and]
    congr 1; omega
  · simp [hj]
theorem btsTo_getD (n j : Nat) (hj : j < 32) : (btsTo (limL n) 32).getD j 0 = n / 2 ^ (8 * (31 - j)) % 256 := by
  rw [← bt_val n (31 - j) (by omega)]
  simp [btsTo, List.getD, hj]
theorem from_bytes (n : Nat) : ∀ i, i ≤ 32 → fromV (btsTo (limL n) 32) i = (n % 2 ^ 256) / 2 ^ (8 * (32 - i)) * 2 ^ (8 * (32 - i))
  | 0, _ => by
    simp only [fromV]
    rw [Nat.div_eq_of_lt (Nat.mod_lt _ (Nat.pow_pos (by omega))), Nat.zero_mul]
  | i + 1, hi => by
    simp only [fromV]
    rw [from_bytes n i (by omega), btsTo_getD n i (by omega)]
    obtain ⟨k, hk⟩ : ∃ k, 31 - i = k := ⟨_, rfl⟩
    rw [hk, show 32 - i = k + 1 by omega, show 32 - (i + 1) = k by omega]
    have e1 : n / 2 ^ (8 * k) % 256 = (n % 2 ^ 256) / 2 ^ (8 * k) % 256 := by
      rw [show (256 : Nat) = 2 ^ 8 from rfl]
      refine Nat.eq_of_testBit_eq fun j => ?_
      simp only [Nat.testBit_mod_two_pow, Nat.testBit_div_two_pow]
      by_cases hj : j < 8
      · simp only [hj, decide_true, Bool.true_and]
        rw [decide_eq_true (by omega), Bool.true_and]
      · simp [hj]
    rw [e1]
    generalize n % 2 ^ 256 = m
    have e2 : 2 ^ (8 * (k + 1)) = 2 ^ (8 * k) * 256 := by rw [show 8 * (k + 1) = 8 * k + 8 by omega, Nat.pow_add]
    rw [e2, ← Nat.div_div_eq_div_mul]
    generalize m / 2 ^ (8 * k) = q
    generalize 2 ^ (8 * k) = p
    have := Nat.div_add_mod q 256
    rw [show q / 256 * (p * 256) + q % 256 * p = (256 * (q / 256) + q % 256) * p by rw [Nat.add_mul]; congr 1; rw [Nat.mul_comm p 256, ← Nat.mul_assoc, Nat.mul_comm (q / 256) 256], this]
theorem from_bytes_all {n : Nat} (h : n < T256) : fromV (btsTo (limL n) 32) 32 = n := by
  rw [from_bytes n 32 (Nat.le_refl _)]
  unfold T256 at h
  simp [Nat.mod_eq_of_lt h]
theorem fromV_rest (c : List Nat) (hb : ∀ x ∈ c, x < 256) (m : Nat) : ∀ t, m + t ≤ 32 → ∃ r, fromV c (m + t) = fromV c m + r ∧ r + 2 ^ (8 * (32 - (m + t))) ≤ 2 ^ (8 * (32 - m))
  | 0, _ => ⟨0, by simp, by simp⟩
  | t + 1, h => by
    obtain ⟨r, h1, h2⟩ := fromV_rest c hb m t (by omega)
    have hc := getD_lt (by omega) hb (m + t)
    obtain ⟨k, hk⟩ : ∃ k, 31 - (m + t) = k := ⟨_, rfl⟩
    refine ⟨r + c.getD (m + t) 0 * 2 ^ (8 * k), ?_, ?_⟩
    · rw [← Nat.add_assoc]
      simp only [fromV, h1, hk]
      omega
    · rw [show 32 - (m + t) = k + 1 by omega, show 8 * (k + 1) = 8 * k + 8 by omega, Nat.pow_add] at h2
      rw [show 32 - (m + (t + 1)) = k by omega]
      have : c.getD (m + t) 0 * 2 ^ (8 * k) ≤ 255 * 2 ^ (8 * k) := Nat.mul_le_mul_right _ (by omega)
      generalize 2 ^ (8 * k) = p at *
      omega
theorem fromV_div (c : List Nat) (hb : ∀ x ∈ c, x < 256) (i : Nat) (hi : i < 32) (hm : fromV c i % 2 ^ (8 * (32 - i)) = 0) : fromV c 32 / 2 ^ (8 * (31 - i)) % 256 = c.getD i 0 := by
  obtain ⟨r, h1, h2⟩ := fromV_rest c hb (i + 1) (32 - (i + 1)) (by omega)
  rw [show i + 1 + (32 - (i + 1)) = 32 by omega] at h1 h2
  have hc := getD_lt (by omega) hb i
  obtain ⟨k, hk⟩ : ∃ k, 31 - i = k := ⟨_, rfl⟩
  obtain ⟨t, ht⟩ := Nat.dvd_of_mod_eq_zero hm
  rw [h1]
  simp only [fromV, hk]
  rw [ht, show 32 - i = k + 1 by omega, show 8 * (k + 1) = 8 * k + 8 by omega, Nat.pow_add]
  rw [show 32 - (i + 1) = k by omega] at h2
  have hr : r < 2 ^ (8 * k) := by simp at h2; omega
  have hp : 0 < 2 ^ (8 * k) := Nat.pow_pos (by omega)
  rw [show (2 : Nat) ^ 8 = 256 from rfl]
  generalize 2 ^ (8 * k) = p at *
  rw [show p * 256 * t + c.getD i 0 * p + r = r + p * (256 * t + c.getD i 0) by rw [Nat.mul_add, Nat.mul_comm p (c.getD i 0), Nat.mul_assoc]; omega]
  rw [Nat.add_mul_div_left _ _ hp, Nat.div_eq_of_lt hr]
  omega
theorem fromV_mod (c : List Nat) : ∀ i, i ≤ 32 → fromV c i % 2 ^ (8 * (32 - i)) = 0
  | 0, _ => by simp [fromV]
  | i + 1, h => by
    have ih := fromV_mod c i (by omega)
    obtain ⟨k, hk⟩ : ∃ k, 31 - i = k := ⟨_, rfl⟩
    obtain ⟨t, ht⟩ := Nat.dvd_of_mod_eq_zero ih
    simp only [fromV, hk]
    rw [ht, show 32 - i = k + 1 by omega, show 32 - (i + 1) = k by omega, show 8 * (k + 1) = 8 * k + 8 by omega, Nat.pow_add, Nat.mul_assoc, Nat.mul_comm (c.getD i 0), ← Nat.mul_add, Nat.mul_mod_right]
theorem fromV_lt (c : List Nat) (hb : ∀ x ∈ c, x < 256) : fromV c 32 < T256 := by
  obtain ⟨r, h1, h2⟩ := fromV_rest c hb 0 32 (by omega)
  rw [Nat.zero_add] at h1 h2
  rw [show fromV c 0 = 0 from rfl, Nat.zero_add] at h1
  rw [show 8 * (32 - 0) = 256 from rfl, show 2 ^ (8 * (32 - 32)) = 1 from rfl] at h2
  rw [h1]
  unfold T256
  exact h2
theorem bytes_from {c : List Nat} (hc : c.length = 32) (hb : ∀ x ∈ c, x < 256) : btsTo (limL (fromV c 32)) 32 = c := by
  refine List.ext_getElem (by rw [btsTo_length, hc]) fun j h1 h2 => ?_
  have hj : j < 32 := by omega
  have e1 := btsTo_getD (fromV c 32) j hj
  rw [fromV_div c hb j hj (fromV_mod c j (by omega))] at e1
  simpa [List.getD, List.getElem?_eq_getElem h1, List.getElem?_eq_getElem h2] using e1
end Go.Proofs.Ytilmfdlonpjjiaa
namespace Go.Proofs.Ytilmfdlonpjjiaa
set_option linter.unusedVariables false
set_option linter.unusedSimpArgs false
set_option linter.unusedSectionVars false
open Go.ChangeShapes Go.WideShapes Go.ChangeAt Go.RowKit Go.Joins
theorem from_nB {n : Nat} (h : n < T256) : fromV (nB n) 32 = n := by unfold nB; rw [hid_eq]; exact from_bytes_all h
theorem nB_fromV {c : List Nat} (hc : c.length = 32) (hb : ∀ x ∈ c, x < 256) : nB (fromV c 32) = c := by unfold nB; rw [hid_eq]; exact bytes_from hc hb
/-- What a message says. -/
structure LdD where
  kind : Nat
  amt : Nat
  fee : Nat
  token : List Nat
  home : Nat
  to : List Nat
  toc : Nat
  dec : Nat
  sym : List Nat
  data : List Nat
  index : Nat
  keys : List (List Nat)
def z32 : List Nat := List.replicate 32 0
def twoB (n : Nat) : List Nat := [n / 256 % 256, n % 256]
def padB (s : List Nat) : List Nat := s.take 32 ++ List.replicate (32 - s.length) 0
noncomputable def ldPutT (l : LdD) : List Nat := nB l.amt ++ (l.token ++ (twoB l.home ++ (l.to ++ (twoB l.toc ++ (nB l.fee ++ l.data)))))
def ldPutM (l : LdD) : List Nat := l.token ++ (twoB l.home ++ ([l.dec % 256] ++ padB l.sym))
def ldPutK (l : LdD) : List Nat := [l.index / 16777216 % 256, l.index / 65536 % 256, l.index / 256 % 256, l.index % 256, l.keys.length % 256] ++ l.keys.flatten
/-- A transfer that may be. -/
structure OkT (l : LdD) : Prop where
  amt : l.amt < T256
  fee : l.fee ≤ l.amt
  token : l.token.length = 32
  tokenb : ∀ x ∈ l.token, x < 256
  to : l.to.length = 32
  tob : ∀ x ∈ l.to, x < 256
  home : l.home < 65536
  toc : l.toc < 65536
  datab : ∀ x ∈ l.data, x < 256
  len : l.data.length ≤ 100
  plain : l.kind = 1 → l.data = []
  kind : l.kind = 1 ∨ l.kind = 3
  rest : l.dec = 0 ∧ l.sym = [] ∧ l.index = 0 ∧ l.keys = []
structure OkM (l : LdD) : Prop where
  kind : l.kind = 2
  token : l.token.length = 32
  tokenb : ∀ x ∈ l.token, x < 256
  home : l.home < 65536
  dec : l.dec ≤ 77
  len : l.sym.length ≤ 32
  symb : ∀ x ∈ l.sym, 0 < x ∧ x < 256
  rest : l.amt = 0 ∧ l.fee = 0 ∧ l.to = z32 ∧ l.toc = 0 ∧ l.data = [] ∧ l.index = 0 ∧ l.keys = []
structure OkK (l : LdD) : Prop where
  kind : l.kind = 4
  index : l.index < 4294967296
  some : 1 ≤ l.keys.length
  most : l.keys.length ≤ 19
  len : ∀ k ∈ l.keys, k.length = 20
  keyb : ∀ k ∈ l.keys, ∀ x ∈ k, x < 256
  rest : l.amt = 0 ∧ l.fee = 0 ∧ l.token = z32 ∧ l.home = 0 ∧ l.to = z32 ∧ l.toc = 0 ∧ l.dec = 0 ∧ l.sym = [] ∧ l.data = []
def at2 (b : List Nat) (i : Nat) : Nat := b.getD i 0 * 256 + b.getD (i + 1) 0
def seg (b : List Nat) (i n : Nat) : List Nat := (b.drop i).take n
/-- What is read of a transfer's bytes, 132 at least. -/
noncomputable def ldGetT (k : Nat) (b : List Nat) : LdD := ⟨k, fromV (seg b 0 32) 32, fromV (seg b 100 32) 32, seg b 32 32, at2 b 64, seg b 66 32, at2 b 98, 0, [], b.drop 132, 0, []⟩
def endM (b : List Nat) : Nat → Nat
  | 0 => 35
  | i + 1 => if b.getD (35 + i) 0 = 0 then endM b i else 35 + i + 1
/-- What is read of a token's bytes, 67. -/
def ldGetM (b : List Nat) : LdD := ⟨2, 0, 0, seg b 0 32, at2 b 32, z32, 0, b.getD 34 0, seg b 35 (endM b 32 - 35), [], 0, []⟩
def keysF (b : List Nat) (n : Nat) : List (List Nat) := (List.range n).map fun i => seg b (5 + 20 * i) 20
def ldGetK (b : List Nat) : LdD := ⟨4, 0, 0, z32, 0, z32, 0, 0, [], [], b.getD 0 0 * 16777216 + b.getD 1 0 * 65536 + b.getD 2 0 * 256 + b.getD 3 0, keysF b (b.getD 4 0)⟩
theorem twoB_len (n : Nat) : (twoB n).length = 2 := rfl
theorem ldPutT_len {l : LdD} (h1 : l.token.length = 32) (h2 : l.to.length = 32) : (ldPutT l).length = 132 + l.data.length := by
  unfold ldPutT
  simp only [List.length_append, nB_len, twoB_len, h1, h2]
  omega
theorem seg_app {a b : List Nat} {n : Nat} (h : a.length = n) : seg (a ++ b) 0 n = a := by
  unfold seg
  rw [List.drop_zero, List.take_append_of_le_length (by omega), List.take_of_length_le (by omega)]
theorem seg_skip {a b : List Nat} {m i n : Nat} (h : a.length = m) (hi : m ≤ i) : seg (a ++ b) i n = seg b (i - m) n := by
  unfold seg
  rw [List.drop_append, List.drop_eq_nil_of_le (by omega), List.nil_append, h]
theorem getD_skip {a b : List Nat} {m i : Nat} (h : a.length = m) (hi : m ≤ i) : (a ++ b).getD i 0 = b.getD (i - m) 0 := by
  rw [List.getD_eq_getElem?_getD, List.getD_eq_getElem?_getD, List.getElem?_append_right (by omega), h]
theorem at2_skip {a b : List Nat} {m i : Nat} (h : a.length = m) (hi : m ≤ i) : at2 (a ++ b) i = at2 b (i - m) := by
  unfold at2
  rw [getD_skip h hi, getD_skip h (by omega), show i + 1 - m = i - m + 1 by omega]
theorem at2_twoB {n : Nat} {b : List Nat} (h : n < 65536) : at2 (twoB n ++ b) 0 = n := by
  show n / 256 % 256 * 256 + n % 256 = n
  omega
theorem drop_skip {a b : List Nat} {m i : Nat} (h : a.length = m) (hi : m ≤ i) : (a ++ b).drop i = b.drop (i - m) := by
  rw [List.drop_append, List.drop_eq_nil_of_le (by omega), List.nil_append, h]
/-- A transfer is read as it was written. -/
theorem ldGetT_put {l : LdD} (k : OkT l) : ldGetT l.kind (ldPutT l) = l := by
  have t1 := k.token
  have t2 := k.to
  obtain ⟨r1, r2, r3, r4⟩ := k.rest
  have a1 : seg (ldPutT l) 0 32 = nB l.amt := seg_app (nB_len _)
  have a2 : seg (ldPutT l) 32 32 = l.token := by
    unfold ldPutT
    rw [seg_skip (nB_len _) (by decide)]
    exact seg_app t1
  have a3 : at2 (ldPutT l) 64 = l.home := by
    unfold ldPutT
    rw [at2_skip (nB_len _) (by decide), at2_skip t1 (by decide)]
    exact at2_twoB k.home
  have a4 : seg (ldPutT l) 66 32 = l.to := by
    unfold ldPutT
    rw [seg_skip (nB_len _) (by decide), seg_skip t1 (by decide), seg_skip (twoB_len _) (by decide)]
    exact seg_app t2
  have a5 : at2 (ldPutT l) 98 = l.toc := by
    unfold ldPutT
    rw [at2_skip (nB_len _) (by decide), at2_skip t1 (by decide), at2_skip (twoB_len _) (by decide), at2_skip t2 (by decide)]
    exact at2_twoB k.toc
  have a6 : seg (ldPutT l) 100 32 = nB l.fee := by
    unfold ldPutT
    rw [seg_skip (nB_len _) (by decide), seg_skip t1 (by decide), seg_skip (twoB_len _) (by decide), seg_skip t2 (by decide), seg_skip (twoB_len _) (by decide)]
    exact seg_app (nB_len _)
  have a7 : (ldPutT l).drop 132 = l.data := by
    unfold ldPutT
    rw [drop_skip (nB_len _) (by decide), drop_skip t1 (by decide), drop_skip (twoB_len _) (by decide), drop_skip t2 (by decide), drop_skip (twoB_len _) (by decide), drop_skip (nB_len _) (by decide)]
    rfl
  unfold ldGetT
  rw [a1, a2, a3, a4, a5, a6, a7, from_nB k.amt, from_nB (Nat.lt_of_le_of_lt k.fee k.amt)]
  cases l
  simp only at r1 r2 r3 r4 ⊢
  rw [r1, r2, r3, r4]
theorem padB_len {s : List Nat} (h : s.length ≤ 32) : (padB s).length = 32 := by
  unfold padB
  rw [List.length_append, List.length_take, List.length_replicate]
  omega
theorem padB_eq {s : List Nat} (h : s.length ≤ 32) : padB s = s ++ List.replicate (32 - s.length) 0 := by
  unfold padB
  rw [List.take_of_length_le h]
theorem endM_pad {a s : List Nat} (ha : a.length = 35) (hs : s.length ≤ 32) (hp : ∀ x ∈ s, 0 < x) : ∀ i, s.length ≤ i → i ≤ 32 → endM (a ++ padB s) i = 35 + s.length
  | 0, h, _ => by
    have : s.length = 0 := by omega
    rw [this]; rfl
  | i + 1, h, h32 => by
    unfold endM
    rw [getD_skip ha (by omega), show 35 + i - 35 = i by omega]
    have pe := padB_eq hs
    by_cases e : s.length = i + 1
    · have hi : i < s.length := by omega
      have := hp _ (List.getElem_mem hi)
      rw [pe, List.getD_eq_getElem?_getD, List.getElem?_append_left hi, List.getElem?_eq_getElem hi, Option.getD_some, if_neg (by omega)]
      omega
    · have : (padB s).getD i 0 = 0 := by
        rw [pe, List.getD_eq_getElem?_getD, List.getElem?_append_right (by omega), List.getElem?_replicate]
        split <;> rfl
      rw [if_pos this]
      exact endM_pad ha hs hp i (by omega) (by omega)
theorem ldGetM_put {l : LdD} (k : OkM l) : ldGetM (ldPutM l) = l ∧ (ldPutM l).length = 67 := by
  have t1 := k.token
  obtain ⟨r1, r2, r3, r4, r5, r6, r7⟩ := k.rest
  have k1 := k.kind
  have hd := k.dec
  have len : (ldPutM l).length = 67 := by
    unfold ldPutM
    simp only [List.length_append, twoB_len, t1, padB_len k.len, List.length_singleton]
  refine ⟨?_, len⟩
  have a1 : seg (ldPutM l) 0 32 = l.token := seg_app t1
  have a2 : at2 (ldPutM l) 32 = l.home := by
    unfold ldPutM
    rw [at2_skip t1 (by decide)]
    exact at2_twoB k.home
  have a3 : (ldPutM l).getD 34 0 = l.dec := by
    unfold ldPutM
    rw [getD_skip t1 (by decide), getD_skip (twoB_len _) (by decide)]
    show l.dec % 256 = l.dec
    omega
  have e : ldPutM l = (l.token ++ (twoB l.home ++ [l.dec % 256])) ++ padB l.sym := by unfold ldPutM; simp only [List.append_assoc]
  have h35 : (l.token ++ (twoB l.home ++ [l.dec % 256])).length = 35 := by simp only [List.length_append, t1, twoB_len, List.length_singleton]
  have a4 : endM (ldPutM l) 32 = 35 + l.sym.length := by
    rw [e]
    exact endM_pad h35 k.len (fun x hx => (k.symb x hx).1) 32 k.len (Nat.le_refl _)
  have a5 : seg (ldPutM l) 35 (endM (ldPutM l) 32 - 35) = l.sym := by
    rw [a4, e, seg_skip h35 (Nat.le_refl _), padB_eq k.len]
    rw [show 35 + l.sym.length - 35 = l.sym.length by omega]
    exact seg_app rfl
  unfold ldGetM
  rw [a1, a2, a3, a5]
  cases l
  simp only at r1 r2 r3 r4 r5 r6 r7 k1 ⊢
  rw [r1, r2, r3, r4, r5, r6, r7, k1]
theorem flat_len : ∀ (K : List (List Nat)), (∀ k ∈ K, k.length = 20) → K.flatten.length = 20 * K.length
  | [], _ => rfl
  | k :: K, h => by
    rw [List.flatten_cons, List.length_append, h k List.mem_cons_self, flat_len K fun x hx => h x (List.mem_cons_of_mem _ hx), List.length_cons]
    omega
theorem flat_seg : ∀ (K : List (List Nat)), (∀ k ∈ K, k.length = 20) → ∀ (i : Nat) (hi : i < K.length), seg K.flatten (20 * i) 20 = K[i]
  | k :: K, h, 0, _ => seg_app (h k List.mem_cons_self)
  | k :: K, h, i + 1, hi => by
    rw [List.flatten_cons, seg_skip (h k List.mem_cons_self) (by omega), show 20 * (i + 1) - 20 = 20 * i by omega]
    exact flat_seg K (fun x hx => h x (List.mem_cons_of_mem _ hx)) i (by simpa using hi)
theorem ldGetK_put {l : LdD} (k : OkK l) : ldGetK (ldPutK l) = l ∧ (ldPutK l).length = 5 + 20 * l.keys.length ∧ (ldPutK l).getD 4 0 = l.keys.length := by
  obtain ⟨r1, r2, r3, r4, r5, r6, r7, r8, r9⟩ := k.rest
  have k1 := k.kind
  have hi := k.index
  have hm := k.most
  have fl := flat_len l.keys k.len
  have a1 : (ldPutK l).getD 4 0 = l.keys.length := by
    show l.keys.length % 256 = _
    omega
  have a2 : (ldPutK l).getD 0 0 * 16777216 + (ldPutK l).getD 1 0 * 65536 + (ldPutK l).getD 2 0 * 256 + (ldPutK l).getD 3 0 = l.index := by
    show l.index / 16777216 % 256 * 16777216 + l.index / 65536 % 256 * 65536 + l.index / 256 % 256 * 256 + l.index % 256 = l.index
    omega
  have a3 : keysF (ldPutK l) l.keys.length = l.keys := by
    apply List.ext_getElem (by unfold keysF; rw [List.length_map, List.length_range])
    intro i h1 h2
    simp only [keysF, List.getElem_map, List.getElem_range]
    unfold ldPutK
    rw [seg_skip (m := 5) rfl (by omega), show 5 + 20 * i - 5 = 20 * i by omega]
    exact flat_seg l.keys k.len i h2
  refine ⟨?_, by unfold ldPutK; rw [List.length_append, fl]; rfl, a1⟩
  unfold ldGetK
  rw [a1, a2, a3]
  cases l
  simp only at r1 r2 r3 r4 r5 r6 r7 r8 r9 k1 ⊢
  rw [r1, r2, r3, r4, r5, r6, r7, r8, r9, k1]
theorem seg_len {b : List Nat} {i n : Nat} (h : i + n ≤ b.length) : (seg b i n).length = n := by
  unfold seg
  rw [List.length_take, List.length_drop]
  omega
theorem seg_split (b : List Nat) (i n : Nat) : b.drop i = seg b i n ++ b.drop (i + n) := by
  unfold seg
  rw [← List.drop_drop]
  exact (List.take_append_drop n (b.drop i)).symm
theorem seg_mem {b : List Nat} {i n x : Nat} (h : x ∈ seg b i n) : x ∈ b := List.mem_of_mem_drop (List.mem_of_mem_take h)
theorem lgetD_lt {b : List Nat} (hb : ∀ x ∈ b, x < 256) (i : Nat) : b.getD i 0 < 256 := by
  rw [List.getD_eq_getElem?_getD]
  rcases Nat.lt_or_ge i b.length with h | h
  · rw [List.getElem?_eq_getElem h]; exact hb _ (List.getElem_mem h)
  · rw [List.getElem?_eq_none h]; decide
theorem seg2 {b : List Nat} (hb : ∀ x ∈ b, x < 256) {i : Nat} (h : i + 2 ≤ b.length) : seg b i 2 = twoB (at2 b i) := by
  have h1 := lgetD_lt hb i
  have h2 := lgetD_lt hb (i + 1)
  have e1 : b.getD i 0 = b[i] := by rw [List.getD_eq_getElem?_getD, List.getElem?_eq_getElem (by omega)]; rfl
  have e2 : b.getD (i + 1) 0 = b[i + 1] := by rw [List.getD_eq_getElem?_getD, List.getElem?_eq_getElem (by omega)]; rfl
  have s : seg b i 2 = [b[i], b[i + 1]] := by
    unfold seg
    rw [List.drop_eq_getElem_cons (by omega), List.drop_eq_getElem_cons (by omega)]
    rfl
  rw [e1] at h1
  rw [e2] at h2
  unfold twoB at2
  rw [s, e1, e2]
  congr 1
  · omega
  · congr 1
    omega
theorem at2_lt {b : List Nat} (hb : ∀ x ∈ b, x < 256) (i : Nat) : at2 b i < 65536 := by
  have := lgetD_lt hb i
  have := lgetD_lt hb (i + 1)
  unfold at2
  omega
theorem ldPutT_get {k : Nat} {b : List Nat} (hb : ∀ x ∈ b, x < 256) (h : 132 ≤ b.length) : ldPutT (ldGetT k b) = b := by
  have n1 := nB_fromV (c := seg b 0 32) (seg_len (by omega)) fun x hx => hb x (seg_mem hx)
  have n2 := nB_fromV (c := seg b 100 32) (seg_len (by omega)) fun x hx => hb x (seg_mem hx)
  unfold ldPutT ldGetT
  simp only [n1, n2, ← seg2 hb (show 64 + 2 ≤ b.length by omega), ← seg2 hb (show 98 + 2 ≤ b.length by omega)]
  rw [← seg_split b 100 32, ← seg_split b 98 2, ← seg_split b 66 32, ← seg_split b 64 2, ← seg_split b 32 32]
  exact ((seg_split b 0 32).symm.trans (List.drop_zero))
theorem endM_le (b : List Nat) : ∀ i, 35 ≤ endM b i ∧ endM b i ≤ 35 + i
  | 0 => ⟨Nat.le_refl _, Nat.le_refl _⟩
  | i + 1 => by
    have := endM_le b i
    unfold endM
    split <;> omega
theorem endM_zero (b : List Nat) : ∀ i j, endM b i ≤ 35 + j → j < i → b.getD (35 + j) 0 = 0
  | 0, j, _, h => by omega
  | i + 1, j, h1, h2 => by
    unfold endM at h1
    split at h1
    · rename_i z
      by_cases e : j = i
      · subst e; exact z
      · exact endM_zero b i j h1 (by omega)
    · omega
theorem ldPutM_get {b : List Nat} (hb : ∀ x ∈ b, x < 256) (h : b.length = 67) : ldPutM (ldGetM b) = b := by
  have e := endM_le b 32
  have h34 := lgetD_lt hb 34
  have s1 : seg b 34 1 = [b.getD 34 0 % 256] := by
    rw [Nat.mod_eq_of_lt h34, List.getD_eq_getElem?_getD, List.getElem?_eq_getElem (by omega)]
    unfold seg
    rw [List.drop_eq_getElem_cons (by omega)]
    rfl
  have s2 : padB (seg b 35 (endM b 32 - 35)) = b.drop 35 := by
    have sl : (seg b 35 (endM b 32 - 35)).length = endM b 32 - 35 := seg_len (by omega)
    rw [padB_eq (by omega), sl]
    refine Eq.symm ((seg_split b 35 (endM b 32 - 35)).trans ?_)
    congr 1
    rw [List.eq_replicate_iff]
    refine ⟨by rw [List.length_drop]; omega, fun x hx => ?_⟩
    obtain ⟨j, hj, ej⟩ := List.mem_iff_getElem.1 hx
    rw [List.length_drop] at hj
    rw [List.getElem_drop] at ej
    have z := endM_zero b 32 (endM b 32 - 35 + j) (by omega) (by omega)
    rw [List.getD_eq_getElem?_getD, List.getElem?_eq_getElem (by omega), Option.getD_some] at z
    rw [← ej, ← z]
    congr 1
    omega
  unfold ldPutM ldGetM
  simp only [s2, ← s1, ← seg2 hb (show 32 + 2 ≤ b.length by omega)]
  rw [← seg_split b 34 1, ← seg_split b 32 2]
  exact ((seg_split b 0 32).symm.trans (List.drop_zero))
theorem keys_flat (b : List Nat) (o : Nat) : ∀ n, o + 20 * n ≤ b.length → ((List.range n).map fun i => seg b (o + 20 * i) 20).flatten = seg b o (20 * n)
  | 0, _ => rfl
  | n + 1, h => by
    rw [List.range_succ, List.map_append, List.flatten_append, keys_flat b o n (by omega)]
    show seg b o (20 * n) ++ (seg b (o + 20 * n) 20 ++ []) = _
    rw [List.append_nil]
    unfold seg
    rw [show 20 * (n + 1) = 20 * n + 20 by omega, List.take_add, List.drop_drop]
theorem ldPutK_get {b : List Nat} (hb : ∀ x ∈ b, x < 256) (h : b.length = 5 + 20 * b.getD 4 0) : ldPutK (ldGetK b) = b := by
  have g0 := lgetD_lt hb 0
  have g1 := lgetD_lt hb 1
  have g2 := lgetD_lt hb 2
  have g3 := lgetD_lt hb 3
  have g4 := lgetD_lt hb 4
  have kf : (keysF b (b.getD 4 0)).flatten = b.drop 5 := by
    unfold keysF
    rw [keys_flat b 5 (b.getD 4 0) (by omega)]
    unfold seg
    rw [List.take_of_length_le (by rw [List.length_drop]; omega)]
  have kl : (keysF b (b.getD 4 0)).length = b.getD 4 0 := by unfold keysF; rw [List.length_map, List.length_range]
  have hd : ∀ (i : Nat), i < 5 → b.getD i 0 = b.getD i 0 := fun _ _ => rfl
  have s : b = [b.getD 0 0, b.getD 1 0, b.getD 2 0, b.getD 3 0, b.getD 4 0] ++ b.drop 5 := by
    match b, h with
    | a0 :: a1 :: a2 :: a3 :: a4 :: t, _ => rfl
    | [], h => simp at h
    | [_], h => simp at h
    | [_, _], h => simp at h
    | [_, _, _], h => simp at h
    | [_, _, _, _], h => simp at h
  unfold ldPutK ldGetK
  simp only [kf, kl]
  refine Eq.trans ?_ s.symm
  congr 1
  simp only [List.cons.injEq, and_true]
  omega
end Go.Proofs.Ytilmfdlonpjjiaa
namespace Go.Proofs.Ytilmfdlonpjjiaa
set_option linter.unusedVariables false
set_option linter.unusedSimpArgs false
set_option linter.unusedSectionVars false
open Go.ChangeShapes Go.WideShapes Go.ChangeAt Go.RowKit Go.Joins
def rows {α : Type} (f : α → List VV) (l : List α) : List VV := l.flatMap f
section
variable {α : Type} {f : α → List VV} {w : Nat}
theorem rows_nil : rows f [] = [] := rfl
theorem rows_cons (a : α) (l : List α) : rows f (a :: l) = f a ++ rows f l := List.flatMap_cons
theorem rows_app (l m : List α) : rows f (l ++ m) = rows f l ++ rows f m := List.flatMap_append
theorem rows_one (a : α) : rows f [a] = f a := by rw [rows_cons, rows_nil, List.append_nil]
theorem rows_length : ∀ {l : List α}, (∀ a ∈ l, (f a).length = w) → (rows f l).length = l.length * w
  | [], _ => by rw [rows_nil, List.length_nil, List.length_nil, Nat.zero_mul]
  | a :: l, h => by
    rw [rows_cons, List.length_append, h a List.mem_cons_self, rows_length fun b hb => h b (List.mem_cons_of_mem _ hb), List.length_cons, Nat.succ_mul, Nat.add_comm]
theorem rows_noHs (h : ∀ a, noHs (f a) = true) (l : List α) : noHs (rows f l) = true := noHs_flatMap h l
theorem rows_drop : ∀ (k : Nat) {l : List α}, (∀ a ∈ l, (f a).length = w) → (rows f l).drop (k * w) = rows f (l.drop k)
  | 0, l, _ => by simp
  | k + 1, [], _ => by simp [rows]
  | k + 1, a :: l, h => by
    rw [rows_cons, List.drop_succ_cons, Nat.succ_mul, Nat.add_comm, ← List.drop_drop, List.drop_left' (h a List.mem_cons_self)]
    exact rows_drop k fun b hb => h b (List.mem_cons_of_mem _ hb)
theorem rows_take : ∀ (k : Nat) {l : List α}, (∀ a ∈ l, (f a).length = w) → (rows f l).take (k * w) = rows f (l.take k)
  | 0, l, _ => by simp [rows]
  | k + 1, [], _ => by simp [rows]
  | k + 1, a :: l, h => by
    rw [rows_cons, List.take_succ_cons, rows_cons, Nat.succ_mul, Nat.add_comm, ← h a List.mem_cons_self, List.take_length_add_append, h a List.mem_cons_self, rows_take k fun b hb => h b (List.mem_cons_of_mem _ hb)]
theorem row_at {l : List α} {i : Nat} (h : ∀ a ∈ l, (f a).length = w) (hi : i < l.length) : ((rows f l).drop (i * w)).take w = f l[i] := by
  have h2 := rows_take (f := f) 1 (l := l.drop i) fun a ha => h a (List.mem_of_mem_drop ha)
  rw [rows_drop i h]
  rw [Nat.one_mul] at h2
  rw [h2, List.drop_eq_getElem_cons hi]
  exact rows_one _
theorem row_load {t : TypeId} {r : TR} {l : List α} {i j : Nat} (ht : Γ t = some r) (ha : r.d.agg = true) (hr : r.size = w) (h : ∀ a ∈ l, (f a).length = w) (hj : j = i * w) (hi : i < l.length) : vload Γ t (rows f l) j = some (.agg (f l[i])) := by
  subst hj
  have h1 := row_at h hi
  have hl : i * w + w ≤ (rows f l).length := by
    rw [rows_length h, ← Nat.succ_mul]
    exact Nat.mul_le_mul_right _ hi
  unfold vload
  rw [ht]
  simp only [ha, hr]
  split
  · rename_i hw
    have := whole_of hw
    rw [← this.1] at h1
    rw [h1]
  · rw [show Nat.ble (i * w + w) (rows f l).length = true from by simpa using hl]
    simp only []
    rw [h1]
theorem vslice_rows {t e : TypeId} {r : TR} (ht : sliceOf Γ t = some (e, r)) (hr : r.size = w) {g : Bool} {n : Nat} {bs : List α} (hb : ∀ a ∈ bs, (f a).length = w) {lo hi : Option VV} {l h : Nat} (hn : n = bs.length) (b1 : vb lo 0 = some l) (b2 : vb hi n = some h) (c1 : l ≤ h) (c2 : h ≤ n) :
    vslice Γ t (.ds g n (rows f bs)) lo hi none = some (.ds (g && decide (h = n)) ((bs.drop l).take (h - l)).length (rows f ((bs.drop l).take (h - l)))) := by
  subst hn
  rw [vslice_ds ht b1 b2 c1 c2, hr, rows_drop l hb, rows_take _ fun a ha => hb a (List.mem_of_mem_drop ha)]
  rw [show ((bs.drop l).take (h - l)).length = h - l by simp; omega]
end
theorem vfill_one {place : Nat → Option (Nat × Nat)} {cells cs : List VV} {n : Nat} (h0 : place 0 = some (0, n)) (hn : cs.length = n) (hc : cells.length = n) : vfill place cells [(0, .agg cs)] = some cs := by
  unfold vfill
  simp only [h0, cellsOf]
  rw [if_pos ⟨hn, by omega⟩]
  unfold vfill
  rw [splice_all (by rw [hn, hc])]
theorem view_sub {lkf : Nat → Option (List VV)} {h off n wd : Nat} {cs ds : List VV} (h1 : lkf h = some cs) (h2 : off + n * wd ≤ cs.length) (h3 : (cs.drop off).take (n * wd) = ds) : view lkf (.sl h off n wd) = some ([h], n, ds) := by
  unfold view
  simp only [h1]
  split
  · rename_i hw
    have := whole_of hw
    rw [← this.1] at h3
    rw [h3]
  · rw [show Nat.ble (off + n * wd) cs.length = true from by simpa using h2]
    simp only []
    rw [h3]
theorem load_agg' {t : TypeId} {r : TR} {cs ds : List VV} (h : cs = ds) (hr : Γ t = some r) (ha : r.d.agg = true) (hs : ds.length = r.size) : vload Γ t cs 0 = some (.agg ds) := by subst h; exact load_agg hr ha hs
theorem load_sub {t : TypeId} {r : TR} {cs ds : List VV} {off : Nat} (hr : Γ t = some r) (ha : r.d.agg = true) (hl : off + r.size ≤ cs.length) (hd : (cs.drop off).take r.size = ds) : vload Γ t cs off = some (.agg ds) := by
  unfold vload
  rw [hr]
  simp only [ha]
  split
  · rename_i hw
    have := whole_of hw
    rw [← this.1] at hd
    rw [hd]
  · rw [show Nat.ble (off + r.size) cs.length = true from by simpa using hl]
    simp only []
    rw [hd]
theorem conv_slE {ren : List (Nat × Option Nat)} {lkF : Nat → Option (List VV)} {h h' off off' n n' wd wd' : Nat} (hr : lkr ren h' = some (some h)) (e1 : off = off') (e2 : n = n') (e3 : wd = wd') : Conv ren lkF (.sl h off n wd) (.sl h' off' n' wd') := by subst e1 e2 e3; exact .sl hr
theorem condP_t {b : Bool} {A B : Prop} (h : b = true) (k : A) : condP b A B := by subst h; exact k
end Go.Proofs.Ytilmfdlonpjjiaa
namespace Go.Proofs.Ytilmfdlonpjjiaa
set_option linter.unusedVariables false
set_option linter.unusedSimpArgs false
set_option linter.unusedSectionVars false
open Go.ChangeShapes Go.WideShapes Go.ChangeAt Go.RowKit Go.Joins
set_option maxRecDepth 10000
theorem kind_t {k : Nat} (h : k = 1 ∨ k = 3) : FnV Try.prog G0 37 [nI .i64 k] (.tup [.ifc 132 (.agg [bI (decide (k = 3))]), bI true]) := by
  rcases h with rfl | rfl
  · refine fn_of_vwp Γok Try.func37 (by kernel_rfl) rfl (by simp [Try.ntmps37]) (wpv_ok Γok (by kernel_rfl) _ _ _ ?_); conv => whnf
    exact ⟨_, rfl, rfl⟩
  · refine fn_of_vwp Γok Try.func37 (by kernel_rfl) rfl (by simp [Try.ntmps37]) (wpv_ok Γok (by kernel_rfl) _ _ _ ?_); conv => whnf
    exact ⟨_, rfl, rfl⟩
theorem kind_m : FnV Try.prog G0 37 [nI .i64 2] (.tup [.ifc 134 (.agg []), bI true]) := by
  refine fn_of_vwp Γok Try.func37 (by kernel_rfl) rfl (by simp [Try.ntmps37]) (wpv_ok Γok (by kernel_rfl) _ _ _ ?_); conv => whnf
  exact ⟨_, rfl, rfl⟩
theorem kind_k : FnV Try.prog G0 37 [nI .i64 4] (.tup [.ifc 135 (.agg []), bI true]) := by
  refine fn_of_vwp Γok Try.func37 (by kernel_rfl) rfl (by simp [Try.ntmps37]) (wpv_ok Γok (by kernel_rfl) _ _ _ ?_); conv => whnf
  exact ⟨_, rfl, rfl⟩
theorem kind_none {k : Nat} (h1 : k ≠ 1) (h2 : k ≠ 2) (h3 : k ≠ 3) (h4 : k ≠ 4) : FnV Try.prog G0 37 [nI .i64 k] (.tup [.v .nilIface, bI false]) := by
  refine fn_of_vwp Γok Try.func37 (by kernel_rfl) rfl (by simp [Try.ntmps37]) (wpv_ok Γok (by kernel_rfl) _ _ _ ?_); conv => whnf
  rw [show (((k : Nat) : Int) == 1) = false from (beq_lit _ 1).trans (decide_eq_false h1)]
  conv => whnf
  try (refine ⟨by kernel_rfl, ?_⟩; conv => whnf)
  rw [show (((k : Nat) : Int) == 3) = false from (beq_lit _ 3).trans (decide_eq_false h3)]
  conv => whnf
  try (refine ⟨by kernel_rfl, ?_⟩; conv => whnf)
  rw [show (((k : Nat) : Int) == 2) = false from (beq_lit _ 2).trans (decide_eq_false h2)]
  conv => whnf
  try (refine ⟨by kernel_rfl, ?_⟩; conv => whnf)
  rw [show (((k : Nat) : Int) == 4) = false from (beq_lit _ 4).trans (decide_eq_false h4)]
  conv => whnf
  try (refine ⟨by kernel_rfl, ?_⟩; conv => whnf)
  exact ⟨_, rfl, rfl⟩
theorem m_tcheck : Meth Try.prog 132 "bascule/load.check" 99 := fun v w => by kernel_rfl
theorem m_tput : Meth Try.prog 132 "bascule/load.put" 101 := fun v w => by kernel_rfl
theorem m_tget : Meth Try.prog 132 "bascule/load.get" 100 := fun v w => by kernel_rfl
theorem m_tbare : Meth Try.prog 132 "bascule/load.bare" 98 := fun v w => by kernel_rfl
theorem m_mcheck : Meth Try.prog 134 "bascule/load.check" 108 := fun v w => by kernel_rfl
theorem m_mput : Meth Try.prog 134 "bascule/load.put" 110 := fun v w => by kernel_rfl
theorem m_mget : Meth Try.prog 134 "bascule/load.get" 109 := fun v w => by kernel_rfl
theorem m_mbare : Meth Try.prog 134 "bascule/load.bare" 107 := fun v w => by kernel_rfl
theorem m_kcheck : Meth Try.prog 135 "bascule/load.check" 112 := fun v w => by kernel_rfl
theorem m_kput : Meth Try.prog 135 "bascule/load.put" 114 := fun v w => by kernel_rfl
theorem m_kget : Meth Try.prog 135 "bascule/load.get" 113 := fun v w => by kernel_rfl
theorem m_kbare : Meth Try.prog 135 "bascule/load.bare" 111 := fun v w => by kernel_rfl
theorem small_fn (n : Nat) {m : Int} : FnV Try.prog G0 102 [nI .i64 n, nI .i64 m] (bI (decide ((n : Int) ≤ m))) := by
  refine fn_of_vwp Γok Try.func102 (by kernel_rfl) rfl (by simp [Try.ntmps102]) (wpv_ok Γok (by kernel_rfl) _ _ _ ?_); conv => whnf
  rw [decide_eq_true (show (n : Int) ≥ 0 by omega)]
  conv => whnf
  try (refine ⟨by kernel_rfl, ?_⟩; conv => whnf)
  exact ⟨_, rfl, rfl⟩
theorem two_fn {n : Nat} (h : n < 65536) : FnV Try.prog G0 106 [nI .i64 n] (.ds false 2 (bts (twoB n))) := by
  have e1 : wS .u8 (Int.fdiv (n : Int) (2 ^ min (Int.toNat 8) IntKind.i64.bits)) = ((n / 256 % 256 : Nat) : Int) := by
    rw [show Int.fdiv (n : Int) (2 ^ min (Int.toNat 8) IntKind.i64.bits) = ((n / 2 ^ 8 : Nat) : Int) from shr_val (k := .i64) (n := 8) (by decide), ws_u8]
    omega
  have e2 : wS .u8 (n : Int) = ((n % 256 : Nat) : Int) := by rw [ws_u8]; omega
  refine fn_of_vwp Γok Try.func106 (by kernel_rfl) rfl (by simp [Try.ntmps106]) (wpv_ok Γok (by kernel_rfl) _ _ _ ?_); conv => whnf
  rw [e1, e2]
  refine .read 2 (bts (twoB n)) rfl rfl rfl rfl ?_
  conv => whnf
  try (refine ⟨by kernel_rfl, ?_⟩; conv => whnf)
  exact ⟨_, rfl, rfl⟩
theorem lword_fn {f : Bool} {b : List Nat} (h : b.length ≤ 1000) : FnV Try.prog G0 103 [.ds f b.length (bts b)] (.agg (bts (padB b))) := by
  refine fn_of_vwp Γok Try.func103 (by kernel_rfl) rfl (by simp [Try.ntmps103]) (wpv_ok Γok (by kernel_rfl) _ _ _ ?_); conv => whnf
  refine onlyIf_intro (by rw [bts_length]; exact Nat.beq_refl _) ?_
  conv => whnf
  try (refine ⟨by kernel_rfl, ?_⟩; conv => whnf)
  have e : splice (List.replicate 32 (nI .u8 0)) 0 ((bts b).take (Nat.min b.length 32)) = bts (padB b) := by
    have e1 : (bts b).take (Nat.min b.length 32) = bts (b.take 32) := by
      unfold bts
      rw [← List.map_take]
      congr 1
      rcases Nat.le_total b.length 32 with q | q
      · rw [show Nat.min b.length 32 = b.length from Nat.min_eq_left q, List.take_length, List.take_of_length_le q]
      · rw [show Nat.min b.length 32 = 32 from Nat.min_eq_right q]
    rw [e1]
    unfold padB splice
    rw [List.take_zero, List.nil_append, Nat.zero_add, bts_length, List.length_take, List.drop_replicate]
    unfold bts
    rw [List.map_append, List.map_replicate]
    congr 2
    omega
  refine bindP_intro (load_agg' (ds := bts (padB b)) e rfl rfl (by rw [bts_length]; unfold padB; rw [List.length_append, List.length_take, List.length_replicate]; show _ = 32; omega)) ?_
  have pl : (bts (padB b)).length = 32 := by rw [bts_length]; unfold padB; rw [List.length_append, List.length_take, List.length_replicate]; omega
  conv => whnf
  try (refine ⟨by kernel_rfl, ?_⟩; conv => whnf)
  refine onlyIf_intro (by simp [words_length, *, pl]) ?_; rw [splice_all (by simp [words_length, *, pl])]; conv => whnf
  exact ⟨_, vres_one rfl (vres_cell rfl rfl (load_agg rfl rfl pl)), deepV_noH _ _ (bts_noHs _)⟩
/-- The lists, one behind the other. -/
def partsC (K : List (Bool × List Nat)) : List VV := K.map fun p => .ds p.1 p.2.length (bts p.2)
theorem partsC_noHs : ∀ K, noHs (partsC K) = true
  | [] => rfl
  | p :: K => by
    show (noH (.ds p.1 p.2.length (bts p.2)) && noHs (partsC K)) = true
    rw [partsC_noHs K, Bool.and_true]
    exact bts_noHs _
theorem partsC_ix {K : List (Bool × List Nat)} {i j : Nat} (hj : j = i) (h : i < K.length) : (partsC K)[j]? = some (.ds K[i].1 K[i].2.length (bts K[i].2)) := by
  subst hj
  unfold partsC
  rw [List.getElem?_map, List.getElem?_eq_getElem h]
  rfl
def flatP (K : List (Bool × List Nat)) : List Nat := (K.map fun p => p.2).flatten
theorem flatP_le (K : List (Bool × List Nat)) (i : Nat) : (flatP (K.take i)).length ≤ (flatP K).length := by
  have : flatP K = flatP (K.take i) ++ flatP (K.drop i) := by
    unfold flatP
    rw [← List.flatten_append, ← List.map_append, List.take_append_drop]
  rw [this, List.length_append]
  omega
theorem join_fn {f : Bool} {K : List (Bool × List Nat)} (hK : K.length ≤ 100) (hl : ∀ p ∈ K, p.2.length ≤ 100000) (ht : (flatP K).length ≤ 100000) : FnV Try.prog G0 105 [.ds f K.length (partsC K)] (.ds false (flatP K).length (bts (flatP K))) := by
  have nK := partsC_noHs K
  refine fn_of_vwp Γok Try.func105 (by kernel_rfl) rfl (by simp [Try.ntmps105]) (wpv_ok Γok (by kernel_rfl) _ _ _ ?_); conv => whnf
  refine vloop_invK G0ok [(0, none)] 1 (X := Nat) (fun i => [(8, nI .i64 i), (7, nI .i64 K.length), (6, .ds f K.length (partsC K)), (3, .sl 0 0 (flatP (K.take i)).length 1), (2, .ds true 0 [])]) (fun i => [(0, some (bts (flatP (K.take i))))]) (fun i => i ≤ K.length) (fun i => K.length - i) 0 rfl
    ⟨⟨_, rfl, conv_nI (rfl)⟩, ⟨_, rfl, conv_nI (rfl)⟩, ⟨_, rfl, conv_eq rfl (nK)⟩, ⟨_, rfl, .null rfl⟩, ⟨_, rfl, .same rfl⟩, trivial⟩ ⟨.inl ⟨rfl, rfl⟩, trivial⟩ (Nat.zero_le _) ?_
  intro i hi
  try dsimp only at hi ⊢
  refine wpv_ok Γok (by kernel_rfl) _ _ _ ?_; conv => whnf
  refine bool_cases (fun hc => ?_) (fun hc => ?_)
  · have hc := of_decide_eq_true hc
    have hc : i < K.length := by omega
    have st : flatP (K.take (i + 1)) = flatP (K.take i) ++ K[i].2 := by
      unfold flatP
      rw [List.take_add_one, List.getElem?_eq_getElem hc, List.map_append, List.flatten_append]
      show _ ++ (K[i].2 ++ []) = _
      rw [List.append_nil]
    have le := flatP_le K (i + 1)
    have hp := hl _ (List.getElem_mem hc)
    conv => whnf
    try (refine ⟨by kernel_rfl, ?_⟩; conv => whnf)
    refine bindP_intro (if_pos (inB_ok (by omega) (by omega))) ?_; conv => whnf
    refine bindP_intro (partsC_ix (i := i) (by dsimp only; omega) hc) ?_
    refine gen_ex K[i] fun p ep => ?_
    rw [← ep] at st hp ⊢
    clear ep
    have ll : (flatP (K.take (i + 1))).length = (flatP (K.take i)).length + p.2.length := by rw [st, List.length_append]
    refine gen_ex (flatP (K.take (i + 1))) fun R eR => ?_
    rw [← eR] at st ll le
    refine gen_ex (flatP (K.take i)) fun Q eQ => ?_
    rw [← eQ] at st ll ⊢
    conv => whnf
    try (refine ⟨by kernel_rfl, ?_⟩; conv => whnf)
    refine onlyIf_intro (by simp [maxLen, bts_length]) ?_
    conv => whnf
    try (refine ⟨by kernel_rfl, ?_⟩; conv => whnf)
    refine onlyIf_intro (by simp [maxLen, bts_length]; omega) ?_
    refine .ownAs R.length (bts R) ll.symm (by rw [st]; simp [bts]) ?_
    conv => whnf
    try (refine ⟨by kernel_rfl, ?_⟩; conv => whnf)
    subst eR
    refine next_round (y := i) G0ok (i + 1) [(0, some 1)] rfl ⟨⟨_, rfl, conv_nI (ws_i64 (by omega) (by omega))⟩, ⟨_, rfl, conv_nI (rfl)⟩, ⟨_, rfl, conv_eq rfl (nK)⟩, ⟨_, rfl, .sl rfl⟩, ⟨_, rfl, .same rfl⟩, trivial⟩ ⟨.inr ⟨_, _, rfl, rfl, .same (bts_noHs _)⟩, trivial⟩ (by omega) (by omega)
  · have hc := of_decide_eq_false hc
    have e : i = K.length := by omega
    subst e
    rw [List.take_length]
    conv => whnf
    try (refine ⟨by kernel_rfl, ?_⟩; conv => whnf)
    exact ⟨_, rfl, deep_row rfl (by rw [bts_length, Nat.mul_one]) (bts_noHs _)⟩
end Go.Proofs.Ytilmfdlonpjjiaa
namespace Go.Proofs.Ytilmfdlonpjjiaa
set_option linter.unusedVariables false
set_option linter.unusedSimpArgs false
set_option linter.unusedSectionVars false
open Go.ChangeShapes Go.WideShapes Go.ChangeAt Go.RowKit Go.Joins
set_option maxRecDepth 10000
theorem cmpN_ex : ∃ f : Nat → Nat → Int, ∀ a b, f a b = if a < b then -1 else if b < a then 1 else 0 := ⟨_, fun _ _ => rfl⟩
noncomputable def cmpN : Nat → Nat → Int := Classical.choose cmpN_ex
theorem cmpN_def (a b : Nat) : cmpN a b = if a < b then -1 else if b < a then 1 else 0 := Classical.choose_spec cmpN_ex a b
theorem cmpN_lt {a b : Nat} (h : a < b) : cmpN a b = -1 := by rw [cmpN_def]; rw [if_pos h]
theorem cmpN_gt {a b : Nat} (h : b < a) : cmpN a b = 1 := by rw [cmpN_def]; rw [if_neg (by omega), if_pos h]
theorem cmpN_eq {a b : Nat} (h : a = b) : cmpN a b = 0 := by rw [cmpN_def]; rw [if_neg (by omega), if_neg (by omega)]
theorem cmpN_neg {a b : Nat} : cmpN a b < 0 ↔ a < b := by rw [cmpN_def]; split <;> (try split) <;> omega
theorem cmpN_pos {a b : Nat} : 0 < cmpN a b ↔ b < a := by rw [cmpN_def]; split <;> (try split) <;> omega
theorem cmpN_zero {a b : Nat} : cmpN a b = 0 ↔ a = b := by rw [cmpN_def]; split <;> (try split) <;> omega
theorem cmpN_ge {a b : Nat} : 0 ≤ cmpN a b ↔ b ≤ a := by rw [cmpN_def]; split <;> (try split) <;> omega
theorem cmpN_le {a b : Nat} : cmpN a b ≤ 0 ↔ a ≤ b := by rw [cmpN_def]; split <;> (try split) <;> omega
theorem cmpN_swap (a b : Nat) : cmpN b a = -cmpN a b := by rw [cmpN_def, cmpN_def]; split <;> split <;> (try split) <;> omega
theorem v4lt3 {a0 a1 a2 a3 b0 b1 b2 b3 : Nat} (k0 : a0 < B64) (k1 : a1 < B64) (k2 : a2 < B64) (h : a3 < b3) : val4 a0 a1 a2 a3 < val4 b0 b1 b2 b3 := by
  unfold val4; simp only [B64] at *; omega
theorem v4lt2 {a0 a1 a2 a3 b0 b1 b2 b3 : Nat} (k0 : a0 < B64) (k1 : a1 < B64) (h3 : ¬ a3 < b3) (g3 : ¬ b3 < a3) (h : a2 < b2) : val4 a0 a1 a2 a3 < val4 b0 b1 b2 b3 := by
  unfold val4; simp only [B64] at *; omega
theorem v4lt1 {a0 a1 a2 a3 b0 b1 b2 b3 : Nat} (k0 : a0 < B64) (h3 : ¬ a3 < b3) (g3 : ¬ b3 < a3) (h2 : ¬ a2 < b2) (g2 : ¬ b2 < a2) (h : a1 < b1) : val4 a0 a1 a2 a3 < val4 b0 b1 b2 b3 := by
  unfold val4; simp only [B64] at *; omega
theorem v4lt0 {a0 a1 a2 a3 b0 b1 b2 b3 : Nat} (h3 : ¬ a3 < b3) (g3 : ¬ b3 < a3) (h2 : ¬ a2 < b2) (g2 : ¬ b2 < a2) (h1 : ¬ a1 < b1) (g1 : ¬ b1 < a1) (h : a0 < b0) : val4 a0 a1 a2 a3 < val4 b0 b1 b2 b3 := by
  unfold val4; simp only [B64] at *; omega
theorem v4eq {a0 a1 a2 a3 b0 b1 b2 b3 : Nat} (h3 : ¬ a3 < b3) (g3 : ¬ b3 < a3) (h2 : ¬ a2 < b2) (g2 : ¬ b2 < a2) (h1 : ¬ a1 < b1) (g1 : ¬ b1 < a1) (h0 : ¬ a0 < b0) (g0 : ¬ b0 < a0) : val4 a0 a1 a2 a3 = val4 b0 b1 b2 b3 := by
  obtain rfl : a0 = b0 := by omega
  obtain rfl : a1 = b1 := by omega
  obtain rfl : a2 = b2 := by omega
  obtain rfl : a3 = b3 := by omega
  rfl

theorem cmp_fn4 (a0 a1 a2 a3 b0 b1 b2 b3 : Nat) (k0 : a0 < B64) (k1 : a1 < B64) (k2 : a2 < B64) (m0 : b0 < B64) (m1 : b1 < B64) (m2 : b2 < B64) :
    FnV Try.prog G0 35 [.agg (words [a0, a1, a2, a3]), .agg (words [b0, b1, b2, b3])] (nI .i64 (cmpN (val4 a0 a1 a2 a3) (val4 b0 b1 b2 b3))) := by
  refine fn_of_vwp Γok Try.func35 (by kernel_rfl) rfl (by simp [Try.ntmps35]) (wpv_ok Γok (by kernel_rfl) _ _ _ ?_); conv => whnf
  refine vloop_unroll ?_
  refine wpv_ok Γok (by kernel_rfl) _ _ _ ?_; conv => whnf
  refine ⟨by kernel_rfl, ?_⟩
  conv => whnf
  refine bool_cases (fun h => ?_) (fun h => ?_)
  · conv => whnf
    have h : a3 < b3 := by have := of_decide_eq_true h; omega
    rw [cmpN_lt (v4lt3 k0 k1 k2  h)]
    exact ⟨_, rfl, rfl⟩
  have h3 : ¬ a3 < b3 := by have := of_decide_eq_false h; omega
  conv => whnf
  refine ⟨by kernel_rfl, ?_⟩
  conv => whnf
  refine bool_cases (fun g => ?_) (fun g => ?_)
  · conv => whnf
    have g : b3 < a3 := by have := of_decide_eq_true g; omega
    rw [cmpN_gt (v4lt3 m0 m1 m2  g)]
    exact ⟨_, rfl, rfl⟩
  have g3 : ¬ b3 < a3 := by have := of_decide_eq_false g; omega
  conv => whnf
  refine vloop_unroll ?_
  refine wpv_ok Γok (by kernel_rfl) _ _ _ ?_; conv => whnf
  rw [ws_i64 (by omega) (by omega)]
  conv => whnf
  refine ⟨by kernel_rfl, ?_⟩
  conv => whnf
  refine bool_cases (fun h => ?_) (fun h => ?_)
  · conv => whnf
    have h : a2 < b2 := by have := of_decide_eq_true h; omega
    rw [cmpN_lt (v4lt2 k0 k1 h3 g3 h)]
    exact ⟨_, rfl, rfl⟩
  have h2 : ¬ a2 < b2 := by have := of_decide_eq_false h; omega
  conv => whnf
  refine ⟨by kernel_rfl, ?_⟩
  conv => whnf
  refine bool_cases (fun g => ?_) (fun g => ?_)
  · conv => whnf
    have g : b2 < a2 := by have := of_decide_eq_true g; omega
    rw [cmpN_gt (v4lt2 m0 m1 g3 h3 g)]
    exact ⟨_, rfl, rfl⟩
  have g2 : ¬ b2 < a2 := by have := of_decide_eq_false g; omega
  conv => whnf
  refine vloop_unroll ?_
  refine wpv_ok Γok (by kernel_rfl) _ _ _ ?_; conv => whnf
  rw [ws_i64 (by omega) (by omega)]
  conv => whnf
  refine ⟨by kernel_rfl, ?_⟩
  conv => whnf
  refine bool_cases (fun h => ?_) (fun h => ?_)
  · conv => whnf
    have h : a1 < b1 := by have := of_decide_eq_true h; omega
    rw [cmpN_lt (v4lt1 k0 h3 g3 h2 g2 h)]
    exact ⟨_, rfl, rfl⟩
  have h1 : ¬ a1 < b1 := by have := of_decide_eq_false h; omega
  conv => whnf
  refine ⟨by kernel_rfl, ?_⟩
  conv => whnf
  refine bool_cases (fun g => ?_) (fun g => ?_)
  · conv => whnf
    have g : b1 < a1 := by have := of_decide_eq_true g; omega
    rw [cmpN_gt (v4lt1 m0 g3 h3 g2 h2 g)]
    exact ⟨_, rfl, rfl⟩
  have g1 : ¬ b1 < a1 := by have := of_decide_eq_false g; omega
  conv => whnf
  refine vloop_unroll ?_
  refine wpv_ok Γok (by kernel_rfl) _ _ _ ?_; conv => whnf
  rw [ws_i64 (by omega) (by omega)]
  conv => whnf
  refine ⟨by kernel_rfl, ?_⟩
  conv => whnf
  refine bool_cases (fun h => ?_) (fun h => ?_)
  · conv => whnf
    have h : a0 < b0 := by have := of_decide_eq_true h; omega
    rw [cmpN_lt (v4lt0  h3 g3 h2 g2 h1 g1 h)]
    exact ⟨_, rfl, rfl⟩
  have h0 : ¬ a0 < b0 := by have := of_decide_eq_false h; omega
  conv => whnf
  refine ⟨by kernel_rfl, ?_⟩
  conv => whnf
  refine bool_cases (fun g => ?_) (fun g => ?_)
  · conv => whnf
    have g : b0 < a0 := by have := of_decide_eq_true g; omega
    rw [cmpN_gt (v4lt0  g3 h3 g2 h2 g1 h1 g)]
    exact ⟨_, rfl, rfl⟩
  have g0 : ¬ b0 < a0 := by have := of_decide_eq_false g; omega
  conv => whnf
  refine vloop_unroll ?_
  refine wpv_ok Γok (by kernel_rfl) _ _ _ ?_; conv => whnf
  rw [ws_i64 (by omega) (by omega)]
  conv => whnf
  rw [cmpN_eq (v4eq h3 g3 h2 g2 h1 g1 h0 g0)]
  exact ⟨_, rfl, rfl⟩
theorem cmp_fn {a b : Nat} (ha : a < T256) (hb : b < T256) : FnV Try.prog G0 35 [uV a, uV b] (nI .i64 (cmpN a b)) := by
  obtain ⟨a0, a1, a2, a3, k0, k1, k2, k3, rfl⟩ := limbs ha
  obtain ⟨b0, b1, b2, b3, m0, m1, m2, m3, rfl⟩ := limbs hb
  rw [uV_val4 k0 k1 k2 k3, uV_val4 m0 m1 m2 m3]
  exact cmp_fn4 a0 a1 a2 a3 b0 b1 b2 b3 k0 k1 k2 m0 m1 m2
end Go.Proofs.Ytilmfdlonpjjiaa
namespace Go.Proofs.Ytilmfdlonpjjiaa
set_option linter.unusedVariables false
set_option linter.unusedSimpArgs false
set_option linter.unusedSectionVars false
open Go.ChangeShapes Go.WideShapes Go.ChangeAt Go.RowKit Go.Joins
set_option maxRecDepth 10000
/-- The cells of a load. -/
structure LdC (C : List VV) (l : LdD) (fd fk : Bool) : Prop where
  len : C.length = 80
  noHs : noHs C = true
  kind : C[0]? = some (nI .i64 l.kind)
  amt : (C.drop 1).take 4 = uC l.amt
  fee : (C.drop 5).take 4 = uC l.fee
  token : (C.drop 9).take 32 = bts l.token
  home : C[41]? = some (nI .i64 l.home)
  to : (C.drop 42).take 32 = bts l.to
  toc : C[74]? = some (nI .i64 l.toc)
  dec : C[75]? = some (nI .i64 l.dec)
  sym : C[76]? = some (.v (.string ⟨(l.sym.map fun n => n.toUInt8).toArray⟩))
  data : C[77]? = some (.ds fd l.data.length (bts l.data))
  index : C[78]? = some (nI .i64 l.index)
  keys : C[79]? = some (.ds fk l.keys.length (rows bts l.keys))
theorem deep_seg {k : Nat} {lkf : Nat → Option (List VV)} {h off n wd : Nat} {cs xs : List VV} (h1 : lkf h = some cs) (h2 : off + n * wd ≤ cs.length) (h3 : (cs.drop off).take (n * wd) = xs) (h4 : noHs xs = true) : deepV (k + 1) lkf (.sl h off n wd) = some (.ds false n xs) := by
  have hp : part? cs off (n * wd) = some xs := by
    unfold part?
    split
    · rename_i hw
      exact congrArg some ((whole_of hw).1.trans h3)
    · rw [show Nat.ble (off + n * wd) cs.length = true from Nat.ble_eq_true_of_le h2, ← h3]
  unfold deepV
  simp only [h1, hp, h4]
theorem deep_nest {k : Nat} {lkf : Nat → Option (List VV)} {h n wd : Nat} {cs es : List VV} (h1 : lkf h = some cs) (h2 : cs.length = n * wd) (h3 : noHs cs = false) (h4 : mapO (deepV k lkf) cs = some es) : deepV (k + 1) lkf (.sl h 0 n wd) = some (.ds false n es) := by
  have hp : part? cs 0 (n * wd) = some cs := by
    unfold part?
    rw [show (Nat.beq 0 0 && Nat.beq (n * wd) cs.length) = true by rw [h2]; simp]
  unfold deepV
  simp only [h1, hp, h3, h4]
theorem tput_fn {C : List VV} {l : LdD} {fd fk p : Bool} (c : LdC C l fd fk) (h1 : l.token.length = 32) (h2 : l.to.length = 32) (h3 : l.home < 65536) (h4 : l.toc < 65536) (h5 : l.data.length ≤ 100) : FnV Try.prog G0 101 [.agg [bI p], .agg C] (.ds false (ldPutT l).length (bts (ldPutT l))) := by
  have ba := nbytes_fn l.amt
  have bf := nbytes_fn l.fee
  have t1 := two_fn h3
  have t2 := two_fn h4
  have nC := c.noHs
  have jn := join_fn (f := false) (K := [(false, nB l.amt), (false, l.token), (false, twoB l.home), (false, l.to), (false, twoB l.toc), (false, nB l.fee), (fd, l.data)]) (show 7 ≤ 100 by decide) (by
    intro q hq
    simp only [List.mem_cons, List.not_mem_nil, or_false] at hq
    have := nB_len l.amt
    have := nB_len l.fee
    have := twoB_len l.home
    have := twoB_len l.toc
    rcases hq with rfl | rfl | rfl | rfl | rfl | rfl | rfl <;> dsimp only <;> omega) (by
    have := nB_len l.amt
    have := nB_len l.fee
    have := twoB_len l.home
    have := twoB_len l.toc
    simp only [flatP, List.map_cons, List.map_nil, List.flatten_cons, List.flatten_nil, List.length_append, List.length_nil]
    omega)
  have ef : flatP [(false, nB l.amt), (false, l.token), (false, twoB l.home), (false, l.to), (false, twoB l.toc), (false, nB l.fee), (fd, l.data)] = ldPutT l := by
    unfold flatP ldPutT
    simp only [List.map_cons, List.map_nil, List.flatten_cons, List.flatten_nil, List.append_nil]
  rw [ef] at jn
  simp only [partsC, List.map_cons, List.map_nil, nB_len, h1, h2, twoB_len] at jn
  refine fn_of_vwp Γok Try.func101 (by kernel_rfl) rfl (by simp [Try.ntmps101]) (wpv_ok Γok (by kernel_rfl) _ _ _ ?_); conv => whnf
  refine bindP_intro (load_sub (ds := uC l.amt) rfl rfl (by rw [c.len]; decide) c.amt) ?_
  conv => whnf
  try (refine ⟨by kernel_rfl, ?_⟩; conv => whnf)
  refine ⟨_, ret_of_fn G0ok (ba) (by first | rfl | simp only [noHs, noH, nI, bI, Bool.and_self, Bool.and_true, Bool.true_and, bts_noHs]) (by first | rfl | simp only [noHs, noH, nI, bI, Bool.and_self, Bool.and_true, Bool.true_and, bts_noHs]), ?_⟩; (conv => whnf); (try (refine ⟨by kernel_rfl, ?_⟩; conv => whnf))
  refine bindP_intro (load_sub (ds := uC l.fee) rfl rfl (by rw [c.len]; decide) c.fee) ?_
  conv => whnf
  try (refine ⟨by kernel_rfl, ?_⟩; conv => whnf)
  refine ⟨_, ret_of_fn G0ok (bf) (by first | rfl | simp only [noHs, noH, nI, bI, Bool.and_self, Bool.and_true, Bool.true_and, bts_noHs]) (by first | rfl | simp only [noHs, noH, nI, bI, Bool.and_self, Bool.and_true, Bool.true_and, bts_noHs]), ?_⟩; (conv => whnf); (try (refine ⟨by kernel_rfl, ?_⟩; conv => whnf))
  have la : (bts (nB l.amt)).length = 32 := by rw [bts_length, nB_len]
  have lf : (bts (nB l.fee)).length = 32 := by rw [bts_length, nB_len]
  refine onlyIf_intro (by simp [words_length, *, la]) ?_; rw [splice_all (by simp [words_length, *, la])]; conv => whnf
  conv => whnf
  try (refine ⟨by kernel_rfl, ?_⟩; conv => whnf)
  refine onlyIf_intro (by simp [words_length, *, lf]) ?_; rw [splice_all (by simp [words_length, *, lf])]; conv => whnf
  conv => whnf
  try (refine ⟨by kernel_rfl, ?_⟩; conv => whnf)
  refine onlyIf_intro (by rw [la]; rfl) ?_
  conv => whnf
  try (refine ⟨by kernel_rfl, ?_⟩; conv => whnf)
  refine onlyIf_intro (by rw [c.len]; rfl) ?_
  conv => whnf
  try (refine ⟨by kernel_rfl, ?_⟩; conv => whnf)
  refine bindP_intro c.home ?_
  conv => whnf
  try (refine ⟨by kernel_rfl, ?_⟩; conv => whnf)
  refine ⟨_, ret_of_fn G0ok (t1) (by first | rfl | simp only [noHs, noH, nI, bI, Bool.and_self, Bool.and_true, Bool.true_and, bts_noHs]) (by first | rfl | simp only [noHs, noH, nI, bI, Bool.and_self, Bool.and_true, Bool.true_and, bts_noHs]), ?_⟩; (conv => whnf); (try (refine ⟨by kernel_rfl, ?_⟩; conv => whnf))
  refine onlyIf_intro (by rw [c.len]; rfl) ?_
  conv => whnf
  try (refine ⟨by kernel_rfl, ?_⟩; conv => whnf)
  refine bindP_intro c.toc ?_
  conv => whnf
  try (refine ⟨by kernel_rfl, ?_⟩; conv => whnf)
  refine ⟨_, ret_of_fn G0ok (t2) (by first | rfl | simp only [noHs, noH, nI, bI, Bool.and_self, Bool.and_true, Bool.true_and, bts_noHs]) (by first | rfl | simp only [noHs, noH, nI, bI, Bool.and_self, Bool.and_true, Bool.true_and, bts_noHs]), ?_⟩; (conv => whnf); (try (refine ⟨by kernel_rfl, ?_⟩; conv => whnf))
  refine onlyIf_intro (by rw [bts_length, nB_len]; rfl) ?_
  conv => whnf
  try (refine ⟨by kernel_rfl, ?_⟩; conv => whnf)
  refine bindP_intro c.data ?_
  conv => whnf
  try (refine ⟨by kernel_rfl, ?_⟩; conv => whnf)
  refine .ownAs 7 [.sl 2 0 32 1, .sl 1 9 32 1, .ds false 2 (bts (twoB l.home)), .sl 1 42 32 1, .ds false 2 (bts (twoB l.toc)), .sl 3 0 32 1, .ds fd l.data.length (bts l.data)] rfl rfl ?_
  conv => whnf
  try (refine ⟨by kernel_rfl, ?_⟩; conv => whnf)
  have n1 := bts_noHs
  refine ⟨_, ret_give [4, 2, 1, 3] G0ok jn (mapO_cons (deep_nest rfl rfl rfl (mapO_cons (deep_seg rfl (by rw [la]; decide) (by rw [List.drop_zero, List.take_of_length_le (by rw [la]; decide)]) (n1 _)) (mapO_cons (deep_seg rfl (by rw [c.len]; decide) c.token (n1 _)) (mapO_cons (deepV_noH _ _ (n1 _)) (mapO_cons (deep_seg rfl (by rw [c.len]; decide) c.to (n1 _)) (mapO_cons (deepV_noH _ _ (n1 _)) (mapO_cons (deep_seg rfl (by rw [lf]; decide) (by rw [List.drop_zero, List.take_of_length_le (by rw [lf]; decide)]) (n1 _)) (mapO_cons (deepV_noH _ _ (n1 _)) mapO_nil)))))))) mapO_nil) (n1 _), ?_⟩
  conv => whnf
  try (refine ⟨by kernel_rfl, ?_⟩; conv => whnf)
  exact ⟨_, rfl, deepV_noH _ _ (n1 _)⟩
theorem sym_cells {s : List Nat} (h : ∀ x ∈ s, x < 256) : (s.map fun n => n.toUInt8).map byV = bts s := by
  unfold bts
  rw [List.map_map]
  refine List.map_congr_left fun x hx => ?_
  have := h x hx
  show VV.v (.int .u8 ((x.toUInt8.toNat : Nat) : Int)) = nI .u8 (x : Int)
  rw [show x.toUInt8.toNat = x from by simp; omega]
  rfl
theorem mput_fn {C : List VV} {l : LdD} {fd fk : Bool} (c : LdC C l fd fk) (h1 : l.token.length = 32) (h3 : l.home < 65536) (h4 : l.dec < 256) (h5 : l.sym.length ≤ 32) (h6 : ∀ x ∈ l.sym, x < 256) : FnV Try.prog G0 110 [.agg [], .agg C] (.ds false (ldPutM l).length (bts (ldPutM l))) := by
  have t1 := two_fn h3
  have nC := c.noHs
  have wd := lword_fn (f := false) (b := l.sym) (by omega)
  have pl := padB_len h5
  have jn := join_fn (f := false) (K := [(false, l.token), (false, twoB l.home), (false, [l.dec % 256]), (false, padB l.sym)]) (show 4 ≤ 100 by decide) (by
    intro q hq
    simp only [List.mem_cons, List.not_mem_nil, or_false] at hq
    have := twoB_len l.home
    rcases hq with rfl | rfl | rfl | rfl <;> dsimp only <;> (try simp only [List.length_singleton]) <;> omega) (by
    have := twoB_len l.home
    simp only [flatP, List.map_cons, List.map_nil, List.flatten_cons, List.flatten_nil, List.length_append, List.length_nil, List.length_singleton]
    omega)
  have ef : flatP [(false, l.token), (false, twoB l.home), (false, [l.dec % 256]), (false, padB l.sym)] = ldPutM l := by
    unfold flatP ldPutM
    simp only [List.map_cons, List.map_nil, List.flatten_cons, List.flatten_nil, List.append_nil]
  rw [ef] at jn
  simp only [partsC, List.map_cons, List.map_nil, h1, pl, twoB_len] at jn
  have sz : (ByteArray.mk (l.sym.map fun n => n.toUInt8).toArray).size = l.sym.length := by show (l.sym.map fun n => n.toUInt8).length = _; rw [List.length_map]
  refine fn_of_vwp Γok Try.func110 (by kernel_rfl) rfl (by simp [Try.ntmps110]) (wpv_ok Γok (by kernel_rfl) _ _ _ ?_); conv => whnf
  refine bindP_intro c.sym ?_
  conv => whnf
  try (refine ⟨by kernel_rfl, ?_⟩; conv => whnf)
  refine onlyIf_intro (by rw [sz]; exact Nat.ble_eq_true_of_le (by omega)) ?_
  refine .read l.sym.length (bts l.sym) sz (sym_cells h6) (by rw [bts_length, Nat.mul_one]) (bts_noHs _) ?_
  conv => whnf
  try (refine ⟨by kernel_rfl, ?_⟩; conv => whnf)
  refine ⟨_, ret_of_fn G0ok (wd) (by first | rfl | simp only [noHs, noH, nI, bI, Bool.and_self, Bool.and_true, Bool.true_and, bts_noHs]) (by first | rfl | simp only [noHs, noH, nI, bI, Bool.and_self, Bool.and_true, Bool.true_and, bts_noHs]), ?_⟩; (conv => whnf); (try (refine ⟨by kernel_rfl, ?_⟩; conv => whnf))
  have ls : (bts (padB l.sym)).length = 32 := by rw [bts_length, pl]
  have ed : wS .u8 (l.dec : Int) = ((l.dec % 256 : Nat) : Int) := by rw [ws_u8]; omega
  refine onlyIf_intro (by simp [words_length, *, ls]) ?_; rw [splice_all (by simp [words_length, *, ls])]; conv => whnf
  conv => whnf
  try (refine ⟨by kernel_rfl, ?_⟩; conv => whnf)
  refine onlyIf_intro (by rw [c.len]; rfl) ?_
  conv => whnf
  try (refine ⟨by kernel_rfl, ?_⟩; conv => whnf)
  refine bindP_intro c.home ?_
  conv => whnf
  try (refine ⟨by kernel_rfl, ?_⟩; conv => whnf)
  refine ⟨_, ret_of_fn G0ok (t1) (by first | rfl | simp only [noHs, noH, nI, bI, Bool.and_self, Bool.and_true, Bool.true_and, bts_noHs]) (by first | rfl | simp only [noHs, noH, nI, bI, Bool.and_self, Bool.and_true, Bool.true_and, bts_noHs]), ?_⟩; (conv => whnf); (try (refine ⟨by kernel_rfl, ?_⟩; conv => whnf))
  refine bindP_intro c.dec ?_
  conv => whnf
  try (refine ⟨by kernel_rfl, ?_⟩; conv => whnf)
  rw [ed]
  refine .read 1 (bts [l.dec % 256]) rfl rfl rfl rfl ?_
  conv => whnf
  try (refine ⟨by kernel_rfl, ?_⟩; conv => whnf)
  refine onlyIf_intro (by rw [ls]; rfl) ?_
  conv => whnf
  try (refine ⟨by kernel_rfl, ?_⟩; conv => whnf)
  refine .ownAs 4 [.sl 1 9 32 1, .ds false 2 (bts (twoB l.home)), .ds false 1 (bts [l.dec % 256]), .sl 3 0 32 1] rfl rfl ?_
  conv => whnf
  try (refine ⟨by kernel_rfl, ?_⟩; conv => whnf)
  have n1 := bts_noHs
  refine ⟨_, ret_give [5, 1, 3] G0ok jn (mapO_cons (deep_nest rfl rfl rfl (mapO_cons (deep_seg rfl (by rw [c.len]; decide) c.token (n1 _)) (mapO_cons (deepV_noH _ _ (n1 _)) (mapO_cons (deepV_noH _ _ (n1 _)) (mapO_cons (deep_seg rfl (by rw [ls]; decide) (by rw [List.drop_zero, List.take_of_length_le (by rw [ls]; decide)]) (n1 _)) mapO_nil))))) mapO_nil) (n1 _), ?_⟩
  conv => whnf
  try (refine ⟨by kernel_rfl, ?_⟩; conv => whnf)
  exact ⟨_, rfl, deepV_noH _ _ (n1 _)⟩
theorem kput_fn {C : List VV} {l : LdD} {fd fk : Bool} (c : LdC C l fd fk) (h1 : l.index < 4294967296) (h2 : l.keys.length ≤ 100) (h3 : ∀ k ∈ l.keys, k.length = 20) : FnV Try.prog G0 114 [.agg [], .agg C] (.ds false (ldPutK l).length (bts (ldPutK l))) := by
  have s24 : wS .u8 (Int.fdiv (l.index : Int) (2 ^ min (Int.toNat 24) IntKind.i64.bits)) = ((l.index / 16777216 % 256 : Nat) : Int) := by
    rw [show Int.fdiv (l.index : Int) (2 ^ min (Int.toNat 24) IntKind.i64.bits) = ((l.index / 2 ^ 24 : Nat) : Int) from shr_val (k := .i64) (n := 24) (by decide), ws_u8]
    omega
  have s16 : wS .u8 (Int.fdiv (l.index : Int) (2 ^ min (Int.toNat 16) IntKind.i64.bits)) = ((l.index / 65536 % 256 : Nat) : Int) := by
    rw [show Int.fdiv (l.index : Int) (2 ^ min (Int.toNat 16) IntKind.i64.bits) = ((l.index / 2 ^ 16 : Nat) : Int) from shr_val (k := .i64) (n := 16) (by decide), ws_u8]
    omega
  have s8 : wS .u8 (Int.fdiv (l.index : Int) (2 ^ min (Int.toNat 8) IntKind.i64.bits)) = ((l.index / 256 % 256 : Nat) : Int) := by
    rw [show Int.fdiv (l.index : Int) (2 ^ min (Int.toNat 8) IntKind.i64.bits) = ((l.index / 2 ^ 8 : Nat) : Int) from shr_val (k := .i64) (n := 8) (by decide), ws_u8]
    omega
  have s0 : wS .u8 (l.index : Int) = ((l.index % 256 : Nat) : Int) := by rw [ws_u8]; omega
  have sk : wS .u8 (l.keys.length : Int) = ((l.keys.length % 256 : Nat) : Int) := by rw [ws_u8]; omega
  refine fn_of_vwp Γok Try.func114 (by kernel_rfl) rfl (by simp [Try.ntmps114]) (wpv_ok Γok (by kernel_rfl) _ _ _ ?_); conv => whnf
  refine bindP_intro c.index ?_
  conv => whnf
  try (refine ⟨by kernel_rfl, ?_⟩; conv => whnf)
  refine bindP_intro c.index ?_
  conv => whnf
  try (refine ⟨by kernel_rfl, ?_⟩; conv => whnf)
  refine bindP_intro c.index ?_
  conv => whnf
  try (refine ⟨by kernel_rfl, ?_⟩; conv => whnf)
  refine bindP_intro c.index ?_
  conv => whnf
  try (refine ⟨by kernel_rfl, ?_⟩; conv => whnf)
  refine bindP_intro c.keys ?_
  conv => whnf
  try (refine ⟨by kernel_rfl, ?_⟩; conv => whnf)
  rw [s24, s16, s8, s0, sk]
  refine .ownAs 5 (bts [l.index / 16777216 % 256, l.index / 65536 % 256, l.index / 256 % 256, l.index % 256, l.keys.length % 256]) rfl rfl ?_
  conv => whnf
  try (refine ⟨by kernel_rfl, ?_⟩; conv => whnf)
  refine bindP_intro c.keys ?_
  conv => whnf
  try (refine ⟨by kernel_rfl, ?_⟩; conv => whnf)
  have e0 : ldPutK l = [l.index / 16777216 % 256, l.index / 65536 % 256, l.index / 256 % 256, l.index % 256, l.keys.length % 256] ++ l.keys.flatten := rfl
  refine gen_ex [l.index / 16777216 % 256, l.index / 65536 % 256, l.index / 256 % 256, l.index % 256, l.keys.length % 256] fun B eB => ?_
  rw [← eB] at e0 ⊢
  have B5 : B.length = 5 := by rw [eB]; rfl
  clear eB
  have nK : noHs (rows bts l.keys) = true := rows_noHs bts_noHs _
  have Ql : ∀ i, i ≤ l.keys.length → (B ++ (l.keys.take i).flatten).length = 5 + 20 * i := fun i hi => by
    rw [List.length_append, B5, flat_len _ (fun k hk => h3 k (List.mem_of_mem_take hk)), List.length_take, Nat.min_eq_left hi]
  refine vloop_invK G0ok [(0, some 2)] 1 (X := Nat) (fun i => [(31, nI .i64 i), (30, nI .i64 l.keys.length), (29, .ds fk l.keys.length (rows bts l.keys)), (5, .sl 0 0 (5 + 20 * i) 1), (4, .ds true 0 [])]) (fun i => [(0, some (bts (B ++ (l.keys.take i).flatten)))]) (fun i => i ≤ l.keys.length) (fun i => l.keys.length - i) 0 rfl
    ⟨⟨_, rfl, conv_nI (rfl)⟩, ⟨_, rfl, conv_nI (rfl)⟩, ⟨_, rfl, conv_eq rfl (nK)⟩, ⟨_, rfl, .sl rfl⟩, ⟨_, rfl, .same rfl⟩, trivial⟩ ⟨.inr ⟨_, _, rfl, rfl, convs_eq (by rw [List.take_zero, List.flatten_nil, List.append_nil]) (bts_noHs _)⟩, trivial⟩ (Nat.zero_le _) ?_
  intro i hi
  try dsimp only at hi ⊢
  refine wpv_ok Γok (by kernel_rfl) _ _ _ ?_; conv => whnf
  refine bool_cases (fun hc => ?_) (fun hc => ?_)
  · have hc := of_decide_eq_true hc
    have hc : i < l.keys.length := by omega
    have kl := h3 _ (List.getElem_mem hc)
    have st : B ++ (l.keys.take (i + 1)).flatten = (B ++ (l.keys.take i).flatten) ++ l.keys[i] := by
      rw [List.take_add_one, List.getElem?_eq_getElem hc, List.flatten_append, List.append_assoc]
      show _ ++ (_ ++ (l.keys[i] ++ [])) = _
      rw [List.append_nil]
    have q0 := Ql i hi
    have q1 := Ql (i + 1) hc
    conv => whnf
    try (refine ⟨by kernel_rfl, ?_⟩; conv => whnf)
    refine bindP_intro (if_pos (inB_ok (by omega) (by omega))) ?_; conv => whnf
    refine bindP_intro (row_load (i := i) (w := 20) rfl rfl rfl (fun a ha => by rw [bts_length, h3 a ha]) (by dsimp only; omega) hc) ?_
    refine gen_ex l.keys[i] fun k ek => ?_
    rw [← ek] at kl st ⊢
    clear ek
    have bl : (bts k).length = 20 := by rw [bts_length, kl]
    refine gen_ex (B ++ (l.keys.take (i + 1)).flatten) fun R eR => ?_
    rw [← eR] at st q1
    refine gen_ex (B ++ (l.keys.take i).flatten) fun Q eQ => ?_
    rw [← eQ] at st q0 ⊢
    conv => whnf
    try (refine ⟨by kernel_rfl, ?_⟩; conv => whnf)
    refine onlyIf_intro (by simp [words_length, *, bl]) ?_; rw [splice_all (by simp [words_length, *, bl])]; conv => whnf
    conv => whnf
    try (refine ⟨by kernel_rfl, ?_⟩; conv => whnf)
    refine onlyIf_intro (by rw [bl]; rfl) ?_
    conv => whnf
    try (refine ⟨by kernel_rfl, ?_⟩; conv => whnf)
    have ql : (bts Q).length = 5 + 20 * i := by rw [bts_length, q0]
    refine bindP_intro (view_whole rfl bl.symm) ?_
    conv => whnf
    try (refine ⟨by kernel_rfl, ?_⟩; conv => whnf)
    refine onlyIf_intro (by simp [maxLen, bl, ql]) ?_
    conv => whnf
    try (refine ⟨by kernel_rfl, ?_⟩; conv => whnf)
    refine onlyIf_intro (by simp [maxLen, bl, ql]; omega) ?_
    refine .ownAs (5 + 20 * (i + 1)) (bts R) (by show 5 + 20 * i + 20 = _; omega) (by rw [st]; simp [bts]) ?_
    conv => whnf
    try (refine ⟨by kernel_rfl, ?_⟩; conv => whnf)
    subst eR
    refine next_round (y := i) G0ok (i + 1) [(0, some 2)] rfl ⟨⟨_, rfl, conv_nI (ws_i64 (by omega) (by omega))⟩, ⟨_, rfl, conv_nI (rfl)⟩, ⟨_, rfl, conv_eq rfl (nK)⟩, ⟨_, rfl, .sl rfl⟩, ⟨_, rfl, .same rfl⟩, trivial⟩ ⟨.inr ⟨_, _, rfl, rfl, .same (bts_noHs _)⟩, trivial⟩ (by omega) (by omega)
  · have hc := of_decide_eq_false hc
    have e : i = l.keys.length := by omega
    subst e
    rw [List.take_length, ← e0]
    conv => whnf
    try (refine ⟨by kernel_rfl, ?_⟩; conv => whnf)
    have q := Ql l.keys.length (Nat.le_refl _)
    rw [List.take_length, ← e0] at q
    rw [q]
    exact ⟨_, rfl, deep_row rfl (by rw [bts_length, q, Nat.mul_one]) (bts_noHs _)⟩
end Go.Proofs.Ytilmfdlonpjjiaa
namespace Go.Proofs.Ytilmfdlonpjjiaa
set_option linter.unusedVariables false
set_option linter.unusedSimpArgs false
set_option linter.unusedSectionVars false
open Go.ChangeShapes Go.WideShapes Go.ChangeAt Go.RowKit Go.Joins
set_option maxRecDepth 10000
def chkT (p : Bool) (l : LdD) : Bool := decide (l.home ≤ 65535) && (decide (l.toc ≤ 65535) && (decide (l.fee ≤ l.amt) && bif p then decide (l.data.length ≤ 100) else decide (l.data.length = 0)))
theorem small_nat (n m : Nat) : FnV Try.prog G0 102 [nI .i64 n, nI .i64 m] (bI (decide (n ≤ m))) := by
  have := small_fn n (m := (m : Int))
  rwa [show decide ((n : Int) ≤ (m : Int)) = decide (n ≤ m) from decide_eq_decide.2 (by omega)] at this
theorem tcheck_fn {C : List VV} {l : LdD} {fd fk p : Bool} (c : LdC C l fd fk) (h1 : l.amt < T256) (h2 : l.fee < T256) : FnV Try.prog G0 99 [.agg [bI p], .agg C] (bI (chkT p l)) := by
  have s1 := small_nat l.home 65535
  have s2 := small_nat l.toc 65535
  have cp := cmp_fn (a := l.fee) (b := l.amt) h2 h1
  have cd : decide (cmpN l.fee l.amt ≤ 0) = decide (l.fee ≤ l.amt) := decide_eq_decide.2 cmpN_le
  unfold chkT
  refine fn_of_vwp Γok Try.func99 (by kernel_rfl) rfl (by simp [Try.ntmps99]) (wpv_ok Γok (by kernel_rfl) _ _ _ ?_); conv => whnf
  refine bindP_intro c.home ?_
  conv => whnf
  try (refine ⟨by kernel_rfl, ?_⟩; conv => whnf)
  refine ⟨_, ret_of_fn G0ok (s1) (by first | rfl | simp only [noHs, noH, nI, bI, Bool.and_self, Bool.and_true, Bool.true_and, ]) (by first | rfl | simp only [noHs, noH, nI, bI, Bool.and_self, Bool.and_true, Bool.true_and, ]), ?_⟩; (conv => whnf); (try (refine ⟨by kernel_rfl, ?_⟩; conv => whnf))
  by_cases a1 : l.home ≤ 65535
  · rw [decide_eq_true a1, Bool.true_and]
    conv => whnf
    try (refine ⟨by kernel_rfl, ?_⟩; conv => whnf)
    refine bindP_intro c.toc ?_
    conv => whnf
    try (refine ⟨by kernel_rfl, ?_⟩; conv => whnf)
    refine ⟨_, ret_of_fn G0ok (s2) (by first | rfl | simp only [noHs, noH, nI, bI, Bool.and_self, Bool.and_true, Bool.true_and, ]) (by first | rfl | simp only [noHs, noH, nI, bI, Bool.and_self, Bool.and_true, Bool.true_and, ]), ?_⟩; (conv => whnf); (try (refine ⟨by kernel_rfl, ?_⟩; conv => whnf))
    by_cases a2 : l.toc ≤ 65535
    · rw [decide_eq_true a2, Bool.true_and]
      conv => whnf
      try (refine ⟨by kernel_rfl, ?_⟩; conv => whnf)
      refine bindP_intro (load_sub (ds := uC l.fee) rfl rfl (by rw [c.len]; decide) c.fee) ?_
      conv => whnf
      try (refine ⟨by kernel_rfl, ?_⟩; conv => whnf)
      refine bindP_intro (load_sub (ds := uC l.amt) rfl rfl (by rw [c.len]; decide) c.amt) ?_
      conv => whnf
      try (refine ⟨by kernel_rfl, ?_⟩; conv => whnf)
      refine ⟨_, ret_of_fn G0ok (cp) (by first | rfl | simp only [noHs, noH, nI, bI, Bool.and_self, Bool.and_true, Bool.true_and, ]) (by first | rfl | simp only [noHs, noH, nI, bI, Bool.and_self, Bool.and_true, Bool.true_and, ]), ?_⟩; (conv => whnf); (try (refine ⟨by kernel_rfl, ?_⟩; conv => whnf))
      rw [cd]
      by_cases a3 : l.fee ≤ l.amt
      · rw [decide_eq_true a3, Bool.true_and]
        cases p with
        | true =>
          conv => whnf
          try (refine ⟨by kernel_rfl, ?_⟩; conv => whnf)
          refine bindP_intro c.data ?_
          conv => whnf
          try (refine ⟨by kernel_rfl, ?_⟩; conv => whnf)
          rw [show decide ((l.data.length : Int) ≤ 100) = decide (l.data.length ≤ 100) from decide_eq_decide.2 (by omega)]
          by_cases a4 : l.data.length ≤ 100
          · rw [decide_eq_true a4]
            conv => whnf
            try (refine ⟨by kernel_rfl, ?_⟩; conv => whnf)
            exact ⟨_, rfl, rfl⟩
          · rw [decide_eq_false a4]
            conv => whnf
            try (refine ⟨by kernel_rfl, ?_⟩; conv => whnf)
            exact ⟨_, rfl, rfl⟩
        | false =>
          conv => whnf
          try (refine ⟨by kernel_rfl, ?_⟩; conv => whnf)
          refine bindP_intro c.data ?_
          conv => whnf
          try (refine ⟨by kernel_rfl, ?_⟩; conv => whnf)
          rw [show (((l.data.length : Nat) : Int) == 0) = decide (l.data.length = 0) from beq_lit _ 0]
          by_cases a4 : l.data.length = 0
          · rw [decide_eq_true a4]
            conv => whnf
            try (refine ⟨by kernel_rfl, ?_⟩; conv => whnf)
            exact ⟨_, rfl, rfl⟩
          · rw [decide_eq_false a4]
            conv => whnf
            try (refine ⟨by kernel_rfl, ?_⟩; conv => whnf)
            exact ⟨_, rfl, rfl⟩
      · rw [decide_eq_false a3, Bool.false_and]
        conv => whnf
        try (refine ⟨by kernel_rfl, ?_⟩; conv => whnf)
        exact ⟨_, rfl, rfl⟩
    · rw [decide_eq_false a2, Bool.false_and]
      conv => whnf
      try (refine ⟨by kernel_rfl, ?_⟩; conv => whnf)
      exact ⟨_, rfl, rfl⟩
  · rw [decide_eq_false a1, Bool.false_and]
    conv => whnf
    try (refine ⟨by kernel_rfl, ?_⟩; conv => whnf)
    exact ⟨_, rfl, rfl⟩
def chkK (l : LdD) : Bool := decide (l.index ≤ 4294967295) && (decide (1 ≤ l.keys.length) && decide (l.keys.length ≤ 19))
theorem kcheck_fn {C : List VV} {l : LdD} {fd fk : Bool} (c : LdC C l fd fk) : FnV Try.prog G0 112 [.agg [], .agg C] (bI (chkK l)) := by
  have s1 := small_nat l.index 4294967295
  unfold chkK
  refine fn_of_vwp Γok Try.func112 (by kernel_rfl) rfl (by simp [Try.ntmps112]) (wpv_ok Γok (by kernel_rfl) _ _ _ ?_); conv => whnf
  refine bindP_intro c.index ?_
  conv => whnf
  try (refine ⟨by kernel_rfl, ?_⟩; conv => whnf)
  refine ⟨_, ret_of_fn G0ok (s1) (by first | rfl | simp only [noHs, noH, nI, bI, Bool.and_self, Bool.and_true, Bool.true_and, ]) (by first | rfl | simp only [noHs, noH, nI, bI, Bool.and_self, Bool.and_true, Bool.true_and, ]), ?_⟩; (conv => whnf); (try (refine ⟨by kernel_rfl, ?_⟩; conv => whnf))
  by_cases a1 : l.index ≤ 4294967295
  · rw [decide_eq_true a1, Bool.true_and]
    conv => whnf
    try (refine ⟨by kernel_rfl, ?_⟩; conv => whnf)
    refine bindP_intro c.keys ?_
    conv => whnf
    try (refine ⟨by kernel_rfl, ?_⟩; conv => whnf)
    rw [show decide ((l.keys.length : Int) ≥ 1) = decide (1 ≤ l.keys.length) from decide_eq_decide.2 (by omega)]
    by_cases a2 : 1 ≤ l.keys.length
    · rw [decide_eq_true a2, Bool.true_and]
      conv => whnf
      try (refine ⟨by kernel_rfl, ?_⟩; conv => whnf)
      refine bindP_intro c.keys ?_
      conv => whnf
      try (refine ⟨by kernel_rfl, ?_⟩; conv => whnf)
      rw [show decide ((l.keys.length : Int) ≤ 19) = decide (l.keys.length ≤ 19) from decide_eq_decide.2 (by omega)]
      by_cases a3 : l.keys.length ≤ 19
      · rw [decide_eq_true a3]
        conv => whnf
        try (refine ⟨by kernel_rfl, ?_⟩; conv => whnf)
        exact ⟨_, rfl, rfl⟩
      · rw [decide_eq_false a3]
        conv => whnf
        try (refine ⟨by kernel_rfl, ?_⟩; conv => whnf)
        exact ⟨_, rfl, rfl⟩
    · rw [decide_eq_false a2, Bool.false_and]
      conv => whnf
      try (refine ⟨by kernel_rfl, ?_⟩; conv => whnf)
      exact ⟨_, rfl, rfl⟩
  · rw [decide_eq_false a1, Bool.false_and]
    conv => whnf
    try (refine ⟨by kernel_rfl, ?_⟩; conv => whnf)
    exact ⟨_, rfl, rfl⟩
/-- No byte of the first i is nought. -/
def nzs (B : List Nat) : Nat → Bool
  | 0 => true
  | i + 1 => nzs B i && !decide (B.getD i 0 = 0)
def chkM (l : LdD) : Bool := (decide (l.home ≤ 65535) && (decide (l.dec ≤ 77) && decide (l.sym.length ≤ 32))) && nzs l.sym l.sym.length
theorem mcheck_fn {C : List VV} {l : LdD} {fd fk : Bool} (c : LdC C l fd fk) (h6 : ∀ x ∈ l.sym, x < 256) (h7 : l.sym.length ≤ 1000) : FnV Try.prog G0 108 [.agg [], .agg C] (bI (chkM l)) := by
  have s1 := small_nat l.home 65535
  have s2 := small_nat l.dec 77
  have sz : (ByteArray.mk (l.sym.map fun n => n.toUInt8).toArray).size = l.sym.length := by show (l.sym.map fun n => n.toUInt8).length = _; rw [List.length_map]
  unfold chkM
  refine fn_of_vwp Γok Try.func108 (by kernel_rfl) rfl (by simp [Try.ntmps108]) (wpv_ok Γok (by kernel_rfl) _ _ _ ?_); conv => whnf
  refine bindP_intro c.home ?_
  conv => whnf
  try (refine ⟨by kernel_rfl, ?_⟩; conv => whnf)
  refine ⟨_, ret_of_fn G0ok (s1) (by first | rfl | simp only [noHs, noH, nI, bI, Bool.and_self, Bool.and_true, Bool.true_and, ]) (by first | rfl | simp only [noHs, noH, nI, bI, Bool.and_self, Bool.and_true, Bool.true_and, ]), ?_⟩; (conv => whnf); (try (refine ⟨by kernel_rfl, ?_⟩; conv => whnf))
  have nS : noHs (bts l.sym) = true := bts_noHs _
  by_cases a1 : l.home ≤ 65535
  · rw [decide_eq_true a1, Bool.true_and]
    conv => whnf
    try (refine ⟨by kernel_rfl, ?_⟩; conv => whnf)
    refine bindP_intro c.dec ?_
    conv => whnf
    try (refine ⟨by kernel_rfl, ?_⟩; conv => whnf)
    refine ⟨_, ret_of_fn G0ok (s2) (by first | rfl | simp only [noHs, noH, nI, bI, Bool.and_self, Bool.and_true, Bool.true_and, ]) (by first | rfl | simp only [noHs, noH, nI, bI, Bool.and_self, Bool.and_true, Bool.true_and, ]), ?_⟩; (conv => whnf); (try (refine ⟨by kernel_rfl, ?_⟩; conv => whnf))
    by_cases a2 : l.dec ≤ 77
    · rw [decide_eq_true a2, Bool.true_and]
      conv => whnf
      try (refine ⟨by kernel_rfl, ?_⟩; conv => whnf)
      refine bindP_intro c.sym ?_
      conv => whnf
      try (refine ⟨by kernel_rfl, ?_⟩; conv => whnf)
      rw [sz, show decide ((l.sym.length : Int) ≤ 32) = decide (l.sym.length ≤ 32) from decide_eq_decide.2 (by omega)]
      refine gen_ex (decide (l.sym.length ≤ 32)) fun d ed => ?_
      rw [← ed]
      refine bindP_intro c.sym ?_
      conv => whnf
      try (refine ⟨by kernel_rfl, ?_⟩; conv => whnf)
      refine onlyIf_intro (by rw [sz]; exact Nat.ble_eq_true_of_le (by omega)) ?_
      refine .read l.sym.length (bts l.sym) sz (sym_cells h6) (by rw [bts_length, Nat.mul_one]) (bts_noHs _) ?_
      conv => whnf
      try (refine ⟨by kernel_rfl, ?_⟩; conv => whnf)
      refine vloop_invK G0ok [] 0 (X := Nat) (fun i => [(26, nI .i64 i), (25, nI .i64 l.sym.length), (24, .ds false l.sym.length (bts l.sym)), (5, bI (d && nzs l.sym i)), (4, bI false)]) (fun _ => []) (fun i => i ≤ l.sym.length) (fun i => l.sym.length - i) 0 rfl
        ⟨⟨_, rfl, conv_nI (rfl)⟩, ⟨_, rfl, conv_nI (rfl)⟩, ⟨_, rfl, conv_eq rfl (nS)⟩, ⟨_, rfl, conv_eq (by rw [show nzs l.sym 0 = true from rfl, Bool.and_true]; rfl) rfl⟩, ⟨_, rfl, .same rfl⟩, trivial⟩ trivial (Nat.zero_le _) ?_
      intro i hi
      try dsimp only at hi ⊢
      refine wpv_ok Γok (by kernel_rfl) _ _ _ ?_; conv => whnf
      refine bool_cases (fun hc => ?_) (fun hc => ?_)
      · have hc := of_decide_eq_true hc
        have hc : i < l.sym.length := by omega
        have st : nzs l.sym (i + 1) = (nzs l.sym i && !decide (l.sym.getD i 0 = 0)) := rfl
        conv => whnf
        try (refine ⟨by kernel_rfl, ?_⟩; conv => whnf)
        refine bindP_intro (if_pos (inB_ok (by omega) (by omega))) ?_; conv => whnf
        refine bindP_intro (bts_ix (i := i) (by dsimp only; omega) hc) ?_
        refine gen_ex (l.sym.getD i 0) fun x ex => ?_
        rw [← ex] at st ⊢
        clear ex
        conv => whnf
        try (refine ⟨by kernel_rfl, ?_⟩; conv => whnf)
        cases hk : (d && nzs l.sym i) with
        | false =>
          conv => whnf
          try (refine ⟨by kernel_rfl, ?_⟩; conv => whnf)
          refine next_round (y := i) G0ok (i + 1) [] rfl ⟨⟨_, rfl, conv_nI (ws_i64 (by omega) (by omega))⟩, ⟨_, rfl, conv_nI (rfl)⟩, ⟨_, rfl, conv_eq rfl (nS)⟩, ⟨_, rfl, conv_eq (by rw [st, ← Bool.and_assoc, hk, Bool.false_and]; rfl) rfl⟩, ⟨_, rfl, .same rfl⟩, trivial⟩ trivial (by omega) (by omega)
        | true =>
          conv => whnf
          try (refine ⟨by kernel_rfl, ?_⟩; conv => whnf)
          rw [show (((x : Nat) : Int) != 0) = !decide (x = 0) from congrArg (!·) (beq_lit x 0)]
          conv => whnf
          try (refine ⟨by kernel_rfl, ?_⟩; conv => whnf)
          refine next_round (y := i) G0ok (i + 1) [] rfl ⟨⟨_, rfl, conv_nI (ws_i64 (by omega) (by omega))⟩, ⟨_, rfl, conv_nI (rfl)⟩, ⟨_, rfl, conv_eq rfl (nS)⟩, ⟨_, rfl, conv_eq (by rw [st, ← Bool.and_assoc, hk, Bool.true_and]; rfl) rfl⟩, ⟨_, rfl, .same rfl⟩, trivial⟩ trivial (by omega) (by omega)
      · have hc := of_decide_eq_false hc
        have e : i = l.sym.length := by omega
        subst e
        conv => whnf
        try (refine ⟨by kernel_rfl, ?_⟩; conv => whnf)
        exact ⟨_, rfl, rfl⟩
    · rw [decide_eq_false a2, Bool.false_and]
      conv => whnf
      try (refine ⟨by kernel_rfl, ?_⟩; conv => whnf)
      refine bindP_intro c.sym ?_
      conv => whnf
      try (refine ⟨by kernel_rfl, ?_⟩; conv => whnf)
      refine onlyIf_intro (by rw [sz]; exact Nat.ble_eq_true_of_le (by omega)) ?_
      refine .read l.sym.length (bts l.sym) sz (sym_cells h6) (by rw [bts_length, Nat.mul_one]) (bts_noHs _) ?_
      conv => whnf
      try (refine ⟨by kernel_rfl, ?_⟩; conv => whnf)
      refine vloop_invK G0ok [] 0 (X := Nat) (fun i => [(26, nI .i64 i), (25, nI .i64 l.sym.length), (24, .ds false l.sym.length (bts l.sym)), (5, bI (false && nzs l.sym i)), (4, bI false)]) (fun _ => []) (fun i => i ≤ l.sym.length) (fun i => l.sym.length - i) 0 rfl
        ⟨⟨_, rfl, conv_nI (rfl)⟩, ⟨_, rfl, conv_nI (rfl)⟩, ⟨_, rfl, conv_eq rfl (nS)⟩, ⟨_, rfl, conv_eq (by rw [show nzs l.sym 0 = true from rfl, Bool.and_true]; rfl) rfl⟩, ⟨_, rfl, .same rfl⟩, trivial⟩ trivial (Nat.zero_le _) ?_
      intro i hi
      try dsimp only at hi ⊢
      refine wpv_ok Γok (by kernel_rfl) _ _ _ ?_; conv => whnf
      refine bool_cases (fun hc => ?_) (fun hc => ?_)
      · have hc := of_decide_eq_true hc
        have hc : i < l.sym.length := by omega
        have st : nzs l.sym (i + 1) = (nzs l.sym i && !decide (l.sym.getD i 0 = 0)) := rfl
        conv => whnf
        try (refine ⟨by kernel_rfl, ?_⟩; conv => whnf)
        refine bindP_intro (if_pos (inB_ok (by omega) (by omega))) ?_; conv => whnf
        refine bindP_intro (bts_ix (i := i) (by dsimp only; omega) hc) ?_
        refine gen_ex (l.sym.getD i 0) fun x ex => ?_
        rw [← ex] at st ⊢
        clear ex
        conv => whnf
        try (refine ⟨by kernel_rfl, ?_⟩; conv => whnf)
        cases hk : (false && nzs l.sym i) with
        | false =>
          conv => whnf
          try (refine ⟨by kernel_rfl, ?_⟩; conv => whnf)
          refine next_round (y := i) G0ok (i + 1) [] rfl ⟨⟨_, rfl, conv_nI (ws_i64 (by omega) (by omega))⟩, ⟨_, rfl, conv_nI (rfl)⟩, ⟨_, rfl, conv_eq rfl (nS)⟩, ⟨_, rfl, conv_eq (by rw [st, ← Bool.and_assoc, hk, Bool.false_and]; rfl) rfl⟩, ⟨_, rfl, .same rfl⟩, trivial⟩ trivial (by omega) (by omega)
        | true =>
          rw [Bool.false_and] at hk; cases hk
      · have hc := of_decide_eq_false hc
        have e : i = l.sym.length := by omega
        subst e
        conv => whnf
        try (refine ⟨by kernel_rfl, ?_⟩; conv => whnf)
        exact ⟨_, rfl, rfl⟩
  · rw [decide_eq_false a1, Bool.false_and]
    conv => whnf
    try (refine ⟨by kernel_rfl, ?_⟩; conv => whnf)
    refine bindP_intro c.sym ?_
    conv => whnf
    try (refine ⟨by kernel_rfl, ?_⟩; conv => whnf)
    refine onlyIf_intro (by rw [sz]; exact Nat.ble_eq_true_of_le (by omega)) ?_
    refine .read l.sym.length (bts l.sym) sz (sym_cells h6) (by rw [bts_length, Nat.mul_one]) (bts_noHs _) ?_
    conv => whnf
    try (refine ⟨by kernel_rfl, ?_⟩; conv => whnf)
    refine vloop_invK G0ok [] 0 (X := Nat) (fun i => [(26, nI .i64 i), (25, nI .i64 l.sym.length), (24, .ds false l.sym.length (bts l.sym)), (5, bI (false && nzs l.sym i)), (4, bI false)]) (fun _ => []) (fun i => i ≤ l.sym.length) (fun i => l.sym.length - i) 0 rfl
      ⟨⟨_, rfl, conv_nI (rfl)⟩, ⟨_, rfl, conv_nI (rfl)⟩, ⟨_, rfl, conv_eq rfl (nS)⟩, ⟨_, rfl, conv_eq (by rw [show nzs l.sym 0 = true from rfl, Bool.and_true]; rfl) rfl⟩, ⟨_, rfl, .same rfl⟩, trivial⟩ trivial (Nat.zero_le _) ?_
    intro i hi
    try dsimp only at hi ⊢
    refine wpv_ok Γok (by kernel_rfl) _ _ _ ?_; conv => whnf
    refine bool_cases (fun hc => ?_) (fun hc => ?_)
    · have hc := of_decide_eq_true hc
      have hc : i < l.sym.length := by omega
      have st : nzs l.sym (i + 1) = (nzs l.sym i && !decide (l.sym.getD i 0 = 0)) := rfl
      conv => whnf
      try (refine ⟨by kernel_rfl, ?_⟩; conv => whnf)
      refine bindP_intro (if_pos (inB_ok (by omega) (by omega))) ?_; conv => whnf
      refine bindP_intro (bts_ix (i := i) (by dsimp only; omega) hc) ?_
      refine gen_ex (l.sym.getD i 0) fun x ex => ?_
      rw [← ex] at st ⊢
      clear ex
      conv => whnf
      try (refine ⟨by kernel_rfl, ?_⟩; conv => whnf)
      cases hk : (false && nzs l.sym i) with
      | false =>
        conv => whnf
        try (refine ⟨by kernel_rfl, ?_⟩; conv => whnf)
        refine next_round (y := i) G0ok (i + 1) [] rfl ⟨⟨_, rfl, conv_nI (ws_i64 (by omega) (by omega))⟩, ⟨_, rfl, conv_nI (rfl)⟩, ⟨_, rfl, conv_eq rfl (nS)⟩, ⟨_, rfl, conv_eq (by rw [st, ← Bool.and_assoc, hk, Bool.false_and]; rfl) rfl⟩, ⟨_, rfl, .same rfl⟩, trivial⟩ trivial (by omega) (by omega)
      | true =>
        rw [Bool.false_and] at hk; cases hk
    · have hc := of_decide_eq_false hc
      have e : i = l.sym.length := by omega
      subst e
      conv => whnf
      try (refine ⟨by kernel_rfl, ?_⟩; conv => whnf)
      exact ⟨_, rfl, rfl⟩
end Go.Proofs.Ytilmfdlonpjjiaa
