/- Contracts of the functions below, by the engine. -/
import GoSem.Core.Value
import Derived.Test.YtidkdlaihmpjfaaDoorVLaw
import Derived.WalkKit
import Derived.WalkSpells
import Derived.WalkLawsBesides
import Derived.Laws.Externs
import Derived.WalkArith
import Derived.IntWalk
import Derived.Test.YtidkdlaihmpjfaaDoorShelf
import Derived.Laws.BitsAllLaws
namespace Go.Proofs.YtidkdlaihmpjfaaDoor
set_option linter.unusedVariables false
set_option linter.unusedSimpArgs false
set_option linter.unusedSectionVars false

def B64 : Nat := 18446744073709551616
def T256 : Nat := 2 ^ 256
theorem B64_eq : B64 = 2 ^ 64 := by decide
theorem T256_eq : T256 = B64 * B64 * B64 * B64 := by decide
theorem T256_lit : T256 = 115792089237316195423570985008687907853269984665640564039457584007913129639936 := by decide
theorem lim_ex : ∃ f : Nat → Nat → Nat, ∀ n i, f n i = n / B64 ^ i % B64 := ⟨_, fun _ _ => rfl⟩
noncomputable def lim : Nat → Nat → Nat := Classical.choose lim_ex
theorem lim_def (n i : Nat) : lim n i = n / B64 ^ i % B64 := Classical.choose_spec lim_ex n i
theorem lim_lt (n i : Nat) : lim n i < B64 := by rw [lim_def]; exact Nat.mod_lt _ (by decide)
/-- A number below 2^256 as the model holds it. -/
@[reducible] noncomputable def u256 (n : Nat) : Value := .agg #[.int .u64 (lim n 0), .int .u64 (lim n 1), .int .u64 (lim n 2), .int .u64 (lim n 3)]
def val4 (a b c d : Nat) : Nat := a + B64 * b + B64 * B64 * c + B64 * B64 * B64 * d
theorem lim_val4 {a b c d : Nat} (ha : a < B64) (hb : b < B64) (hc : c < B64) (hd : d < B64) :
    lim (val4 a b c d) 0 = a ∧ lim (val4 a b c d) 1 = b ∧ lim (val4 a b c d) 2 = c ∧ lim (val4 a b c d) 3 = d := by
  simp only [lim_def]
  unfold val4
  simp only [B64] at *
  refine ⟨?_, ?_, ?_, ?_⟩ <;> omega
theorem val4_lim {n : Nat} (h : n < T256) : val4 (lim n 0) (lim n 1) (lim n 2) (lim n 3) = n := by
  rw [T256_eq] at h
  simp only [lim_def]
  unfold val4
  simp only [B64] at *
  omega
theorem val4_lt {a b c d : Nat} (ha : a < B64) (hb : b < B64) (hc : c < B64) (hd : d < B64) : val4 a b c d < T256 := by
  rw [T256_eq]
  unfold val4
  simp only [B64] at *
  omega
theorem u256_val4 {a b c d : Nat} (ha : a < B64) (hb : b < B64) (hc : c < B64) (hd : d < B64) :
    u256 (val4 a b c d) = .agg #[.int .u64 a, .int .u64 b, .int .u64 c, .int .u64 d] := by
  obtain ⟨h0, h1, h2, h3⟩ := lim_val4 ha hb hc hd
  unfold u256
  rw [h0, h1, h2, h3]
/-- Every number is its limbs. -/
theorem limbs {n : Nat} (h : n < T256) : ∃ a b c d, a < B64 ∧ b < B64 ∧ c < B64 ∧ d < B64 ∧ n = val4 a b c d :=
  ⟨_, _, _, _, lim_lt n 0, lim_lt n 1, lim_lt n 2, lim_lt n 3, (val4_lim h).symm⟩

theorem addS_ex : ∃ f : Nat → Nat → Nat, ∀ a b, f a b = (a + b) % T256 := ⟨_, fun _ _ => rfl⟩
noncomputable def addS : Nat → Nat → Nat := Classical.choose addS_ex
theorem addS_def (a b : Nat) : addS a b = (a + b) % T256 := Classical.choose_spec addS_ex a b
theorem addO_ex : ∃ f : Nat → Nat → Bool, ∀ a b, f a b = decide (T256 ≤ a + b) := ⟨_, fun _ _ => rfl⟩
noncomputable def addO : Nat → Nat → Bool := Classical.choose addO_ex
theorem addO_def (a b : Nat) : addO a b = decide (T256 ≤ a + b) := Classical.choose_spec addO_ex a b
theorem subS_ex : ∃ f : Nat → Nat → Nat, ∀ a b, f a b = (a + T256 - b) % T256 := ⟨_, fun _ _ => rfl⟩
noncomputable def subS : Nat → Nat → Nat := Classical.choose subS_ex
theorem subS_def (a b : Nat) : subS a b = (a + T256 - b) % T256 := Classical.choose_spec subS_ex a b
theorem subO_ex : ∃ f : Nat → Nat → Bool, ∀ a b, f a b = decide (a < b) := ⟨_, fun _ _ => rfl⟩
noncomputable def subO : Nat → Nat → Bool := Classical.choose subO_ex
theorem subO_def (a b : Nat) : subO a b = decide (a < b) := Classical.choose_spec subO_ex a b
theorem addS_lt (a b : Nat) : addS a b < T256 := by rw [addS_def]; exact Nat.mod_lt _ (by decide)
theorem subS_lt (a b : Nat) : subS a b < T256 := by rw [subS_def]; exact Nat.mod_lt _ (by decide)

def acc (x y c : Nat) : Nat := (x + y + c) % B64
def car (x y c : Nat) : Nat := (x + y + c) / B64
theorem acc_lt (x y c : Nat) : acc x y c < B64 := Nat.mod_lt _ (by decide)
theorem car_le {x y c : Nat} (hx : x < B64) (hy : y < B64) (hc : c ≤ 1) : car x y c ≤ 1 := by
  unfold car; simp only [B64] at *; omega
theorem acc_car (x y c : Nat) : x + y + c = acc x y c + B64 * car x y c := (Nat.mod_add_div _ _).symm
theorem add_val4 {a0 a1 a2 a3 b0 b1 b2 b3 s0 s1 s2 s3 c1 c2 c3 c4 : Nat}
    (l0 : s0 < B64) (l1 : s1 < B64) (l2 : s2 < B64) (l3 : s3 < B64) (lc : c4 ≤ 1)
    (e0 : a0 + b0 + 0 = s0 + B64 * c1) (e1 : a1 + b1 + c1 = s1 + B64 * c2) (e2 : a2 + b2 + c2 = s2 + B64 * c3) (e3 : a3 + b3 + c3 = s3 + B64 * c4) :
    addS (val4 a0 a1 a2 a3) (val4 b0 b1 b2 b3) = val4 s0 s1 s2 s3 ∧ addO (val4 a0 a1 a2 a3) (val4 b0 b1 b2 b3) = (c4 == 1) := by
  have hl := val4_lt l0 l1 l2 l3
  have e : val4 a0 a1 a2 a3 + val4 b0 b1 b2 b3 = val4 s0 s1 s2 s3 + T256 * c4 := by
    rw [T256_eq]; unfold val4; simp only [B64] at *; omega
  rw [addS_def, addO_def]
  rw [e]
  have h : c4 = 0 ∨ c4 = 1 := by omega
  rcases h with rfl | rfl
  · refine ⟨by simp [Nat.mod_eq_of_lt hl], by simp; omega⟩
  · refine ⟨by simp [Nat.mod_eq_of_lt hl], by simp⟩
def dif (x y b : Nat) : Nat := (x + B64 - y - b) % B64
def bor (x y b : Nat) : Nat := if x < y + b then 1 else 0
theorem dif_lt (x y b : Nat) : dif x y b < B64 := Nat.mod_lt _ (by decide)
theorem bor_le (x y b : Nat) : bor x y b ≤ 1 := by unfold bor; split <;> omega
theorem dif_bor {x y b : Nat} (hx : x < B64) (hy : y < B64) (hb : b ≤ 1) : x + B64 * bor x y b = y + b + dif x y b := by
  unfold bor dif; simp only [B64] at *; split <;> omega
theorem sub_val4 {a0 a1 a2 a3 b0 b1 b2 b3 : Nat} (k0 : a0 < B64) (k1 : a1 < B64) (k2 : a2 < B64) (k3 : a3 < B64) (m0 : b0 < B64) (m1 : b1 < B64) (m2 : b2 < B64) (m3 : b3 < B64) :
    subS (val4 a0 a1 a2 a3) (val4 b0 b1 b2 b3) = val4 (dif a0 b0 0) (dif a1 b1 (bor a0 b0 0)) (dif a2 b2 (bor a1 b1 (bor a0 b0 0))) (dif a3 b3 (bor a2 b2 (bor a1 b1 (bor a0 b0 0)))) ∧
    subO (val4 a0 a1 a2 a3) (val4 b0 b1 b2 b3) = (bor a3 b3 (bor a2 b2 (bor a1 b1 (bor a0 b0 0))) == 1) := by
  have e0 := dif_bor k0 m0 (b := 0) (by omega)
  have e1 := dif_bor k1 m1 (bor_le a0 b0 0)
  have e2 := dif_bor k2 m2 (bor_le a1 b1 (bor a0 b0 0))
  have e3 := dif_bor k3 m3 (bor_le a2 b2 (bor a1 b1 (bor a0 b0 0)))
  have hl := val4_lt (dif_lt a0 b0 0) (dif_lt a1 b1 (bor a0 b0 0)) (dif_lt a2 b2 (bor a1 b1 (bor a0 b0 0))) (dif_lt a3 b3 (bor a2 b2 (bor a1 b1 (bor a0 b0 0))))
  have la := val4_lt k0 k1 k2 k3
  have lb := val4_lt m0 m1 m2 m3
  have hc := bor_le a3 b3 (bor a2 b2 (bor a1 b1 (bor a0 b0 0)))
  generalize bor a3 b3 (bor a2 b2 (bor a1 b1 (bor a0 b0 0))) = c4 at *
  generalize dif a3 b3 (bor a2 b2 (bor a1 b1 (bor a0 b0 0))) = d3 at *
  generalize bor a2 b2 (bor a1 b1 (bor a0 b0 0)) = c3 at *
  generalize dif a2 b2 (bor a1 b1 (bor a0 b0 0)) = d2 at *
  generalize bor a1 b1 (bor a0 b0 0) = c2 at *
  generalize dif a1 b1 (bor a0 b0 0) = d1 at *
  generalize bor a0 b0 0 = c1 at *
  generalize dif a0 b0 0 = d0 at *
  have e : val4 a0 a1 a2 a3 + T256 * c4 = val4 b0 b1 b2 b3 + val4 d0 d1 d2 d3 := by
    rw [T256_eq]; unfold val4; simp only [B64] at *; omega
  generalize val4 a0 a1 a2 a3 = A at *
  generalize val4 b0 b1 b2 b3 = B at *
  generalize val4 d0 d1 d2 d3 = D at *
  rw [subS_def, subO_def]
  have h : c4 = 0 ∨ c4 = 1 := by omega
  rcases h with rfl | rfl
  · refine ⟨?_, by simp; omega⟩
    rw [show A + T256 - B = D + T256 by omega, Nat.add_mod_right, Nat.mod_eq_of_lt hl]
  · refine ⟨?_, by simp; omega⟩
    rw [show A + T256 - B = D by omega, Nat.mod_eq_of_lt hl]
theorem beq_one (n : Nat) : ((n : Int) == 1) = (n == 1) := by
  rw [Bool.eq_iff_iff]; simp only [beq_iff_eq]; omega
end Go.Proofs.YtidkdlaihmpjfaaDoor
namespace Go.Proofs.YtidkdlaihmpjfaaDoor
set_option linter.unusedVariables false
set_option linter.unusedSimpArgs false
set_option linter.unusedSectionVars false
open Go.ChangeShapes Go.WideShapes Go.ChangeAt Go.RowKit Go.Joins
set_option maxRecDepth 10000
theorem fn_calls {P : Program} {G : Globs} {g : FuncId} {fn : Func} {code : Code} (hf : P.funcs[g]? = some fn) (hname : (fn.name == "runtime.NumGoroutine") = false) (hb : fn.body = some code) {us : List Value} {r : Value} {d : VV}
    (h : ∀ w, Calls P g us.toArray w fun e w' => e = .returned r ∧ w = w') (hd : ∀ E, VR E d r) : FnV P G g (us.map .v) d := by
  intro w A args _ ha
  have h1 : args.toList = us := VRs_v ha
  obtain rfl : args = us.toArray := by rw [← h1]
  have hent : (callFunc g us.toArray).run P w = .ok (.enter g us.toArray) w := by
    have h1 : fn.name ≠ "runtime.NumGoroutine" := by simpa using hname
    simp [callFunc, hf, h1, hb]
  unfold FGoes
  rw [hent]
  refine Calls.mono (h w) fun e w' ⟨he, hw⟩ => ⟨r, he, hd _, ?_⟩
  subst hw
  exact Below.refl _ _
theorem fn_val {P : Program} {G : Globs} {g : FuncId} {us : List Value} {r : Value} {d : VV} (h : ∀ w, (callFunc g us.toArray).run P w = .ok (.value r) w) (hd : ∀ E, VR E d r) : FnV P G g (us.map .v) d := by
  intro w A args _ ha
  have h1 : args.toList = us := VRs_v ha
  obtain rfl : args = us.toArray := by rw [← h1]
  unfold FGoes
  rw [h w]
  exact ⟨hd _, Below.refl _ _⟩
theorem callAdd64 {x y c : Nat} (hc : c ≤ 1) (w : World) :
    (callFunc 81 #[.int .u64 x, .int .u64 y, .int .u64 c]).run Tryd.prog w = .ok (.value (.tuple #[.int .u64 (acc x y c), .int .u64 (car x y c)])) w := by
  rw [run_callFunc_extern Tryd.func81 (by kernel_rfl) (by kernel_rfl) (by kernel_rfl) (e := add64Entry) (by kernel_rfl), run_add64 x y c (by omega) (by omega) (by omega) (by omega)]
  simp only [Result.andThen, acc, car, B64]
  congr 5 <;> omega
theorem add64_fn {x y c : Nat} (hc : c ≤ 1) : FnV Tryd.prog G0 81 [nI .u64 x, nI .u64 y, nI .u64 c] (.tup [nI .u64 (acc x y c), nI .u64 (car x y c)]) :=
  fn_val (us := [.int .u64 x, .int .u64 y, .int .u64 c]) (callAdd64 hc) (fun E => by simp [VR, VRs, nI])
noncomputable def uV (n : Nat) : VV := .agg (words [lim n 0, lim n 1, lim n 2, lim n 3])
theorem uV_val4 {a b c d : Nat} (ha : a < B64) (hb : b < B64) (hc : c < B64) (hd : d < B64) : uV (val4 a b c d) = .agg (words [a, b, c, d]) := by
  obtain ⟨h0, h1, h2, h3⟩ := lim_val4 ha hb hc hd
  simp only [uV, h0, h1, h2, h3]
theorem add_fn4 (a0 a1 a2 a3 b0 b1 b2 b3 c1 c2 c3 : Nat) (h1 : car a0 b0 0 = c1) (h2 : car a1 b1 c1 = c2) (h3 : car a2 b2 c2 = c3) (k1 : c1 ≤ 1) (k2 : c2 ≤ 1) (k3 : c3 ≤ 1) :
    FnV Tryd.prog G0 58 [.agg (words [a0, a1, a2, a3]), .agg (words [b0, b1, b2, b3])]
      (.tup [.agg (words [acc a0 b0 0, acc a1 b1 c1, acc a2 b2 c2, acc a3 b3 c3]), bI (((car a3 b3 c3 : Nat) : Int) == 1)]) := by
  refine fn_of_vwp Γok Tryd.func58 (by kernel_rfl) rfl (by simp [Tryd.ntmps58]) (wpv_ok Γok (by kernel_rfl) _ _ _ ?_); conv => whnf
  refine vloop_unroll ?_
  refine wpv_ok Γok (by kernel_rfl) _ _ _ ?_; conv => whnf
  refine ⟨_, ret_of_fn G0ok (add64_fn (x := a0) (y := b0) (c := 0) (by omega)) (by rfl) rfl, ?_⟩; conv => whnf
  refine ⟨by kernel_rfl, ?_⟩
  rw [h1]
  conv => whnf
  refine vloop_unroll ?_
  refine wpv_ok Γok (by kernel_rfl) _ _ _ ?_; conv => whnf
  rw [ws_i64 (by omega) (by omega)]
  conv => whnf
  refine ⟨_, ret_of_fn G0ok (add64_fn (x := a1) (y := b1) k1) (by rfl) rfl, ?_⟩; conv => whnf
  refine ⟨by kernel_rfl, ?_⟩
  rw [h2]
  conv => whnf
  refine vloop_unroll ?_
  refine wpv_ok Γok (by kernel_rfl) _ _ _ ?_; conv => whnf
  rw [ws_i64 (by omega) (by omega)]
  conv => whnf
  refine ⟨_, ret_of_fn G0ok (add64_fn (x := a2) (y := b2) k2) (by rfl) rfl, ?_⟩; conv => whnf
  refine ⟨by kernel_rfl, ?_⟩
  rw [h3]
  conv => whnf
  refine vloop_unroll ?_
  refine wpv_ok Γok (by kernel_rfl) _ _ _ ?_; conv => whnf
  rw [ws_i64 (by omega) (by omega)]
  conv => whnf
  refine ⟨_, ret_of_fn G0ok (add64_fn (x := a3) (y := b3) k3) (by rfl) rfl, ?_⟩; conv => whnf
  refine ⟨by kernel_rfl, ?_⟩
  conv => whnf
  refine vloop_unroll ?_
  refine wpv_ok Γok (by kernel_rfl) _ _ _ ?_; conv => whnf
  rw [ws_i64 (by omega) (by omega)]
  conv => whnf
  exact ⟨_, rfl, rfl⟩
theorem add_fn {a b : Nat} (ha : a < T256) (hb : b < T256) : FnV Tryd.prog G0 58 [uV a, uV b] (.tup [uV (addS a b), bI (addO a b)]) := by
  obtain ⟨a0, a1, a2, a3, k0, k1, k2, k3, rfl⟩ := limbs ha
  obtain ⟨b0, b1, b2, b3, m0, m1, m2, m3, rfl⟩ := limbs hb
  have q1 := car_le k0 m0 (c := 0) (by omega)
  have q2 := car_le k1 m1 q1
  have q3 := car_le k2 m2 q2
  have q4 := car_le k3 m3 q3
  obtain ⟨e1, e2⟩ := add_val4 (acc_lt a0 b0 0) (acc_lt a1 b1 _) (acc_lt a2 b2 _) (acc_lt a3 b3 _) q4 (acc_car _ _ _) (acc_car _ _ _) (acc_car _ _ _) (acc_car _ _ _)
  rw [e1, e2, ← beq_one, uV_val4 k0 k1 k2 k3, uV_val4 m0 m1 m2 m3, uV_val4 (acc_lt _ _ _) (acc_lt _ _ _) (acc_lt _ _ _) (acc_lt _ _ _)]
  exact add_fn4 a0 a1 a2 a3 b0 b1 b2 b3 _ _ _ rfl rfl rfl q1 q2 q3
end Go.Proofs.YtidkdlaihmpjfaaDoor
namespace Go.Proofs.YtidkdlaihmpjfaaDoor
set_option linter.unusedVariables false
set_option linter.unusedSimpArgs false
set_option linter.unusedSectionVars false
open Go.ChangeShapes Go.WideShapes Go.ChangeAt Go.RowKit Go.Joins
set_option maxRecDepth 10000
theorem eq_loop {P : Program} {w : World} (f : Nat → Sem Bool) (q : Nat → Bool) : ∀ (l : List Nat), (∀ k ∈ l, (f k).run P w = .ok (q k) w) →
    (forIn l (none, ()) fun (i : Nat) (_ : Option Bool × Unit) => (do
      let b ← f i
      if (!b) = true then pure (ForInStep.done (some false, ())) else pure (ForInStep.yield (none, ())) : Sem (ForInStep (Option Bool × Unit)))).run P w = .ok (if l.all q then (none, ()) else (some false, ())) w
  | [], _ => by simp
  | k :: l, h => by
    have h1 := h k (by simp)
    have h2 := eq_loop f q l fun k hk => h k (by simp [hk])
    rw [List.forIn_cons]
    cases hq : q k with
    | true =>
      rw [hq] at h1
      simp only [Sem.run_bind, h1, Result.andThen_ok, Bool.not_true, Bool.false_eq_true, if_false, Sem.run_pure, List.all_cons, hq, Bool.true_and]
      exact h2
    | false =>
      rw [hq] at h1
      simp only [Sem.run_bind, h1, Result.andThen_ok, Bool.not_false, if_true, Sem.run_pure, List.all_cons, hq, Bool.false_and, Bool.false_eq_true, if_false]
theorem equal_arr {P : Program} {Γ : Tab} (hΓ : TabOk P Γ) {t e : TypeId} {n : Nat} {r : TR} (ht : P.underlying t = some (.array n e)) (he : Γ e = some r) (us vs : Array Value) (q : Nat → Bool) (d : Nat) (w : World)
    (hq : ∀ k, k < n → (do let x ← part e us (k * r.size); let y ← part e vs (k * r.size); Op.equalIn d e x y : Sem Bool).run P w = .ok (q k) w) :
    (Op.equalIn (d + 1) t (.agg us) (.agg vs)).run P w = .ok ((List.range n).all q) w := by
  have h := eq_loop (P := P) (w := w) (fun k => (do let x ← part e us (k * r.size); let y ← part e vs (k * r.size); Op.equalIn d e x y : Sem Bool)) q (List.range n) (fun k hk => hq k (by simpa using hk))
  unfold Op.equalIn
  simp only [Sem.run_bind, run_underlying ht, Result.andThen_ok]
  simp only [Std.Legacy.Range.forIn_eq_forIn_range', Std.Legacy.Range.size, Nat.sub_zero, Nat.add_sub_cancel, Nat.div_one]
  rw [run_sizeOf_tab hΓ he, Result.andThen_ok, ← List.range_eq_range']
  simp only [bind_assoc] at h
  rw [h, Result.andThen_ok]
  cases (List.range n).all q <;> simp
theorem VRs_same (E : Env) : ∀ us : List Value, VRs E (us.map VV.v) us
  | [] => by simp [VRs]
  | u :: us => VRs.cons rfl (VRs_same E us)
theorem equal_words {P : Program} {Γ : Tab} (hΓ : TabOk P Γ) {t e : TypeId} {n : Nat} {k : IntKind} {r : TR} (ht : P.underlying t = some (.array n e)) (he : Γ e = some r) (hr : r.d = .int k) (hs : r.size = 1) (hd : P.underlying e = some (.int k)) (l m : List Int) (hl : l.length = n) (hm : m.length = n) (d : Nat) (w : World) :
    (Op.equalIn (d + 2) t (.agg (l.map fun x => Value.int k x).toArray) (.agg (m.map fun x => Value.int k x).toArray)).run P w = .ok (decide (l = m)) w := by
  have hpart : ∀ (l : List Int) (i : Nat), i < l.length → (part e (l.map fun x => Value.int k x).toArray (i * r.size)).run P w = .ok (.int k (l.getD i 0)) w := by
    intro l i hi
    have h1 : vpart Γ e ((l.map fun x => Value.int k x).map VV.v) (i * r.size) = some (.v (.int k (l.getD i 0))) := by
      unfold vpart
      rw [he]
      simp only [hr, TD.agg, hs, Nat.mul_one]
      simp [List.getElem?_eq_getElem hi, List.getD]
    obtain ⟨u, h2, h3⟩ := vpart_ok hΓ (E := E0 w (fun _ => False)) h1 (VRs_same _ _) (by intro u hu; simp only [List.mem_map] at hu; obtain ⟨x, _, rfl⟩ := hu; rfl) w
    simp only [VR] at h3
    rw [h2, h3]
  have h := equal_arr hΓ (d := d + 1) ht he (l.map fun x => Value.int k x).toArray (m.map fun x => Value.int k x).toArray (fun i => l.getD i 0 == m.getD i 0) w (fun i hi => by
    simp only [Sem.run_bind, hpart l i (by omega), hpart m i (by omega), Result.andThen_ok]
    unfold Op.equalIn
    simp [run_underlying hd])
  rw [h]
  congr 1
  rw [Bool.eq_iff_iff, List.all_eq_true, decide_eq_true_iff]
  constructor
  · intro h
    refine List.ext_getElem (by omega) fun i h1 h2 => ?_
    have := h i (by simp; omega)
    simpa [List.getD, List.getElem?_eq_getElem h1, List.getElem?_eq_getElem h2] using this
  · rintro rfl i _
    simp
theorem eqAgg_ints {P : Program} {Γ : Tab} (hΓ : TabOk P Γ) {t e : TypeId} {n : Nat} {k : IntKind} {r : TR} (ht : P.underlying t = some (.array n e)) (he : Γ e = some r) (hr : r.d = .int k) (hs : r.size = 1) (hd : P.underlying e = some (.int k))
    (hg : P.eqGuardType P.depth t = false) (l m : List Int) (hl : l.length = n) (hm : m.length = n) : EqAgg P .eql t (l.map fun x => nI k x) (m.map fun x => nI k x) (decide (l = m)) := by
  refine ⟨l.map fun x => .int k x, m.map fun x => .int k x, by simp [nI], by simp [nI], fun ox oy w => ?_⟩
  have h := equal_words hΓ ht he hr hs hd l m hl hm 9998 w
  have hg1 : (eqGuard .eql t ox oy (.agg (l.map fun x => Value.int k x).toArray) (.agg (m.map fun x => Value.int k x).toArray)).run P w = .ok () w := by
    unfold eqGuard
    simp [hg]
  simp only [Sem.run_bind, hg1, Result.andThen_ok]
  show (do let b ← Op.equal t _ _; pure (Value.bool b) : Sem Value).run P w = _
  simp only [Sem.run_bind]
  rw [show (Op.equal t (.agg (l.map fun x => Value.int k x).toArray) (.agg (m.map fun x => Value.int k x).toArray)).run P w = .ok (decide (l = m)) w from h]
  simp
theorem eqAgg_ints_ne {P : Program} {Γ : Tab} (hΓ : TabOk P Γ) {t e : TypeId} {n : Nat} {k : IntKind} {r : TR} (ht : P.underlying t = some (.array n e)) (he : Γ e = some r) (hr : r.d = .int k) (hs : r.size = 1) (hd : P.underlying e = some (.int k))
    (hg : P.eqGuardType P.depth t = false) (l m : List Int) (hl : l.length = n) (hm : m.length = n) : EqAgg P .neq t (l.map fun x => nI k x) (m.map fun x => nI k x) (!decide (l = m)) := by
  refine ⟨l.map fun x => .int k x, m.map fun x => .int k x, by simp [nI], by simp [nI], fun ox oy w => ?_⟩
  have h := equal_words hΓ ht he hr hs hd l m hl hm 9998 w
  have hg1 : (eqGuard .neq t ox oy (.agg (l.map fun x => Value.int k x).toArray) (.agg (m.map fun x => Value.int k x).toArray)).run P w = .ok () w := by
    unfold eqGuard
    simp [hg]
  simp only [Sem.run_bind, hg1, Result.andThen_ok]
  show (do let b ← Op.equal t _ _; pure (Value.bool (!b)) : Sem Value).run P w = _
  simp only [Sem.run_bind]
  rw [show (Op.equal t (.agg (l.map fun x => Value.int k x).toArray) (.agg (m.map fun x => Value.int k x).toArray)).run P w = .ok (decide (l = m)) w from h]
  simp
/-- '==' of two numbers of 256 bits. -/
theorem words_map (l : List Nat) : words l = (l.map fun (x : Nat) => (x : Int)).map fun x => nI .u64 x := by simp [words]
theorem map_cast_eq (l m : List Nat) : (l.map (fun (x : Nat) => (x : Int)) = m.map fun (x : Nat) => (x : Int)) ↔ l = m := by
  refine ⟨fun h => ?_, fun h => by rw [h]⟩
  have := congrArg (List.map Int.toNat) h
  simpa [List.map_map, Function.comp_def] using this
theorem uV_inj {a b : Nat} (ha : a < T256) (hb : b < T256) (h : [lim a 0, lim a 1, lim a 2, lim a 3] = [lim b 0, lim b 1, lim b 2, lim b 3]) : a = b := by
  simp only [List.cons.injEq, and_true] at h
  rw [← val4_lim ha, ← val4_lim hb, h.1, h.2.1, h.2.2.1, h.2.2.2]
noncomputable def uC (n : Nat) : List VV := words [lim n 0, lim n 1, lim n 2, lim n 3]
theorem eq_uC {a b : Nat} (ha : a < T256) (hb : b < T256) : EqAgg Tryd.prog .eql 55 (uC a) (uC b) (decide (a = b)) := by
  have h := eqAgg_ints (k := .u64) Γok (t := 55) (e := 22) Tryd.underlying55 rfl rfl rfl Tryd.underlying22 (by kernel_rfl) ([lim a 0, lim a 1, lim a 2, lim a 3].map fun (x : Nat) => (x : Int)) ([lim b 0, lim b 1, lim b 2, lim b 3].map fun (x : Nat) => (x : Int)) rfl rfl
  rw [← words_map, ← words_map] at h
  rw [show decide (a = b) = decide ([lim a 0, lim a 1, lim a 2, lim a 3].map (fun (x : Nat) => (x : Int)) = [lim b 0, lim b 1, lim b 2, lim b 3].map fun (x : Nat) => (x : Int)) from decide_eq_decide.2 ⟨fun h => by rw [h], fun h => uV_inj ha hb ((map_cast_eq _ _).1 h)⟩]
  exact h
theorem ne_uC {a b : Nat} (ha : a < T256) (hb : b < T256) : EqAgg Tryd.prog .neq 55 (uC a) (uC b) (!decide (a = b)) := by
  have h := eqAgg_ints_ne (k := .u64) Γok (t := 55) (e := 22) Tryd.underlying55 rfl rfl rfl Tryd.underlying22 (by kernel_rfl) ([lim a 0, lim a 1, lim a 2, lim a 3].map fun (x : Nat) => (x : Int)) ([lim b 0, lim b 1, lim b 2, lim b 3].map fun (x : Nat) => (x : Int)) rfl rfl
  rw [← words_map, ← words_map] at h
  rw [show decide (a = b) = decide ([lim a 0, lim a 1, lim a 2, lim a 3].map (fun (x : Nat) => (x : Int)) = [lim b 0, lim b 1, lim b 2, lim b 3].map fun (x : Nat) => (x : Int)) from decide_eq_decide.2 ⟨fun h => by rw [h], fun h => uV_inj ha hb ((map_cast_eq _ _).1 h)⟩]
  exact h
theorem uC_lit {n : Nat} (h : n < B64) : uC n = words [n, 0, 0, 0] := by
  have := lim_val4 (a := n) (b := 0) (c := 0) (d := 0) h (by decide) (by decide) (by decide)
  rw [show val4 n 0 0 0 = n by unfold val4; omega] at this
  unfold uC
  rw [this.1, this.2.1, this.2.2.1, this.2.2.2]
end Go.Proofs.YtidkdlaihmpjfaaDoor
namespace Go.Proofs.YtidkdlaihmpjfaaDoor
set_option linter.unusedVariables false
set_option linter.unusedSimpArgs false
set_option linter.unusedSectionVars false
open Go.ChangeShapes Go.WideShapes Go.ChangeAt Go.RowKit Go.Joins
set_option maxRecDepth 10000
theorem picked_fn (n m : Int) (hm : 0 < m) (hm2 : m ≤ 9223372036854775807) : FnV Tryd.prog G0 13 [nI .i64 n, nI .i64 m] (nI .i64 (n % m)) := by
  refine fn_of_vwp Γok Tryd.func13 (by kernel_rfl) rfl (by simp [Tryd.ntmps13]) (wpv_ok Γok (by kernel_rfl) _ _ _ ?_); conv => whnf
  refine bindP_intro (if_neg (by omega)) ?_
  conv => whnf
  refine bool_cases (fun h => ?_) (fun h => ?_)
  · conv => whnf
    refine ⟨_, rfl, congrArg (fun x => some (nI .i64 x)) ?_⟩
    have h := of_decide_eq_true h
    have h1 := Int.emod_nonneg n (show m ≠ 0 by omega)
    have h2 := Int.emod_lt_of_pos n hm
    have : n.tmod m + m = n % m := by
      rw [Int.tmod_eq_emod] at *
      split at h <;> rename_i hc
      · omega
      · rw [if_neg hc]; omega
    rw [this, ws_i64 (by omega) (by omega)]
  · conv => whnf
    refine ⟨_, rfl, congrArg (fun x => some (nI .i64 x)) ?_⟩
    have h := of_decide_eq_false h
    have h1 := Int.emod_nonneg n (show m ≠ 0 by omega)
    rw [Int.tmod_eq_emod] at *
    split at h <;> rename_i hc
    · rw [if_pos hc]; omega
    · have := Int.emod_lt_of_pos n hm
      rw [if_neg hc]; omega
end Go.Proofs.YtidkdlaihmpjfaaDoor
namespace Go.Proofs.YtidkdlaihmpjfaaDoor
set_option linter.unusedVariables false
set_option linter.unusedSimpArgs false
set_option linter.unusedSectionVars false
open Go.ChangeShapes Go.WideShapes Go.ChangeAt Go.RowKit Go.Joins
set_option maxRecDepth 10000
/-- A curve. -/
structure CvD where
  P : Nat
  A : Nat
  B : Nat
  N : Nat
  X : Nat
  Y : Nat
noncomputable def CvD.cells (c : CvD) : List VV := uC c.P ++ (uC c.A ++ (uC c.B ++ (uC c.N ++ (uC c.X ++ (uC c.Y ++ [bI false])))))
noncomputable def CvD.v (c : CvD) : VV := .agg c.cells
def CvD.ok (c : CvD) : Prop := c.P < T256 ∧ c.A < T256 ∧ c.B < T256 ∧ c.N < T256 ∧ c.X < T256 ∧ c.Y < T256
def smallC (p b n x y : Nat) : CvD := ⟨p, 0, b, n, x, y⟩
theorem small_cells {p b n x y : Nat} (hp : p < B64) (hb : b < B64) (hn : n < B64) (hx : x < B64) (hy : y < B64) :
    (smallC p b n x y).cells = words [p, 0, 0, 0, 0, 0, 0, 0, b, 0, 0, 0, n, 0, 0, 0, x, 0, 0, 0, y, 0, 0, 0] ++ [bI false] := by
  unfold CvD.cells smallC
  rw [uC_lit hp, uC_lit (n := 0) (by decide), uC_lit hb, uC_lit hn, uC_lit hx, uC_lit hy]
  rfl
theorem small_fn {p b n x y : Nat} (hp : p < B64) (hb : b < B64) (hn : n < B64) (hx : x < B64) (hy : y < B64) :
    FnV Tryd.prog G0 53 [nI .u64 p, nI .u64 b, nI .u64 n, nI .u64 x, nI .u64 y] (smallC p b n x y).v := by
  unfold CvD.v
  rw [small_cells hp hb hn hx hy]
  refine fn_of_vwp Γok Tryd.func53 (by kernel_rfl) rfl (by simp [Tryd.ntmps53]) (wpv_ok Γok (by kernel_rfl) _ _ _ ?_); conv => whnf
  exact ⟨_, rfl, rfl⟩
/-- The small curves. -/
def crv (k : Nat) : CvD := match k with
  | 0 => smallC 43 7 31 2 12
  | 1 => smallC 67 2 73 2 12
  | 2 => smallC 79 6 67 5 17
  | 3 => smallC 139 2 163 3 53
  | 4 => smallC 163 3 181 1 2
  | 5 => smallC 211 3 199 1 2
  | 6 => smallC 379 2 409 5 49
  | _ => smallC 691 3 643 1 2
theorem curve_fn (n : Int) : FnV Tryd.prog G0 27 [nI .i64 n] (crv (n % 8).toNat).v := by
  have pk := picked_fn n 8 (by decide) (by decide)
  have c0 := small_fn (p := 43) (b := 7) (n := 31) (x := 2) (y := 12) (by decide) (by decide) (by decide) (by decide) (by decide)
  have c1 := small_fn (p := 67) (b := 2) (n := 73) (x := 2) (y := 12) (by decide) (by decide) (by decide) (by decide) (by decide)
  have c2 := small_fn (p := 79) (b := 6) (n := 67) (x := 5) (y := 17) (by decide) (by decide) (by decide) (by decide) (by decide)
  have c3 := small_fn (p := 139) (b := 2) (n := 163) (x := 3) (y := 53) (by decide) (by decide) (by decide) (by decide) (by decide)
  have c4 := small_fn (p := 163) (b := 3) (n := 181) (x := 1) (y := 2) (by decide) (by decide) (by decide) (by decide) (by decide)
  have c5 := small_fn (p := 211) (b := 3) (n := 199) (x := 1) (y := 2) (by decide) (by decide) (by decide) (by decide) (by decide)
  have c6 := small_fn (p := 379) (b := 2) (n := 409) (x := 5) (y := 49) (by decide) (by decide) (by decide) (by decide) (by decide)
  have c7 := small_fn (p := 691) (b := 3) (n := 643) (x := 1) (y := 2) (by decide) (by decide) (by decide) (by decide) (by decide)
  obtain ⟨k, hk, lk⟩ : ∃ k : Nat, n % 8 = (k : Int) ∧ k < 8 := ⟨(n % 8).toNat, by omega, by omega⟩
  rw [hk] at pk ⊢
  rw [show ((k : Int)).toNat = k from rfl]
  clear hk
  have hk : k = 0 ∨ k = 1 ∨ k = 2 ∨ k = 3 ∨ k = 4 ∨ k = 5 ∨ k = 6 ∨ k = 7 := by omega
  clear lk
  rcases hk with rfl | rfl | rfl | rfl | rfl | rfl | rfl | rfl
  all_goals
    refine fn_of_vwp Γok Tryd.func27 (by kernel_rfl) rfl (by simp [Tryd.ntmps27]) (wpv_ok Γok (by kernel_rfl) _ _ _ ?_); conv => whnf
    refine ⟨_, ret_of_fn G0ok (c0) (by first | rfl | simp only [noHs, noH, nI, bI, Bool.and_self, Bool.and_true, Bool.true_and, ]) (by first | rfl | simp only [noHs, noH, nI, bI, Bool.and_self, Bool.and_true, Bool.true_and, ]), ?_⟩; (conv => whnf); (try (refine ⟨by kernel_rfl, ?_⟩; conv => whnf))
    refine ⟨_, ret_of_fn G0ok (c1) (by first | rfl | simp only [noHs, noH, nI, bI, Bool.and_self, Bool.and_true, Bool.true_and, ]) (by first | rfl | simp only [noHs, noH, nI, bI, Bool.and_self, Bool.and_true, Bool.true_and, ]), ?_⟩; (conv => whnf); (try (refine ⟨by kernel_rfl, ?_⟩; conv => whnf))
    refine ⟨_, ret_of_fn G0ok (c2) (by first | rfl | simp only [noHs, noH, nI, bI, Bool.and_self, Bool.and_true, Bool.true_and, ]) (by first | rfl | simp only [noHs, noH, nI, bI, Bool.and_self, Bool.and_true, Bool.true_and, ]), ?_⟩; (conv => whnf); (try (refine ⟨by kernel_rfl, ?_⟩; conv => whnf))
    refine ⟨_, ret_of_fn G0ok (c3) (by first | rfl | simp only [noHs, noH, nI, bI, Bool.and_self, Bool.and_true, Bool.true_and, ]) (by first | rfl | simp only [noHs, noH, nI, bI, Bool.and_self, Bool.and_true, Bool.true_and, ]), ?_⟩; (conv => whnf); (try (refine ⟨by kernel_rfl, ?_⟩; conv => whnf))
    refine ⟨_, ret_of_fn G0ok (c4) (by first | rfl | simp only [noHs, noH, nI, bI, Bool.and_self, Bool.and_true, Bool.true_and, ]) (by first | rfl | simp only [noHs, noH, nI, bI, Bool.and_self, Bool.and_true, Bool.true_and, ]), ?_⟩; (conv => whnf); (try (refine ⟨by kernel_rfl, ?_⟩; conv => whnf))
    refine ⟨_, ret_of_fn G0ok (c5) (by first | rfl | simp only [noHs, noH, nI, bI, Bool.and_self, Bool.and_true, Bool.true_and, ]) (by first | rfl | simp only [noHs, noH, nI, bI, Bool.and_self, Bool.and_true, Bool.true_and, ]), ?_⟩; (conv => whnf); (try (refine ⟨by kernel_rfl, ?_⟩; conv => whnf))
    refine ⟨_, ret_of_fn G0ok (c6) (by first | rfl | simp only [noHs, noH, nI, bI, Bool.and_self, Bool.and_true, Bool.true_and, ]) (by first | rfl | simp only [noHs, noH, nI, bI, Bool.and_self, Bool.and_true, Bool.true_and, ]), ?_⟩; (conv => whnf); (try (refine ⟨by kernel_rfl, ?_⟩; conv => whnf))
    refine ⟨_, ret_of_fn G0ok (c7) (by first | rfl | simp only [noHs, noH, nI, bI, Bool.and_self, Bool.and_true, Bool.true_and, ]) (by first | rfl | simp only [noHs, noH, nI, bI, Bool.and_self, Bool.and_true, Bool.true_and, ]), ?_⟩; (conv => whnf); (try (refine ⟨by kernel_rfl, ?_⟩; conv => whnf))
    refine ⟨_, ret_of_fn G0ok (pk) (by first | rfl | simp only [noHs, noH, nI, bI, Bool.and_self, Bool.and_true, Bool.true_and, ]) (by first | rfl | simp only [noHs, noH, nI, bI, Bool.and_self, Bool.and_true, Bool.true_and, ]), ?_⟩; (conv => whnf); (try (refine ⟨by kernel_rfl, ?_⟩; conv => whnf))
    exact ⟨_, rfl, rfl⟩
end Go.Proofs.YtidkdlaihmpjfaaDoor
namespace Go.Proofs.YtidkdlaihmpjfaaDoor
set_option linter.unusedVariables false
set_option linter.unusedSimpArgs false
set_option linter.unusedSectionVars false
open Go.ChangeShapes Go.WideShapes Go.ChangeAt Go.RowKit Go.Joins
set_option maxRecDepth 10000
theorem cmpN_ex : ∃ f : Nat → Nat → Int, ∀ a b, f a b = if a < b then -1 else if b < a then 1 else 0 := ⟨_, fun _ _ => rfl⟩
noncomputable def cmpN : Nat → Nat → Int := Classical.choose cmpN_ex
theorem cmpN_def (a b : Nat) : cmpN a b = if a < b then -1 else if b < a then 1 else 0 := Classical.choose_spec cmpN_ex a b
theorem cmpN_lt {a b : Nat} (h : a < b) : cmpN a b = -1 := by rw [cmpN_def]; rw [if_pos h]
theorem cmpN_gt {a b : Nat} (h : b < a) : cmpN a b = 1 := by rw [cmpN_def]; rw [if_neg (by omega), if_pos h]
theorem cmpN_eq {a b : Nat} (h : a = b) : cmpN a b = 0 := by rw [cmpN_def]; rw [if_neg (by omega), if_neg (by omega)]
theorem cmpN_neg {a b : Nat} : cmpN a b < 0 ↔ a < b := by rw [cmpN_def]; split <;> (try split) <;> omega
theorem cmpN_pos {a b : Nat} : 0 < cmpN a b ↔ b < a := by rw [cmpN_def]; split <;> (try split) <;> omega
theorem cmpN_zero {a b : Nat} : cmpN a b = 0 ↔ a = b := by rw [cmpN_def]; split <;> (try split) <;> omega
theorem cmpN_ge {a b : Nat} : 0 ≤ cmpN a b ↔ b ≤ a := by rw [cmpN_def]; split <;> (try split) <;> omega
theorem cmpN_le {a b : Nat} : cmpN a b ≤ 0 ↔ a ≤ b := by rw [cmpN_def]; split <;> (try split) <;> omega
theorem cmpN_swap (a b : Nat) : cmpN b a = -cmpN a b := by rw [cmpN_def, cmpN_def]; split <;> split <;> (try split) <;> omega
theorem v4lt3 {a0 a1 a2 a3 b0 b1 b2 b3 : Nat} (k0 : a0 < B64) (k1 : a1 < B64) (k2 : a2 < B64) (h : a3 < b3) : val4 a0 a1 a2 a3 < val4 b0 b1 b2 b3 := by
  unfold val4; simp only [B64] at *; omega
theorem v4lt2 {a0 a1 a2 a3 b0 b1 b2 b3 : Nat} (k0 : a0 < B64) (k1 : a1 < B64) (h3 : ¬ a3 < b3) (g3 : ¬ b3 < a3) (h : a2 < b2) : val4 a0 a1 a2 a3 < val4 b0 b1 b2 b3 := by
  unfold val4; simp only [B64] at *; omega
theorem v4lt1 {a0 a1 a2 a3 b0 b1 b2 b3 : Nat} (k0 : a0 < B64) (h3 : ¬ a3 < b3) (g3 : ¬ b3 < a3) (h2 : ¬ a2 < b2) (g2 : ¬ b2 < a2) (h : a1 < b1) : val4 a0 a1 a2 a3 < val4 b0 b1 b2 b3 := by
  unfold val4; simp only [B64] at *; omega
theorem v4lt0 {a0 a1 a2 a3 b0 b1 b2 b3 : Nat} (h3 : ¬ a3 < b3) (g3 : ¬ b3 < a3) (h2 : ¬ a2 < b2) (g2 : ¬ b2 < a2) (h1 : ¬ a1 < b1) (g1 : ¬ b1 < a1) (h : a0 < b0) : val4 a0 a1 a2 a3 < val4 b0 b1 b2 b3 := by
  unfold val4; simp only [B64] at *; omega
theorem v4eq {a0 a1 a2 a3 b0 b1 b2 b3 : Nat} (h3 : ¬ a3 < b3) (g3 : ¬ b3 < a3) (h2 : ¬ a2 < b2) (g2 : ¬ b2 < a2) (h1 : ¬ a1 < b1) (g1 : ¬ b1 < a1) (h0 : ¬ a0 < b0) (g0 : ¬ b0 < a0) : val4 a0 a1 a2 a3 = val4 b0 b1 b2 b3 := by
  obtain rfl : a0 = b0 := by omega
  obtain rfl : a1 = b1 := by omega
  obtain rfl : a2 = b2 := by omega
  obtain rfl : a3 = b3 := by omega
  rfl

theorem cmp_fn4 (a0 a1 a2 a3 b0 b1 b2 b3 : Nat) (k0 : a0 < B64) (k1 : a1 < B64) (k2 : a2 < B64) (m0 : b0 < B64) (m1 : b1 < B64) (m2 : b2 < B64) :
    FnV Tryd.prog G0 37 [.agg (words [a0, a1, a2, a3]), .agg (words [b0, b1, b2, b3])] (nI .i64 (cmpN (val4 a0 a1 a2 a3) (val4 b0 b1 b2 b3))) := by
  refine fn_of_vwp Γok Tryd.func37 (by kernel_rfl) rfl (by simp [Tryd.ntmps37]) (wpv_ok Γok (by kernel_rfl) _ _ _ ?_); conv => whnf
  refine vloop_unroll ?_
  refine wpv_ok Γok (by kernel_rfl) _ _ _ ?_; conv => whnf
  refine ⟨by kernel_rfl, ?_⟩
  conv => whnf
  refine bool_cases (fun h => ?_) (fun h => ?_)
  · conv => whnf
    have h : a3 < b3 := by have := of_decide_eq_true h; omega
    rw [cmpN_lt (v4lt3 k0 k1 k2  h)]
    exact ⟨_, rfl, rfl⟩
  have h3 : ¬ a3 < b3 := by have := of_decide_eq_false h; omega
  conv => whnf
  refine ⟨by kernel_rfl, ?_⟩
  conv => whnf
  refine bool_cases (fun g => ?_) (fun g => ?_)
  · conv => whnf
    have g : b3 < a3 := by have := of_decide_eq_true g; omega
    rw [cmpN_gt (v4lt3 m0 m1 m2  g)]
    exact ⟨_, rfl, rfl⟩
  have g3 : ¬ b3 < a3 := by have := of_decide_eq_false g; omega
  conv => whnf
  refine vloop_unroll ?_
  refine wpv_ok Γok (by kernel_rfl) _ _ _ ?_; conv => whnf
  rw [ws_i64 (by omega) (by omega)]
  conv => whnf
  refine ⟨by kernel_rfl, ?_⟩
  conv => whnf
  refine bool_cases (fun h => ?_) (fun h => ?_)
  · conv => whnf
    have h : a2 < b2 := by have := of_decide_eq_true h; omega
    rw [cmpN_lt (v4lt2 k0 k1 h3 g3 h)]
    exact ⟨_, rfl, rfl⟩
  have h2 : ¬ a2 < b2 := by have := of_decide_eq_false h; omega
  conv => whnf
  refine ⟨by kernel_rfl, ?_⟩
  conv => whnf
  refine bool_cases (fun g => ?_) (fun g => ?_)
  · conv => whnf
    have g : b2 < a2 := by have := of_decide_eq_true g; omega
    rw [cmpN_gt (v4lt2 m0 m1 g3 h3 g)]
    exact ⟨_, rfl, rfl⟩
  have g2 : ¬ b2 < a2 := by have := of_decide_eq_false g; omega
  conv => whnf
  refine vloop_unroll ?_
  refine wpv_ok Γok (by kernel_rfl) _ _ _ ?_; conv => whnf
  rw [ws_i64 (by omega) (by omega)]
  conv => whnf
  refine ⟨by kernel_rfl, ?_⟩
  conv => whnf
  refine bool_cases (fun h => ?_) (fun h => ?_)
  · conv => whnf
    have h : a1 < b1 := by have := of_decide_eq_true h; omega
    rw [cmpN_lt (v4lt1 k0 h3 g3 h2 g2 h)]
    exact ⟨_, rfl, rfl⟩
  have h1 : ¬ a1 < b1 := by have := of_decide_eq_false h; omega
  conv => whnf
  refine ⟨by kernel_rfl, ?_⟩
  conv => whnf
  refine bool_cases (fun g => ?_) (fun g => ?_)
  · conv => whnf
    have g : b1 < a1 := by have := of_decide_eq_true g; omega
    rw [cmpN_gt (v4lt1 m0 g3 h3 g2 h2 g)]
    exact ⟨_, rfl, rfl⟩
  have g1 : ¬ b1 < a1 := by have := of_decide_eq_false g; omega
  conv => whnf
  refine vloop_unroll ?_
  refine wpv_ok Γok (by kernel_rfl) _ _ _ ?_; conv => whnf
  rw [ws_i64 (by omega) (by omega)]
  conv => whnf
  refine ⟨by kernel_rfl, ?_⟩
  conv => whnf
  refine bool_cases (fun h => ?_) (fun h => ?_)
  · conv => whnf
    have h : a0 < b0 := by have := of_decide_eq_true h; omega
    rw [cmpN_lt (v4lt0  h3 g3 h2 g2 h1 g1 h)]
    exact ⟨_, rfl, rfl⟩
  have h0 : ¬ a0 < b0 := by have := of_decide_eq_false h; omega
  conv => whnf
  refine ⟨by kernel_rfl, ?_⟩
  conv => whnf
  refine bool_cases (fun g => ?_) (fun g => ?_)
  · conv => whnf
    have g : b0 < a0 := by have := of_decide_eq_true g; omega
    rw [cmpN_gt (v4lt0  g3 h3 g2 h2 g1 h1 g)]
    exact ⟨_, rfl, rfl⟩
  have g0 : ¬ b0 < a0 := by have := of_decide_eq_false g; omega
  conv => whnf
  refine vloop_unroll ?_
  refine wpv_ok Γok (by kernel_rfl) _ _ _ ?_; conv => whnf
  rw [ws_i64 (by omega) (by omega)]
  conv => whnf
  rw [cmpN_eq (v4eq h3 g3 h2 g2 h1 g1 h0 g0)]
  exact ⟨_, rfl, rfl⟩
theorem cmp_fn {a b : Nat} (ha : a < T256) (hb : b < T256) : FnV Tryd.prog G0 37 [uV a, uV b] (nI .i64 (cmpN a b)) := by
  obtain ⟨a0, a1, a2, a3, k0, k1, k2, k3, rfl⟩ := limbs ha
  obtain ⟨b0, b1, b2, b3, m0, m1, m2, m3, rfl⟩ := limbs hb
  rw [uV_val4 k0 k1 k2 k3, uV_val4 m0 m1 m2 m3]
  exact cmp_fn4 a0 a1 a2 a3 b0 b1 b2 b3 k0 k1 k2 m0 m1 m2
end Go.Proofs.YtidkdlaihmpjfaaDoor
namespace Go.Proofs.YtidkdlaihmpjfaaDoor
set_option linter.unusedVariables false
set_option linter.unusedSimpArgs false
set_option linter.unusedSectionVars false
open Go.ChangeShapes Go.WideShapes Go.ChangeAt Go.RowKit Go.Joins
set_option maxRecDepth 10000
theorem lt_bitLen : ∀ (n x : Nat), x ≤ n → x < 2 ^ 64 → x < 2 ^ Lib.bitLen x
  | 0, x, h, _ => by
    obtain rfl : x = 0 := by omega
    exact Nat.pow_pos (by decide)
  | n + 1, x, h, hx => by
    by_cases h0 : x = 0
    · subst h0; exact Nat.pow_pos (by decide)
    · rw [Lib.bitLen_half x h0 hx, Nat.pow_add]
      have := lt_bitLen n (x / 2) (by omega) (by omega)
      omega

theorem bitN_ex : ∃ f : Nat → Nat → Nat, ∀ a i, f a i = a / 2 ^ i % 2 := ⟨_, fun _ _ => rfl⟩
noncomputable def bitN : Nat → Nat → Nat := Classical.choose bitN_ex
theorem bitN_def (a i : Nat) : bitN a i = a / 2 ^ i % 2 := Classical.choose_spec bitN_ex a i
theorem bit_limb {a0 a1 a2 a3 : Nat} (k0 : a0 < B64) (k1 : a1 < B64) (k2 : a2 < B64) (k3 : a3 < B64) {s : Nat} (hs : s < 64) :
    bitN (val4 a0 a1 a2 a3) (64 * 0 + s) = a0 / 2 ^ s % 2 ∧ bitN (val4 a0 a1 a2 a3) (64 * 1 + s) = a1 / 2 ^ s % 2 ∧
    bitN (val4 a0 a1 a2 a3) (64 * 2 + s) = a2 / 2 ^ s % 2 ∧ bitN (val4 a0 a1 a2 a3) (64 * 3 + s) = a3 / 2 ^ s % 2 := by
  have hp : B64 = 2 ^ s * (2 * 2 ^ (63 - s)) := by
    rw [B64_eq, ← Nat.pow_succ', ← Nat.pow_add]; congr 1; omega
  have key : ∀ x y : Nat, (x + B64 * y) / 2 ^ s % 2 = x / 2 ^ s % 2 := by
    intro x y
    rw [hp, Nat.mul_assoc, Nat.add_mul_div_left _ _ (Nat.pow_pos (by decide)), Nat.mul_assoc, Nat.add_mul_mod_self_left]
  obtain ⟨l0, l1, l2, l3⟩ := lim_val4 k0 k1 k2 k3
  have hv : val4 a0 a1 a2 a3 = a0 + B64 * (a1 + B64 * (a2 + B64 * a3)) := by unfold val4; simp only [Nat.mul_add, Nat.mul_assoc]; omega
  have d1 : val4 a0 a1 a2 a3 / B64 = a1 + B64 * (a2 + B64 * a3) := by
    rw [hv, Nat.add_mul_div_left _ _ (by decide), Nat.div_eq_of_lt k0, Nat.zero_add]
  have d2 : val4 a0 a1 a2 a3 / B64 / B64 = a2 + B64 * a3 := by
    rw [d1, Nat.add_mul_div_left _ _ (by decide), Nat.div_eq_of_lt k1, Nat.zero_add]
  have d3 : val4 a0 a1 a2 a3 / B64 / B64 / B64 = a3 := by
    rw [d2, Nat.add_mul_div_left _ _ (by decide), Nat.div_eq_of_lt k2, Nat.zero_add]
  simp only [bitN_def]
  refine ⟨?_, ?_, ?_, ?_⟩
  · rw [Nat.mul_zero, Nat.zero_add, hv, key]
  · rw [Nat.pow_add, ← Nat.div_div_eq_div_mul, show 2 ^ (64 * 1) = B64 by decide, d1, key]
  · rw [Nat.pow_add, ← Nat.div_div_eq_div_mul, show 2 ^ (64 * 2) = B64 * B64 by decide, ← Nat.div_div_eq_div_mul, d2, key]
  · rw [Nat.pow_add, ← Nat.div_div_eq_div_mul, show 2 ^ (64 * 3) = B64 * B64 * B64 by decide, ← Nat.div_div_eq_div_mul, ← Nat.div_div_eq_div_mul, d3]

/-- How a number grows by its limbs. -/
def upto (a0 a1 a2 a3 k : Nat) : Nat := if k = 0 then 0 else if k = 1 then a0 else if k = 2 then a0 + B64 * a1 else if k = 3 then a0 + B64 * a1 + B64 * B64 * a2 else val4 a0 a1 a2 a3
theorem upto_step {a0 a1 a2 a3 k x v : Nat} (k0 : a0 < B64) (k1 : a1 < B64) (k2 : a2 < B64) (hk : k < 4) (hx : x < B64) (hxk : x = if k = 0 then a0 else if k = 1 then a1 else if k = 2 then a2 else a3)
    (hv : upto a0 a1 a2 a3 k < 2 ^ v) (hx0 : x ≠ 0) : upto a0 a1 a2 a3 (k + 1) < 2 ^ (64 * k + Lib.bitLen x) := by
  have h1 := lt_bitLen x x (Nat.le_refl _) (by rw [B64_eq] at hx; exact hx)
  have hs : upto a0 a1 a2 a3 (k + 1) < 2 ^ (64 * k) * (x + 1) := by
    have : k = 0 ∨ k = 1 ∨ k = 2 ∨ k = 3 := by omega
    rcases this with rfl | rfl | rfl | rfl <;> (simp [upto] at *; subst hxk; (try simp only [val4] at *); (try simp only [B64] at *); omega)
  rw [Nat.pow_add]
  exact Nat.lt_of_lt_of_le hs (Nat.mul_le_mul_left _ h1)
theorem upto_zero {a0 a1 a2 a3 k v : Nat} (hk : k < 4) (hxk : 0 = if k = 0 then a0 else if k = 1 then a1 else if k = 2 then a2 else a3) (hv : upto a0 a1 a2 a3 k < 2 ^ v) : upto a0 a1 a2 a3 (k + 1) < 2 ^ v := by
  have : k = 0 ∨ k = 1 ∨ k = 2 ∨ k = 3 := by omega
  rcases this with rfl | rfl | rfl | rfl <;> (simp [upto, val4] at *; subst hxk; simpa using hv)

/-- The limb of a number. -/
def limD (l : List Nat) (i : Nat) : Nat := l.getD i 0
theorem bit_fn4 (a0 a1 a2 a3 : Nat) (k0 : a0 < B64) (k1 : a1 < B64) (k2 : a2 < B64) (k3 : a3 < B64) (i : Nat) (hi : i < 256) :
    FnV Tryd.prog G0 59 [.agg (words [a0, a1, a2, a3]), nI .i64 i] (nI .u64 (bitN (val4 a0 a1 a2 a3) i)) := by
  have hb : bitN (val4 a0 a1 a2 a3) i = [a0, a1, a2, a3].getD (i / 64) 0 / 2 ^ (i % 64) % 2 := by
    obtain ⟨b0, b1, b2, b3⟩ := bit_limb k0 k1 k2 k3 (s := i % 64) (by omega)
    have : i / 64 = 0 ∨ i / 64 = 1 ∨ i / 64 = 2 ∨ i / 64 = 3 := by omega
    rcases this with h | h | h | h
    · rw [show i = 64 * 0 + i % 64 by omega, b0, show (64 * 0 + i % 64) / 64 = 0 by omega, show (64 * 0 + i % 64) % 64 = i % 64 by omega]; rfl
    · rw [show i = 64 * 1 + i % 64 by omega, b1, show (64 * 1 + i % 64) / 64 = 1 by omega, show (64 * 1 + i % 64) % 64 = i % 64 by omega]; rfl
    · rw [show i = 64 * 2 + i % 64 by omega, b2, show (64 * 2 + i % 64) / 64 = 2 by omega, show (64 * 2 + i % 64) % 64 = i % 64 by omega]; rfl
    · rw [show i = 64 * 3 + i % 64 by omega, b3, show (64 * 3 + i % 64) / 64 = 3 by omega, show (64 * 3 + i % 64) % 64 = i % 64 by omega]; rfl
  have hx : [a0, a1, a2, a3].getD (i / 64) 0 < 2 ^ 64 := getD_lt (by decide) (by rw [← B64_eq]; intro x hx; simp at hx; rcases hx with rfl | rfl | rfl | rfl <;> assumption) _
  have hx2 : [a0, a1, a2, a3].getD (i / 64) 0 / 2 ^ (i % 64) < 2 ^ 64 := Nat.lt_of_le_of_lt (Nat.div_le_self _ _) hx
  rw [hb]
  refine fn_of_vwp Γok Tryd.func59 (by kernel_rfl) rfl (by simp [Tryd.ntmps59]) (wpv_ok Γok (by kernel_rfl) _ _ _ ?_); conv => whnf
  rw [Int.tdiv_eq_ediv_of_nonneg (by omega), ws_i64 (by omega) (by omega)]
  conv => whnf
  try (refine ⟨by kernel_rfl, ?_⟩; conv => whnf)
  refine bindP_intro (if_pos (inB_ok (by omega) (by omega))) ?_; conv => whnf
  refine bindP_intro (words_ix (i := i / 64) (by dsimp only; omega) (by simp; omega)) ?_
  conv => whnf
  try (refine ⟨by kernel_rfl, ?_⟩; conv => whnf)
  rw [Int.tmod_eq_emod_of_nonneg (by omega), show (i : Int) % 64 = ((i % 64 : Nat) : Int) from by omega]
  conv => whnf
  try (refine ⟨by kernel_rfl, ?_⟩; conv => whnf)
  rw [shr_val (k := .u64) (x := [a0, a1, a2, a3].getD (i / 64) 0) (n := i % 64) (by simp only [IntKind.bits]; omega), u64_and1 hx2]
  exact ⟨_, rfl, rfl⟩
theorem bit_fn {a i : Nat} (ha : a < T256) (hi : i < 256) : FnV Tryd.prog G0 59 [uV a, nI .i64 i] (nI .u64 (bitN a i)) := by
  obtain ⟨a0, a1, a2, a3, k0, k1, k2, k3, rfl⟩ := limbs ha
  rw [uV_val4 k0 k1 k2 k3]
  exact bit_fn4 a0 a1 a2 a3 k0 k1 k2 k3 i hi
def lenV (l : List Nat) : Nat → Nat
  | 0 => 0
  | k + 1 => if l.getD k 0 = 0 then lenV l k else 64 * k + Lib.bitLen (l.getD k 0)
theorem lenV_ok {a0 a1 a2 a3 : Nat} (k0 : a0 < B64) (k1 : a1 < B64) (k2 : a2 < B64) (k3 : a3 < B64) : ∀ k, k ≤ 4 → upto a0 a1 a2 a3 k < 2 ^ lenV [a0, a1, a2, a3] k ∧ lenV [a0, a1, a2, a3] k ≤ 64 * k
  | 0, _ => by simp [upto, lenV]
  | k + 1, hk => by
    obtain ⟨h1, h2⟩ := lenV_ok k0 k1 k2 k3 k (by omega)
    have hx : [a0, a1, a2, a3].getD k 0 = if k = 0 then a0 else if k = 1 then a1 else if k = 2 then a2 else a3 := by
      have : k = 0 ∨ k = 1 ∨ k = 2 ∨ k = 3 := by omega
      rcases this with rfl | rfl | rfl | rfl <;> rfl
    have hb : [a0, a1, a2, a3].getD k 0 < B64 := by
      rw [hx]; split <;> (try assumption); split <;> (try assumption); split <;> assumption
    simp only [lenV]
    split
    · rename_i h0
      exact ⟨upto_zero (by omega) (by rw [← hx, h0]) h1, by omega⟩
    · rename_i h0
      have hl := Lib.bitLen_le ([a0, a1, a2, a3].getD k 0) 64 (by omega) (by rw [B64_eq] at hb; exact hb)
      exact ⟨upto_step k0 k1 k2 (by omega) hb hx h1 h0, by omega⟩
theorem len64_fn {x : Nat} (hx : x < B64) : FnV Tryd.prog G0 80 [nI .u64 x] (nI .i64 (Lib.bitLen x)) :=
  fn_calls (us := [.int .u64 x]) (r := .int .i64 (Lib.bitLen x)) Tryd.func80 (by kernel_rfl) rfl (fun w => (Tryd.bits_Len64 (x : Int) w (by omega) (by unfold B64 at hx; omega)).mono (by rintro e w' ⟨rfl, rfl⟩; exact ⟨by simp, rfl⟩)) (fun E => by simp [VR, nI])
theorem length_fn4 (a0 a1 a2 a3 : Nat) (k0 : a0 < B64) (k1 : a1 < B64) (k2 : a2 < B64) (k3 : a3 < B64) : FnV Tryd.prog G0 57 [.agg (words [a0, a1, a2, a3])] (nI .i64 (lenV [a0, a1, a2, a3] 4)) := by
  have hb : ∀ x ∈ [a0, a1, a2, a3], x < B64 := by intro x hx; simp at hx; rcases hx with rfl | rfl | rfl | rfl <;> assumption
  have hl : [a0, a1, a2, a3].length = 4 := rfl
  have hle := fun k hk => (lenV_ok k0 k1 k2 k3 k hk).2
  refine gen_ex [a0, a1, a2, a3] fun l el => ?_
  rw [← el] at hb hl hle ⊢
  clear el
  refine fn_of_vwp Γok Tryd.func57 (by kernel_rfl) rfl (by simp [Tryd.ntmps57]) (wpv_ok Γok (by kernel_rfl) _ _ _ ?_); conv => whnf
  refine bindP_intro (load_agg rfl rfl (by simp [words_length, *])) ?_; conv => whnf
  refine vloop_invK G0ok [] 0 (X := Nat) (fun k => [(7, nI .i64 k), (6, .agg (words l)), (3, nI .i64 (lenV l k))]) (fun _ => []) (fun k => k ≤ 4) (fun k => 4 - k) 0 rfl ⟨⟨_, rfl, conv_nI (rfl)⟩, ⟨_, rfl, conv_eq rfl (words_noHs _)⟩, ⟨_, rfl, conv_nI (rfl)⟩, trivial⟩ trivial (Nat.zero_le _) ?_
  intro k hk
  dsimp only at hk ⊢
  refine wpv_ok Γok (by kernel_rfl) _ _ _ ?_; conv => whnf
  refine bool_cases (fun hc => ?_) (fun hc => ?_)
  · have hc := of_decide_eq_true hc
    have hk4 : k < 4 := by omega
    have hx : l.getD k 0 < B64 := getD_lt (by decide) hb k
    have hv := hle k hk
    have hv2 := hle (k + 1) (by omega)
    conv => whnf
    refine bindP_intro ((if_pos (inB_ok (by omega) (by omega))).trans (words_ix (i := k) (by dsimp only; omega) (by omega))) ?_
    conv => whnf
    try (refine ⟨by kernel_rfl, ?_⟩; conv => whnf)
    rw [show (((l.getD k 0 : Nat) : Int) != (0 : Int)) = !decide (l.getD k 0 = 0) from bne_lit _ 0]
    by_cases h0 : l.getD k 0 = 0
    · rw [decide_eq_true h0]
      conv => whnf
      try (refine ⟨by kernel_rfl, ?_⟩; conv => whnf)
      refine next_round (y := k) G0ok (k + 1) [] rfl ⟨⟨_, rfl, conv_nI (ws_i64 (by omega) (by omega))⟩, ⟨_, rfl, conv_eq rfl (words_noHs _)⟩, ⟨_, rfl, conv_nI (by simp only [lenV, if_pos h0])⟩, trivial⟩ trivial hk4 (by omega)
    · rw [decide_eq_false h0]
      conv => whnf
      try (refine ⟨by kernel_rfl, ?_⟩; conv => whnf)
      have hL : lenV l (k + 1) = 64 * k + Lib.bitLen (l.getD k 0) := by simp only [lenV, if_neg h0]
      rw [hL] at hv2
      refine gen_ex (Lib.bitLen (l.getD k 0)) fun L eL => ?_
      have hlen := len64_fn hx
      rw [← eL] at hlen hL hv2
      rw [ws_i64 (x := 64 * (k : Int)) (by omega) (by omega)]
      refine ⟨_, ret_of_fn G0ok (hlen) (by first | rfl | simp only [noHs, noH, nI, bI, Bool.and_self, Bool.and_true, Bool.true_and, ]) (by first | rfl | simp only [noHs, noH, nI, bI, Bool.and_self, Bool.and_true, Bool.true_and, ]), ?_⟩; (conv => whnf); (try (refine ⟨by kernel_rfl, ?_⟩; conv => whnf))
      refine next_round (y := k) G0ok (k + 1) [] rfl ⟨⟨_, rfl, conv_nI (ws_i64 (by omega) (by omega))⟩, ⟨_, rfl, conv_eq rfl (words_noHs _)⟩, ⟨_, rfl, conv_nI (by rw [hL, ws_i64 (by omega) (by omega)]; omega)⟩, trivial⟩ trivial hk4 (by omega)
  · have hc := of_decide_eq_false hc
    have : k = 4 := by omega
    subst this
    conv => whnf
    try (refine ⟨by kernel_rfl, ?_⟩; conv => whnf)
    exact ⟨_, rfl, rfl⟩
theorem length_ex {a : Nat} (ha : a < T256) : ∃ n : Nat, a < 2 ^ n ∧ n ≤ 256 ∧ FnV Tryd.prog G0 57 [uV a] (nI .i64 n) := by
  obtain ⟨a0, a1, a2, a3, k0, k1, k2, k3, rfl⟩ := limbs ha
  rw [uV_val4 k0 k1 k2 k3]
  obtain ⟨h1, h2⟩ := lenV_ok k0 k1 k2 k3 4 (Nat.le_refl _)
  exact ⟨_, by simpa [upto] using h1, h2, length_fn4 a0 a1 a2 a3 k0 k1 k2 k3⟩
end Go.Proofs.YtidkdlaihmpjfaaDoor
namespace Go.Proofs.YtidkdlaihmpjfaaDoor
set_option linter.unusedVariables false
set_option linter.unusedSimpArgs false
set_option linter.unusedSectionVars false
open Go.ChangeShapes Go.WideShapes Go.ChangeAt Go.RowKit Go.Joins
theorem lim_put {q p d : Nat} (hq : q < T256) (hd : d < 4) (h : lim q d + p < B64) : lim (q + B64 ^ d * p) d = lim q d + p ∧ (∀ e, e < 4 → e ≠ d → lim (q + B64 ^ d * p) e = lim q e) ∧ q + B64 ^ d * p < T256 := by
  obtain ⟨a0, a1, a2, a3, k0, k1, k2, k3, rfl⟩ := limbs hq
  obtain ⟨x0, x1, x2, x3⟩ := lim_val4 k0 k1 k2 k3
  have four : ∀ e, e < 4 → e = 0 ∨ e = 1 ∨ e = 2 ∨ e = 3 := by omega
  rcases four d hd with rfl | rfl | rfl | rfl
  · rw [x0] at h
    rw [show val4 a0 a1 a2 a3 + B64 ^ 0 * p = val4 (a0 + p) a1 a2 a3 by unfold val4; simp; omega]
    obtain ⟨y0, y1, y2, y3⟩ := lim_val4 h k1 k2 k3
    refine ⟨by rw [y0, x0], ?_, val4_lt h k1 k2 k3⟩
    intro e he hne
    rcases four e he with rfl | rfl | rfl | rfl <;> first | exact absurd rfl hne | rw [y1, x1] | rw [y2, x2] | rw [y3, x3]
  · rw [x1] at h
    rw [show val4 a0 a1 a2 a3 + B64 ^ 1 * p = val4 a0 (a1 + p) a2 a3 by unfold val4; simp only [Nat.mul_add, Nat.pow_one]; omega]
    obtain ⟨y0, y1, y2, y3⟩ := lim_val4 k0 h k2 k3
    refine ⟨by rw [y1, x1], ?_, val4_lt k0 h k2 k3⟩
    intro e he hne
    rcases four e he with rfl | rfl | rfl | rfl <;> first | exact absurd rfl hne | rw [y0, x0] | rw [y2, x2] | rw [y3, x3]
  · rw [x2] at h
    rw [show val4 a0 a1 a2 a3 + B64 ^ 2 * p = val4 a0 a1 (a2 + p) a3 by unfold val4; simp only [Nat.mul_add, Nat.pow_succ, Nat.pow_zero, Nat.one_mul]; omega]
    obtain ⟨y0, y1, y2, y3⟩ := lim_val4 k0 k1 h k3
    refine ⟨by rw [y2, x2], ?_, val4_lt k0 k1 h k3⟩
    intro e he hne
    rcases four e he with rfl | rfl | rfl | rfl <;> first | exact absurd rfl hne | rw [y0, x0] | rw [y1, x1] | rw [y3, x3]
  · rw [x3] at h
    rw [show val4 a0 a1 a2 a3 + B64 ^ 3 * p = val4 a0 a1 a2 (a3 + p) by unfold val4; simp only [Nat.mul_add, Nat.pow_succ, Nat.pow_zero, Nat.one_mul]; omega]
    obtain ⟨y0, y1, y2, y3⟩ := lim_val4 k0 k1 k2 h
    refine ⟨by rw [y3, x3], ?_, val4_lt k0 k1 k2 h⟩
    intro e he hne
    rcases four e he with rfl | rfl | rfl | rfl <;> first | exact absurd rfl hne | rw [y0, x0] | rw [y1, x1] | rw [y2, x2]

end Go.Proofs.YtidkdlaihmpjfaaDoor
namespace Go.Proofs.YtidkdlaihmpjfaaDoor
set_option linter.unusedVariables false
set_option linter.unusedSimpArgs false
set_option linter.unusedSectionVars false
open Go.ChangeShapes Go.WideShapes Go.ChangeAt Go.RowKit Go.Joins
set_option maxRecDepth 10000
def sub64Ent : Array Value → Sem Value := fun args => do
  let (x, y, b) ← Extern.MathBitsCarry.three "Sub64" args
  pure (Extern.MathBitsCarry.pair ((x + Extern.MathBitsCarry.m64 - y - b) % Extern.MathBitsCarry.m64) (if x < y + b then 1 else 0))
theorem runSub64 (x y b : Nat) (hb : b ≤ 1) (w : World) :
    (sub64Ent #[.int .u64 x, .int .u64 y, .int .u64 b]).run Tryd.prog w = .ok (.tuple #[.int .u64 (dif x y b), .int .u64 (bor x y b)]) w := by
  have : b = 0 ∨ b = 1 := by omega
  rcases this with rfl | rfl <;> rfl
theorem callSub64 {x y b : Nat} (hb : b ≤ 1) (w : World) :
    (callFunc 67 #[.int .u64 x, .int .u64 y, .int .u64 b]).run Tryd.prog w = .ok (.value (.tuple #[.int .u64 (dif x y b), .int .u64 (bor x y b)])) w := by
  rw [run_callFunc_extern Tryd.func67 (by kernel_rfl) (by kernel_rfl) (by kernel_rfl) (e := sub64Ent) (by kernel_rfl), runSub64 x y b hb]
  rfl
theorem sub64_fn {x y c : Nat} (hc : c ≤ 1) : FnV Tryd.prog G0 67 [nI .u64 x, nI .u64 y, nI .u64 c] (.tup [nI .u64 (dif x y c), nI .u64 (bor x y c)]) :=
  fn_val (us := [.int .u64 x, .int .u64 y, .int .u64 c]) (callSub64 hc) (fun E => by simp [VR, VRs, nI])
theorem sub_fn4 (a0 a1 a2 a3 b0 b1 b2 b3 c1 c2 c3 : Nat) (h1 : bor a0 b0 0 = c1) (h2 : bor a1 b1 c1 = c2) (h3 : bor a2 b2 c2 = c3) (k1 : c1 ≤ 1) (k2 : c2 ≤ 1) (k3 : c3 ≤ 1) :
    FnV Tryd.prog G0 36 [.agg (words [a0, a1, a2, a3]), .agg (words [b0, b1, b2, b3])]
      (.tup [.agg (words [dif a0 b0 0, dif a1 b1 c1, dif a2 b2 c2, dif a3 b3 c3]), bI (((bor a3 b3 c3 : Nat) : Int) == 1)]) := by
  refine fn_of_vwp Γok Tryd.func36 (by kernel_rfl) rfl (by simp [Tryd.ntmps36]) (wpv_ok Γok (by kernel_rfl) _ _ _ ?_); conv => whnf
  refine vloop_unroll ?_
  refine wpv_ok Γok (by kernel_rfl) _ _ _ ?_; conv => whnf
  refine ⟨_, ret_of_fn G0ok (sub64_fn (x := a0) (y := b0) (c := 0) (by omega)) (by rfl) rfl, ?_⟩; conv => whnf
  refine ⟨by kernel_rfl, ?_⟩
  rw [h1]
  conv => whnf
  refine vloop_unroll ?_
  refine wpv_ok Γok (by kernel_rfl) _ _ _ ?_; conv => whnf
  rw [ws_i64 (by omega) (by omega)]
  conv => whnf
  refine ⟨_, ret_of_fn G0ok (sub64_fn (x := a1) (y := b1) k1) (by rfl) rfl, ?_⟩; conv => whnf
  refine ⟨by kernel_rfl, ?_⟩
  rw [h2]
  conv => whnf
  refine vloop_unroll ?_
  refine wpv_ok Γok (by kernel_rfl) _ _ _ ?_; conv => whnf
  rw [ws_i64 (by omega) (by omega)]
  conv => whnf
  refine ⟨_, ret_of_fn G0ok (sub64_fn (x := a2) (y := b2) k2) (by rfl) rfl, ?_⟩; conv => whnf
  refine ⟨by kernel_rfl, ?_⟩
  rw [h3]
  conv => whnf
  refine vloop_unroll ?_
  refine wpv_ok Γok (by kernel_rfl) _ _ _ ?_; conv => whnf
  rw [ws_i64 (by omega) (by omega)]
  conv => whnf
  refine ⟨_, ret_of_fn G0ok (sub64_fn (x := a3) (y := b3) k3) (by rfl) rfl, ?_⟩; conv => whnf
  refine ⟨by kernel_rfl, ?_⟩
  conv => whnf
  refine vloop_unroll ?_
  refine wpv_ok Γok (by kernel_rfl) _ _ _ ?_; conv => whnf
  rw [ws_i64 (by omega) (by omega)]
  conv => whnf
  exact ⟨_, rfl, rfl⟩
theorem sub_fn {a b : Nat} (ha : a < T256) (hb : b < T256) : FnV Tryd.prog G0 36 [uV a, uV b] (.tup [uV (subS a b), bI (subO a b)]) := by
  obtain ⟨a0, a1, a2, a3, k0, k1, k2, k3, rfl⟩ := limbs ha
  obtain ⟨b0, b1, b2, b3, m0, m1, m2, m3, rfl⟩ := limbs hb
  have q1 := bor_le a0 b0 0
  have q2 := bor_le a1 b1 (bor a0 b0 0)
  have q3 := bor_le a2 b2 (bor a1 b1 (bor a0 b0 0))
  obtain ⟨e1, e2⟩ := sub_val4 k0 k1 k2 k3 m0 m1 m2 m3
  rw [e1, e2, ← beq_one, uV_val4 k0 k1 k2 k3, uV_val4 m0 m1 m2 m3, uV_val4 (dif_lt _ _ _) (dif_lt _ _ _) (dif_lt _ _ _) (dif_lt _ _ _)]
  exact sub_fn4 a0 a1 a2 a3 b0 b1 b2 b3 _ _ _ rfl rfl rfl q1 q2 q3
end Go.Proofs.YtidkdlaihmpjfaaDoor
namespace Go.Proofs.YtidkdlaihmpjfaaDoor
set_option linter.unusedVariables false
set_option linter.unusedSimpArgs false
set_option linter.unusedSectionVars false
open Go.ChangeShapes Go.WideShapes Go.ChangeAt Go.RowKit Go.Joins
set_option maxRecDepth 10000
theorem div_step {a b Q R i : Nat} (h : a / 2 ^ (i + 1) = Q * b + R) : a / 2 ^ i = 2 * Q * b + (2 * R + bitN a i) := by
  rw [bitN_def]
  have e : a / 2 ^ (i + 1) = a / 2 ^ i / 2 := by rw [Nat.pow_succ, Nat.div_div_eq_div_mul]
  rw [e] at h
  have := Nat.div_add_mod (a / 2 ^ i) 2
  rw [h] at this
  rw [← this, Nat.mul_add, Nat.mul_assoc]; omega
theorem bitN_le (a i : Nat) : bitN a i ≤ 1 := by rw [bitN_def]; omega
theorem addS_even (r : Nat) : addS r r % 2 = 0 := by
  rw [addS_def, T256_lit]; omega
/-- The rest with one bit more. -/
theorem rest_lt {r t : Nat} (ht : t ≤ 1) : addS r r + t < T256 := by
  have h1 := addS_lt r r
  have h2 := addS_even r
  rw [T256_lit] at *
  omega
theorem rest_or {r t : Nat} (ht : t ≤ 1) : bitS .or .u64 ((lim (addS r r) 0 : Nat) : Int) (t : Int) = ((lim (addS r r + t) 0 : Nat) : Int) ∧
    lim (addS r r + t) 1 = lim (addS r r) 1 ∧ lim (addS r r + t) 2 = lim (addS r r) 2 ∧ lim (addS r r + t) 3 = lim (addS r r) 3 := by
  have h2 := addS_even r
  have h3 := addS_lt r r
  obtain ⟨a0, a1, a2, a3, k0, k1, k2, k3, hx⟩ := limbs h3
  rw [hx] at h2 ⊢
  clear hx h3
  have e0 : a0 % 2 = 0 := by unfold val4 B64 at h2; omega
  have hlt : a0 + t < B64 := by unfold B64 at *; omega
  have ev : val4 a0 a1 a2 a3 + t = val4 (a0 + t) a1 a2 a3 := by unfold val4; omega
  rw [ev]
  obtain ⟨x0, x1, x2, x3⟩ := lim_val4 k0 k1 k2 k3
  obtain ⟨y0, y1, y2, y3⟩ := lim_val4 hlt k1 k2 k3
  rw [x0, x1, x2, x3, y0, y1, y2, y3]
  refine ⟨?_, rfl, rfl, rfl⟩
  rw [u64_or (by rw [← B64_eq]; exact k0) (by omega)]
  have hor : a0 ||| t = a0 + t := by
    have := Nat.two_pow_add_eq_or_of_lt (i := 1) (b := t) (by omega) (a0 / 2)
    rw [show 2 ^ 1 * (a0 / 2) = a0 by omega] at this
    exact this.symm
  rw [hor]
theorem rest_sub {b R t : Nat} (hR : R < b) (hb : b < T256) (ht : t ≤ 1) (h : addO R R = true ∨ b ≤ addS R R + t) : subS (addS R R + t) b = 2 * R + t - b ∧ 2 * R + t - b < b ∧ b ≤ 2 * R + t := by
  rw [subS_def, addS_def, addO_def] at *
  rw [T256_lit] at *
  simp only [decide_eq_true_eq] at h
  omega
theorem rest_keep {b R t : Nat} (hR : R < b) (hb : b < T256) (ht : t ≤ 1) (h : addO R R = false) (h2 : addS R R + t < b) : addS R R + t = 2 * R + t := by
  rw [addS_def, addO_def] at *
  rw [T256_lit] at *
  simp only [decide_eq_false_iff_not] at h
  omega

/-- One bit more of the quotient. -/
theorem quo_or {Q i d s : Nat} (hi : i = 64 * d + s) (hs : s < 64) (hd : d < 4) (hq : Q * 2 ^ (i + 1) + 2 ^ i < T256) :
    IntKind.u64.wrap (1 * 2 ^ s) = ((2 ^ s : Nat) : Int) ∧ bitS .or .u64 ((lim (Q * 2 ^ (i + 1)) d : Nat) : Int) ((2 ^ s : Nat) : Int) = ((lim (Q * 2 ^ (i + 1) + 2 ^ i) d : Nat) : Int) ∧
    ∀ e, e < 4 → e ≠ d → lim (Q * 2 ^ (i + 1) + 2 ^ i) e = lim (Q * 2 ^ (i + 1)) e := by
  have hB : B64 = 2 ^ (s + 1) * 2 ^ (63 - s) := by rw [B64_eq, ← Nat.pow_add]; congr 1; omega
  have hps : 2 ^ s < B64 := by rw [B64_eq]; exact Nat.pow_lt_pow_right (by decide) hs
  have hv : Q * 2 ^ (i + 1) < T256 := Nat.lt_of_le_of_lt (Nat.le_add_right _ _) hq
  have hl : lim (Q * 2 ^ (i + 1)) d = 2 ^ (s + 1) * (Q % 2 ^ (63 - s)) := by
    rw [lim_def, show Q * 2 ^ (i + 1) = B64 ^ d * (Q * 2 ^ (s + 1)) by
      rw [B64_eq, ← Nat.pow_mul, hi, show 64 * d + s + 1 = 64 * d + (s + 1) by omega, Nat.pow_add]; exact Nat.mul_left_comm _ _ _]
    rw [Nat.mul_div_cancel_left _ (Nat.pow_pos (by decide)), hB, Nat.mul_comm Q, Nat.mul_mod_mul_left]
  have hlt : lim (Q * 2 ^ (i + 1)) d + 2 ^ s < B64 := by
    rw [hl]
    have h1 : Q % 2 ^ (63 - s) + 1 ≤ 2 ^ (63 - s) := Nat.mod_lt _ (Nat.pow_pos (by decide))
    have h2 := Nat.mul_le_mul_left (2 ^ (s + 1)) h1
    rw [← hB, Nat.mul_add, Nat.mul_one] at h2
    have h3 : 2 ^ s < 2 ^ (s + 1) := Nat.pow_lt_pow_right (by decide) (by omega)
    omega
  have hor : lim (Q * 2 ^ (i + 1)) d ||| 2 ^ s = lim (Q * 2 ^ (i + 1)) d + 2 ^ s := by
    rw [hl]
    exact (Nat.two_pow_add_eq_or_of_lt (Nat.pow_lt_pow_right (by decide) (by omega)) _).symm
  have h64 := lim_lt (Q * 2 ^ (i + 1)) d
  have hp : 2 ^ i = B64 ^ d * 2 ^ s := by rw [B64_eq, ← Nat.pow_mul, hi, Nat.pow_add]
  refine ⟨?_, ?_, ?_⟩
  · have : (1 * 2 ^ s : Int) = ((2 ^ s : Nat) : Int) := by simp
    rw [this]
    generalize 2 ^ s = p at *
    simp only [IntKind.wrap, IntKind.signed, IntKind.bits]
    unfold B64 at hps
    simp
    omega
  · rw [u64_or (by rw [← B64_eq]; exact h64) (by rw [← B64_eq]; exact hps), hor, hp, (lim_put hv hd hlt).1]
  · rw [hp]; exact (lim_put hv hd hlt).2.1

theorem divN_ex : ∃ f : Nat → Nat → Nat, ∀ a b, f a b = a / b := ⟨_, fun _ _ => rfl⟩
noncomputable def divN : Nat → Nat → Nat := Classical.choose divN_ex
theorem divN_def (a b : Nat) : divN a b = a / b := Classical.choose_spec divN_ex a b
theorem modN_ex : ∃ f : Nat → Nat → Nat, ∀ a b, f a b = a % b := ⟨_, fun _ _ => rfl⟩
noncomputable def modN : Nat → Nat → Nat := Classical.choose modN_ex
theorem modN_def (a b : Nat) : modN a b = a % b := Classical.choose_spec modN_ex a b
theorem divN_lt {a : Nat} (b : Nat) (ha : a < T256) : divN a b < T256 := by rw [divN_def]; exact Nat.lt_of_le_of_lt (Nat.div_le_self _ _) ha
theorem modN_lt {a : Nat} (b : Nat) (ha : a < T256) : modN a b < T256 := by rw [modN_def]; exact Nat.lt_of_le_of_lt (Nat.mod_le _ _) ha

set_option maxHeartbeats 2000000 in
theorem quo_none (Q i : Nat) : 2 * Q * 2 ^ i = Q * 2 ^ (i + 1) := by rw [Nat.pow_succ, Nat.mul_comm 2 Q, Nat.mul_assoc, Nat.mul_comm 2]
theorem quo_one (Q i : Nat) : (2 * Q + 1) * 2 ^ i = Q * 2 ^ (i + 1) + 2 ^ i := by rw [Nat.add_mul, Nat.one_mul, quo_none]
set_option maxHeartbeats 16000000 in

theorem eq_zero {a : Nat} (ha : a < T256) : EqAgg Tryd.prog .eql 55 (uC a) (words [0, 0, 0, 0]) (decide (a = 0)) := by
  have h := eq_uC ha (b := 0) (by decide)
  rwa [uC_lit (n := 0) (by decide)] at h
theorem ne_zero {a : Nat} (ha : a < T256) : EqAgg Tryd.prog .neq 55 (uC a) (words [0, 0, 0, 0]) (!decide (a = 0)) := by
  have h := ne_uC ha (b := 0) (by decide)
  rwa [uC_lit (n := 0) (by decide)] at h
theorem uV_zero : uV 0 = .agg (words [0, 0, 0, 0]) := by
  have := uC_lit (n := 0) (by decide)
  unfold uC at this
  unfold uV
  rw [this]
theorem limC_getD (v : Nat) {d : Nat} (hd : d < 4) : [lim v 0, lim v 1, lim v 2, lim v 3].getD d 0 = lim v d := by
  have : d = 0 ∨ d = 1 ∨ d = 2 ∨ d = 3 := by omega
  rcases this with rfl | rfl | rfl | rfl <;> rfl
theorem limC_set {v v' d : Nat} (hd : d < 4) (h : ∀ e, e < 4 → e ≠ d → lim v' e = lim v e) : [lim v 0, lim v 1, lim v 2, lim v 3].set d (lim v' d) = [lim v' 0, lim v' 1, lim v' 2, lim v' 3] := by
  have : d = 0 ∨ d = 1 ∨ d = 2 ∨ d = 3 := by omega
  rcases this with rfl | rfl | rfl | rfl
  · rw [h 1 (by omega) (by omega), h 2 (by omega) (by omega), h 3 (by omega) (by omega)]; rfl
  · rw [h 0 (by omega) (by omega), h 2 (by omega) (by omega), h 3 (by omega) (by omega)]; rfl
  · rw [h 0 (by omega) (by omega), h 1 (by omega) (by omega), h 3 (by omega) (by omega)]; rfl
  · rw [h 0 (by omega) (by omega), h 1 (by omega) (by omega), h 2 (by omega) (by omega)]; rfl
theorem uC_set {v v' j d : Nat} (hj : j = d) (hd : d < 4) (h : ∀ e, e < 4 → e ≠ d → lim v' e = lim v e) : (uC v).set j (VV.v (.int .u64 ((lim v' d : Nat) : Int))) = uC v' := by
  unfold uC
  rw [splice_words hj (by simpa using hd), limC_set hd h]
theorem div_zero {a : Nat} (ha : a < T256) : FnV Tryd.prog G0 31 [uV a, uV 0] (.tup [.agg (words [0, 0, 0, 0]), .agg (words [0, 0, 0, 0]), nI .i64 7]) := by
  refine fn_of_vwp Γok Tryd.func31 (by kernel_rfl) rfl (by simp [Tryd.ntmps31]) (wpv_ok Γok (by kernel_rfl) _ _ _ ?_); conv => whnf
  refine ⟨_, eq_zero (a := 0) (by decide), ?_⟩
  rw [decide_eq_true rfl]
  conv => whnf
  try (refine ⟨by kernel_rfl, ?_⟩; conv => whnf)
  exact ⟨_, rfl, rfl⟩
theorem div_pos {a b : Nat} (ha : a < T256) (hb : b < T256) (h0 : 0 < b) : FnV Tryd.prog G0 31 [uV a, uV b] (.tup [uV (divN a b), uV (modN a b), nI .i64 0]) := by
  obtain ⟨n, hn, hn2, hlen⟩ := length_ex ha
  refine fn_of_vwp Γok Tryd.func31 (by kernel_rfl) rfl (by simp [Tryd.ntmps31]) (wpv_ok Γok (by kernel_rfl) _ _ _ ?_); conv => whnf
  refine ⟨_, eq_zero hb, ?_⟩
  rw [decide_eq_false (by omega)]
  conv => whnf
  try (refine ⟨by kernel_rfl, ?_⟩; conv => whnf)
  refine ⟨_, ret_of_fn G0ok (hlen) (by first | rfl | simp only [noHs, noH, nI, bI, Bool.and_self, Bool.and_true, Bool.true_and, ]) (by first | rfl | simp only [noHs, noH, nI, bI, Bool.and_self, Bool.and_true, Bool.true_and, ]), ?_⟩; (conv => whnf); (try (refine ⟨by kernel_rfl, ?_⟩; conv => whnf))
  rw [ws_i64 (x := (n : Int) - 1) (by omega) (by omega)]
  conv => whnf
  try (refine ⟨by kernel_rfl, ?_⟩; conv => whnf)
  refine vloop_invK G0ok [(0, some 0), (1, some 1), (2, some 2), (3, some 3)] 4 (X := Nat) (fun k => [(7, nI .i64 ((k : Int) - 1)), (6, nI .i64 0), (5, .ptr 3 0), (4, .ptr 2 0), (3, .ptr 1 0), (2, .ptr 0 0)])
    (fun k => [(0, some (uC a)), (1, some (uC b)), (2, some (uC (a / 2 ^ k / b * 2 ^ k))), (3, some (uC (a / 2 ^ k % b)))]) (fun k => k ≤ n) (fun k => k) n rfl ⟨⟨_, rfl, conv_nI (rfl)⟩, ⟨_, rfl, conv_nI (rfl)⟩, ⟨_, rfl, .ptr rfl⟩, ⟨_, rfl, .ptr rfl⟩, ⟨_, rfl, .ptr rfl⟩, ⟨_, rfl, .ptr rfl⟩, trivial⟩
    ⟨.inr ⟨_, _, rfl, rfl, convs_eq rfl (words_noHs _)⟩, .inr ⟨_, _, rfl, rfl, convs_eq rfl (words_noHs _)⟩, .inr ⟨_, _, rfl, rfl, convs_eq (by rw [Nat.div_eq_of_lt hn, Nat.zero_div, Nat.zero_mul, uC_lit (n := 0) (by decide)]; rfl) (words_noHs _)⟩, .inr ⟨_, _, rfl, rfl, convs_eq (by rw [Nat.div_eq_of_lt hn, Nat.zero_mod, uC_lit (n := 0) (by decide)]; rfl) (words_noHs _)⟩, trivial⟩ (Nat.le_refl _) ?_
  intro k hk
  dsimp only at hk ⊢
  refine wpv_ok Γok (by kernel_rfl) _ _ _ ?_; conv => whnf
  refine bool_cases (fun hc => ?_) (fun hc => ?_)
  · have hc := of_decide_eq_true hc
    obtain ⟨i, hi⟩ : ∃ i, k = i + 1 := ⟨k - 1, by omega⟩
    subst hi
    have e0 : a / 2 ^ (i + 1) = a / 2 ^ (i + 1) / b * b + a / 2 ^ (i + 1) % b := by rw [Nat.mul_comm]; exact (Nat.div_add_mod _ _).symm
    have hR : a / 2 ^ (i + 1) % b < b := Nat.mod_lt _ h0
    have hst := div_step e0
    have ht := bitN_le a i
    have hQ : a / 2 ^ (i + 1) / b * 2 ^ (i + 1) ≤ a := Nat.le_trans (Nat.mul_le_mul_right _ (Nat.div_le_self _ _)) (Nat.div_mul_le_self _ _)
    refine gen_ex (a / 2 ^ (i + 1) / b) fun Q eQ => ?_
    refine gen_ex (a / 2 ^ (i + 1) % b) fun R eR => ?_
    rw [← eQ] at hst hQ e0 ⊢
    rw [← eR] at hst hR e0 ⊢
    clear eQ eR e0
    have hR2 : R < T256 := by omega
    rw [show ((i + 1 : Nat) : Int) - 1 = (i : Int) from by omega]
    conv => whnf
    try (refine ⟨by kernel_rfl, ?_⟩; conv => whnf)
    refine ⟨_, ret_of_fn G0ok (add_fn hR2 hR2) (by first | rfl | simp only [noHs, noH, nI, bI, Bool.and_self, Bool.and_true, Bool.true_and, ]) (by first | rfl | simp only [noHs, noH, nI, bI, Bool.and_self, Bool.and_true, Bool.true_and, ]), ?_⟩; (conv => whnf); (try (refine ⟨by kernel_rfl, ?_⟩; conv => whnf))
    refine ⟨_, ret_of_fn G0ok (bit_fn ha (by omega)) (by first | rfl | simp only [noHs, noH, nI, bI, Bool.and_self, Bool.and_true, Bool.true_and, ]) (by first | rfl | simp only [noHs, noH, nI, bI, Bool.and_self, Bool.and_true, Bool.true_and, ]), ?_⟩; (conv => whnf); (try (refine ⟨by kernel_rfl, ?_⟩; conv => whnf))
    obtain ⟨q1, q2, q3, q4⟩ := rest_or (r := R) ht
    have hx := rest_lt (r := R) ht
    rw [q1, splice_words (i := 0) (by rfl) (by simp), show [lim (addS R R) 0, lim (addS R R) 1, lim (addS R R) 2, lim (addS R R) 3].set 0 (lim (addS R R + bitN a i) 0) = [lim (addS R R + bitN a i) 0, lim (addS R R + bitN a i) 1, lim (addS R R + bitN a i) 2, lim (addS R R + bitN a i) 3] from by rw [q2, q3, q4]; rfl]
    by_cases ho : addO R R = true
    · rw [ho]
      conv => whnf
      try (refine ⟨by kernel_rfl, ?_⟩; conv => whnf)
      obtain ⟨s1, s2, s3⟩ := rest_sub hR hb ht (.inl ho)
      have hq : Q * 2 ^ (i + 1) + 2 ^ i < T256 := by
        rw [← quo_one]
        refine Nat.lt_of_le_of_lt ?_ ha
        have : 2 * Q + 1 ≤ a / 2 ^ i := by
          rw [hst]
          have h1 : 2 * Q * 1 ≤ 2 * Q * b := Nat.mul_le_mul_left _ h0
          rw [Nat.mul_one] at h1
          generalize 2 * Q * b = qb at h1
          omega
        exact Nat.le_trans (Nat.mul_le_mul_right _ this) (Nat.div_mul_le_self _ _)
      obtain ⟨p1, p2, p3⟩ := quo_or (i := i) (d := i / 64) (s := i % 64) (by omega) (by omega) (by omega) hq
      have d1 : a / 2 ^ i = (2 * Q + 1) * b + (2 * R + bitN a i - b) := by rw [hst, Nat.add_mul, Nat.one_mul]; omega
      have d2 : a / 2 ^ i / b = 2 * Q + 1 := by rw [d1, Nat.mul_comm, Nat.mul_add_div h0, Nat.div_eq_of_lt s2, Nat.add_zero]
      have d3 : a / 2 ^ i % b = 2 * R + bitN a i - b := by rw [d1, Nat.mul_comm, Nat.mul_add_mod, Nat.mod_eq_of_lt s2]
      have hl64 := lim_lt (Q * 2 ^ (i + 1)) (i / 64)
      refine ⟨_, ret_of_fn G0ok (sub_fn hx hb) (by first | rfl | simp only [noHs, noH, nI, bI, Bool.and_self, Bool.and_true, Bool.true_and, ]) (by first | rfl | simp only [noHs, noH, nI, bI, Bool.and_self, Bool.and_true, Bool.true_and, ]), ?_⟩; (conv => whnf); (try (refine ⟨by kernel_rfl, ?_⟩; conv => whnf))
      rw [s1, Int.tdiv_eq_ediv_of_nonneg (by omega), ws_i64 (by omega) (by omega)]
      conv => whnf
      try (refine ⟨by kernel_rfl, ?_⟩; conv => whnf)
      refine bindP_intro (if_pos (inB_ok (by omega) (by omega))) ?_; conv => whnf
      refine bindP_intro (words_ix (i := i / 64) (by dsimp only; omega) (by simp; omega)) ?_
      conv => whnf
      try (refine ⟨by kernel_rfl, ?_⟩; conv => whnf)
      rw [limC_getD _ (by omega), Int.tmod_eq_emod_of_nonneg (by omega), show (i : Int) % 64 = ((i % 64 : Nat) : Int) from by omega]
      conv => whnf
      try (refine ⟨by kernel_rfl, ?_⟩; conv => whnf)
      rw [shl1_u64 (n := i % 64) (by omega), p2]
      conv => whnf
      try (refine ⟨by kernel_rfl, ?_⟩; conv => whnf)
      refine bindP_intro (if_pos (inB_ok (by omega) (by omega))) ?_; conv => whnf
      refine onlyIf_intro (by simp [uC, words_length]; omega) ?_
      conv => whnf
      try (refine ⟨by kernel_rfl, ?_⟩; conv => whnf)
      rw [uC_set (d := i / 64) (by dsimp only; omega) (by omega) p3]
      conv => whnf
      try (refine ⟨by kernel_rfl, ?_⟩; conv => whnf)
      refine next_round (y := i + 1) G0ok i [(0, some 0), (1, some 1), (2, some 2), (3, some 3)] rfl ⟨⟨_, rfl, conv_nI (ws_i64 (by omega) (by omega))⟩, ⟨_, rfl, conv_nI (rfl)⟩, ⟨_, rfl, .ptr rfl⟩, ⟨_, rfl, .ptr rfl⟩, ⟨_, rfl, .ptr rfl⟩, ⟨_, rfl, .ptr rfl⟩, trivial⟩ ⟨.inr ⟨_, _, rfl, rfl, convs_eq rfl (words_noHs _)⟩, .inr ⟨_, _, rfl, rfl, convs_eq rfl (words_noHs _)⟩, .inr ⟨_, _, rfl, rfl, convs_eq (by rw [d2, quo_one]) (words_noHs _)⟩, .inr ⟨_, _, rfl, rfl, convs_eq (by rw [d3]; rfl) (words_noHs _)⟩, trivial⟩ (by omega) (by omega)
    · rw [show addO R R = false from by simpa using ho]
      conv => whnf
      try (refine ⟨by kernel_rfl, ?_⟩; conv => whnf)
      refine ⟨_, ret_of_fn G0ok (cmp_fn hx hb) (by first | rfl | simp only [noHs, noH, nI, bI, Bool.and_self, Bool.and_true, Bool.true_and, ]) (by first | rfl | simp only [noHs, noH, nI, bI, Bool.and_self, Bool.and_true, Bool.true_and, ]), ?_⟩; (conv => whnf); (try (refine ⟨by kernel_rfl, ?_⟩; conv => whnf))
      by_cases hcmp : cmpN (addS R R + bitN a i) b ≥ 0
      · rw [decide_eq_true hcmp]
        conv => whnf
        try (refine ⟨by kernel_rfl, ?_⟩; conv => whnf)
        obtain ⟨s1, s2, s3⟩ := rest_sub hR hb ht (.inr (cmpN_ge.1 hcmp))
        have hq : Q * 2 ^ (i + 1) + 2 ^ i < T256 := by
          rw [← quo_one]
          refine Nat.lt_of_le_of_lt ?_ ha
          have : 2 * Q + 1 ≤ a / 2 ^ i := by
            rw [hst]
            have h1 : 2 * Q * 1 ≤ 2 * Q * b := Nat.mul_le_mul_left _ h0
            rw [Nat.mul_one] at h1
            generalize 2 * Q * b = qb at h1
            omega
          exact Nat.le_trans (Nat.mul_le_mul_right _ this) (Nat.div_mul_le_self _ _)
        obtain ⟨p1, p2, p3⟩ := quo_or (i := i) (d := i / 64) (s := i % 64) (by omega) (by omega) (by omega) hq
        have d1 : a / 2 ^ i = (2 * Q + 1) * b + (2 * R + bitN a i - b) := by rw [hst, Nat.add_mul, Nat.one_mul]; omega
        have d2 : a / 2 ^ i / b = 2 * Q + 1 := by rw [d1, Nat.mul_comm, Nat.mul_add_div h0, Nat.div_eq_of_lt s2, Nat.add_zero]
        have d3 : a / 2 ^ i % b = 2 * R + bitN a i - b := by rw [d1, Nat.mul_comm, Nat.mul_add_mod, Nat.mod_eq_of_lt s2]
        have hl64 := lim_lt (Q * 2 ^ (i + 1)) (i / 64)
        refine ⟨_, ret_of_fn G0ok (sub_fn hx hb) (by first | rfl | simp only [noHs, noH, nI, bI, Bool.and_self, Bool.and_true, Bool.true_and, ]) (by first | rfl | simp only [noHs, noH, nI, bI, Bool.and_self, Bool.and_true, Bool.true_and, ]), ?_⟩; (conv => whnf); (try (refine ⟨by kernel_rfl, ?_⟩; conv => whnf))
        rw [s1, Int.tdiv_eq_ediv_of_nonneg (by omega), ws_i64 (by omega) (by omega)]
        conv => whnf
        try (refine ⟨by kernel_rfl, ?_⟩; conv => whnf)
        refine bindP_intro (if_pos (inB_ok (by omega) (by omega))) ?_; conv => whnf
        refine bindP_intro (words_ix (i := i / 64) (by dsimp only; omega) (by simp; omega)) ?_
        conv => whnf
        try (refine ⟨by kernel_rfl, ?_⟩; conv => whnf)
        rw [limC_getD _ (by omega), Int.tmod_eq_emod_of_nonneg (by omega), show (i : Int) % 64 = ((i % 64 : Nat) : Int) from by omega]
        conv => whnf
        try (refine ⟨by kernel_rfl, ?_⟩; conv => whnf)
        rw [shl1_u64 (n := i % 64) (by omega), p2]
        conv => whnf
        try (refine ⟨by kernel_rfl, ?_⟩; conv => whnf)
        refine bindP_intro (if_pos (inB_ok (by omega) (by omega))) ?_; conv => whnf
        refine onlyIf_intro (by simp [uC, words_length]; omega) ?_
        conv => whnf
        try (refine ⟨by kernel_rfl, ?_⟩; conv => whnf)
        rw [uC_set (d := i / 64) (by dsimp only; omega) (by omega) p3]
        conv => whnf
        try (refine ⟨by kernel_rfl, ?_⟩; conv => whnf)
        refine next_round (y := i + 1) G0ok i [(0, some 0), (1, some 1), (2, some 2), (3, some 3)] rfl ⟨⟨_, rfl, conv_nI (ws_i64 (by omega) (by omega))⟩, ⟨_, rfl, conv_nI (rfl)⟩, ⟨_, rfl, .ptr rfl⟩, ⟨_, rfl, .ptr rfl⟩, ⟨_, rfl, .ptr rfl⟩, ⟨_, rfl, .ptr rfl⟩, trivial⟩ ⟨.inr ⟨_, _, rfl, rfl, convs_eq rfl (words_noHs _)⟩, .inr ⟨_, _, rfl, rfl, convs_eq rfl (words_noHs _)⟩, .inr ⟨_, _, rfl, rfl, convs_eq (by rw [d2, quo_one]) (words_noHs _)⟩, .inr ⟨_, _, rfl, rfl, convs_eq (by rw [d3]; rfl) (words_noHs _)⟩, trivial⟩ (by omega) (by omega)
      · rw [decide_eq_false hcmp]
        conv => whnf
        try (refine ⟨by kernel_rfl, ?_⟩; conv => whnf)
        have hlt : addS R R + bitN a i < b := Nat.lt_of_not_le fun h => hcmp (cmpN_ge.2 h)
        have hkeep := rest_keep hR hb ht (by simpa using ho) hlt
        rw [hkeep] at hlt
        have d2 : a / 2 ^ i / b = 2 * Q := by rw [hst, Nat.mul_comm (2 * Q), Nat.mul_add_div h0, Nat.div_eq_of_lt hlt, Nat.add_zero]
        have d3 : a / 2 ^ i % b = 2 * R + bitN a i := by rw [hst, Nat.mul_comm (2 * Q), Nat.mul_add_mod, Nat.mod_eq_of_lt hlt]
        refine next_round (y := i + 1) G0ok i [(0, some 0), (1, some 1), (2, some 2), (3, some 3)] rfl ⟨⟨_, rfl, conv_nI (ws_i64 (by omega) (by omega))⟩, ⟨_, rfl, conv_nI (rfl)⟩, ⟨_, rfl, .ptr rfl⟩, ⟨_, rfl, .ptr rfl⟩, ⟨_, rfl, .ptr rfl⟩, ⟨_, rfl, .ptr rfl⟩, trivial⟩ ⟨.inr ⟨_, _, rfl, rfl, convs_eq rfl (words_noHs _)⟩, .inr ⟨_, _, rfl, rfl, convs_eq rfl (words_noHs _)⟩, .inr ⟨_, _, rfl, rfl, convs_eq (by rw [d2, quo_none]) (words_noHs _)⟩, .inr ⟨_, _, rfl, rfl, convs_eq (by rw [d3, ← hkeep]; rfl) (words_noHs _)⟩, trivial⟩ (by omega) (by omega)
  · have hc := of_decide_eq_false hc
    have : k = 0 := by omega
    subst this
    rw [Nat.pow_zero, Nat.div_one, Nat.mul_one, ← divN_def, ← modN_def]
    conv => whnf
    try (refine ⟨by kernel_rfl, ?_⟩; conv => whnf)
    exact ⟨_, rfl, rfl⟩
end Go.Proofs.YtidkdlaihmpjfaaDoor
namespace Go.Proofs.YtidkdlaihmpjfaaDoor
set_option linter.unusedVariables false
set_option linter.unusedSimpArgs false
set_option linter.unusedSectionVars false
open Go.ChangeShapes Go.WideShapes Go.ChangeAt Go.RowKit Go.Joins
set_option maxRecDepth 10000
theorem addM_ex : ∃ f : Nat → Nat → Nat → Nat, ∀ m a b, f m a b = (a + b) % m := ⟨_, fun _ _ _ => rfl⟩
noncomputable def addM : Nat → Nat → Nat → Nat := Classical.choose addM_ex
theorem addM_def (m a b : Nat) : addM m a b = (a + b) % m := Classical.choose_spec addM_ex m a b
theorem subM_ex : ∃ f : Nat → Nat → Nat → Nat, ∀ m a b, f m a b = (a + (m - b)) % m := ⟨_, fun _ _ _ => rfl⟩
noncomputable def subM : Nat → Nat → Nat → Nat := Classical.choose subM_ex
theorem subM_def (m a b : Nat) : subM m a b = (a + (m - b)) % m := Classical.choose_spec subM_ex m a b
theorem addM_lt {m a b : Nat} (h : 0 < m) : addM m a b < m := by rw [addM_def]; exact Nat.mod_lt _ h
theorem subM_lt {m a b : Nat} (h : 0 < m) : subM m a b < m := by rw [subM_def]; exact Nat.mod_lt _ h
theorem mod_once {x m : Nat} (h1 : m ≤ x) (h2 : x < 2 * m) : x % m = x - m := by
  rw [Nat.mod_eq_sub_mod h1, Nat.mod_eq_of_lt (by omega)]
theorem fadd_fn {a b m : Nat} (ha : a < m) (hb : b < m) (hm : m < T256) : FnV Tryd.prog G0 92 [uV a, uV b, uV m] (uV (addM m a b)) := by
  have h1 := add_fn (a := a) (b := b) (by omega) (by omega)
  have hs := addS_lt a b
  have h2 := cmp_fn hs hm
  have h3 := sub_fn hs hm
  have e1 : addO a b = true ∨ m ≤ addS a b → subS (addS a b) m = addM m a b := by
    intro h
    rw [addO_def, addS_def] at h
    rw [subS_def, addS_def, addM_def]
    rw [T256_lit] at *
    simp only [decide_eq_true_eq] at h
    rw [mod_once (x := a + b) (m := m) (by omega) (by omega)]
    omega
  have e2 : addO a b = false → addS a b < m → addS a b = addM m a b := by
    intro h h'
    rw [addO_def] at h
    rw [addS_def] at h' ⊢
    rw [addM_def]
    rw [T256_lit] at *
    simp only [decide_eq_false_iff_not] at h
    have h2 : (a + b) % 115792089237316195423570985008687907853269984665640564039457584007913129639936 = a + b := Nat.mod_eq_of_lt (by omega)
    rw [h2] at h' ⊢
    rw [Nat.mod_eq_of_lt h']
  refine gen_ex (addM m a b) fun r hr => ?_
  rw [← hr] at e1 e2 ⊢
  clear hr
  refine gen_ex (addS a b) fun s hs' => ?_
  rw [← hs'] at h1 h2 h3 e1 e2 hs
  clear hs'
  refine gen_ex (addO a b) fun o ho' => ?_
  rw [← ho'] at h1 e1 e2
  clear ho' ha hb
  refine fn_of_vwp Γok Tryd.func92 (by kernel_rfl) rfl (by simp [Tryd.ntmps92]) (wpv_ok Γok (by kernel_rfl) _ _ _ ?_); conv => whnf
  refine ⟨_, ret_of_fn G0ok (h1) (by first | rfl | simp only [noHs, noH, nI, bI, Bool.and_self, Bool.and_true, Bool.true_and, ]) (by first | rfl | simp only [noHs, noH, nI, bI, Bool.and_self, Bool.and_true, Bool.true_and, ]), ?_⟩; (conv => whnf); (try (refine ⟨by kernel_rfl, ?_⟩; conv => whnf))
  cases o
  · conv => whnf
    try (refine ⟨by kernel_rfl, ?_⟩; conv => whnf)
    refine ⟨_, ret_of_fn G0ok (h2) (by first | rfl | simp only [noHs, noH, nI, bI, Bool.and_self, Bool.and_true, Bool.true_and, ]) (by first | rfl | simp only [noHs, noH, nI, bI, Bool.and_self, Bool.and_true, Bool.true_and, ]), ?_⟩; (conv => whnf); (try (refine ⟨by kernel_rfl, ?_⟩; conv => whnf))
    by_cases hc : cmpN s m ≥ 0
    · rw [decide_eq_true hc]
      conv => whnf
      try (refine ⟨by kernel_rfl, ?_⟩; conv => whnf)
      refine ⟨_, ret_of_fn G0ok (h3) (by first | rfl | simp only [noHs, noH, nI, bI, Bool.and_self, Bool.and_true, Bool.true_and, ]) (by first | rfl | simp only [noHs, noH, nI, bI, Bool.and_self, Bool.and_true, Bool.true_and, ]), ?_⟩; (conv => whnf); (try (refine ⟨by kernel_rfl, ?_⟩; conv => whnf))
      rw [e1 (.inr (cmpN_ge.1 hc))]
      exact ⟨_, rfl, rfl⟩
    · rw [decide_eq_false hc]
      conv => whnf
      try (refine ⟨by kernel_rfl, ?_⟩; conv => whnf)
      rw [e2 rfl (by have := (not_congr cmpN_ge).1 hc; omega)]
      exact ⟨_, rfl, rfl⟩
  · conv => whnf
    try (refine ⟨by kernel_rfl, ?_⟩; conv => whnf)
    refine ⟨_, ret_of_fn G0ok (h3) (by first | rfl | simp only [noHs, noH, nI, bI, Bool.and_self, Bool.and_true, Bool.true_and, ]) (by first | rfl | simp only [noHs, noH, nI, bI, Bool.and_self, Bool.and_true, Bool.true_and, ]), ?_⟩; (conv => whnf); (try (refine ⟨by kernel_rfl, ?_⟩; conv => whnf))
    rw [e1 (.inl rfl)]
    exact ⟨_, rfl, rfl⟩
theorem fsub_fn {a b m : Nat} (ha : a < m) (hb : b < m) (hm : m < T256) : FnV Tryd.prog G0 86 [uV a, uV b, uV m] (uV (subM m a b)) := by
  have h1 := sub_fn (a := a) (b := b) (by omega) (by omega)
  have hs := subS_lt a b
  have h2 := add_fn hs hm
  have e1 : subO a b = true → addS (subS a b) m = subM m a b := by
    intro h
    rw [subO_def] at h
    rw [subS_def, addS_def, subM_def]
    rw [T256_lit] at *
    simp only [decide_eq_true_eq] at h
    rw [Nat.mod_eq_of_lt (a := a + (m - b)) (by omega)]
    omega
  have e2 : subO a b = false → subS a b = subM m a b := by
    intro h
    rw [subO_def] at h
    rw [subS_def, subM_def]
    rw [T256_lit] at *
    simp only [decide_eq_false_iff_not] at h
    rw [mod_once (x := a + (m - b)) (m := m) (by omega) (by omega)]
    omega
  refine gen_ex (subM m a b) fun r hr => ?_
  rw [← hr] at e1 e2 ⊢
  clear hr
  refine gen_ex (subS a b) fun s hs' => ?_
  rw [← hs'] at h1 h2 e1 e2 hs
  clear hs'
  refine gen_ex (subO a b) fun o ho' => ?_
  rw [← ho'] at h1 e1 e2
  clear ho' ha hb
  refine fn_of_vwp Γok Tryd.func86 (by kernel_rfl) rfl (by simp [Tryd.ntmps86]) (wpv_ok Γok (by kernel_rfl) _ _ _ ?_); conv => whnf
  refine ⟨_, ret_of_fn G0ok (h1) (by first | rfl | simp only [noHs, noH, nI, bI, Bool.and_self, Bool.and_true, Bool.true_and, ]) (by first | rfl | simp only [noHs, noH, nI, bI, Bool.and_self, Bool.and_true, Bool.true_and, ]), ?_⟩; (conv => whnf); (try (refine ⟨by kernel_rfl, ?_⟩; conv => whnf))
  cases o
  · conv => whnf
    try (refine ⟨by kernel_rfl, ?_⟩; conv => whnf)
    rw [e2 rfl]
    exact ⟨_, rfl, rfl⟩
  · conv => whnf
    try (refine ⟨by kernel_rfl, ?_⟩; conv => whnf)
    refine ⟨_, ret_of_fn G0ok (h2) (by first | rfl | simp only [noHs, noH, nI, bI, Bool.and_self, Bool.and_true, Bool.true_and, ]) (by first | rfl | simp only [noHs, noH, nI, bI, Bool.and_self, Bool.and_true, Bool.true_and, ]), ?_⟩; (conv => whnf); (try (refine ⟨by kernel_rfl, ?_⟩; conv => whnf))
    rw [e1 rfl]
    exact ⟨_, rfl, rfl⟩
end Go.Proofs.YtidkdlaihmpjfaaDoor
namespace Go.Proofs.YtidkdlaihmpjfaaDoor
set_option linter.unusedVariables false
set_option linter.unusedSimpArgs false
set_option linter.unusedSectionVars false
open Go.ChangeShapes Go.WideShapes Go.ChangeAt Go.RowKit Go.Joins
set_option maxRecDepth 10000
theorem mul1_fnH {a m x : Nat} (ha : a < m) (hx : x < m) (hm : m < T256) (one : Bool) : FnH Tryd.prog G0 95 [bI one, .ptr 0 0, .ptr 1 0, .ptr 2 0] [(0, some (uC x)), (1, some (uC m)), (2, some (uC a))] 3 (.tup [])
    [(0, some (uC (if one then addM m (addM m x x) a else addM m x x))), (1, some (uC m)), (2, some (uC a))] 0 := by
  refine fnH_of_vwp Γok G0ok Tryd.func95 (by kernel_rfl) rfl (by simp [Tryd.ntmps95]) (wpv_ok Γok (by kernel_rfl) _ _ _ ?_); conv => whnf
  refine ⟨_, ret_of_fn G0ok (fadd_fn hx hx hm) (by first | rfl | simp only [noHs, noH, nI, bI, Bool.and_self, Bool.and_true, Bool.true_and, ]) (by first | rfl | simp only [noHs, noH, nI, bI, Bool.and_self, Bool.and_true, Bool.true_and, ]), ?_⟩; (conv => whnf); (try (refine ⟨by kernel_rfl, ?_⟩; conv => whnf))
  cases one
  · conv => whnf
    try (refine ⟨by kernel_rfl, ?_⟩; conv => whnf)
    exact ⟨_, rfl, [(0, some 0), (1, some 1), (2, some 2)], rfl, rfl, .same rfl, ⟨.inr ⟨_, _, rfl, rfl, convs_eq rfl (words_noHs _)⟩, .inr ⟨_, _, rfl, rfl, convs_eq rfl (words_noHs _)⟩, .inr ⟨_, _, rfl, rfl, convs_eq rfl (words_noHs _)⟩, trivial⟩⟩
  · conv => whnf
    try (refine ⟨by kernel_rfl, ?_⟩; conv => whnf)
    refine ⟨_, ret_of_fn G0ok (fadd_fn (addM_lt (by omega)) ha hm) (by first | rfl | simp only [noHs, noH, nI, bI, Bool.and_self, Bool.and_true, Bool.true_and, ]) (by first | rfl | simp only [noHs, noH, nI, bI, Bool.and_self, Bool.and_true, Bool.true_and, ]), ?_⟩; (conv => whnf); (try (refine ⟨by kernel_rfl, ?_⟩; conv => whnf))
    exact ⟨_, rfl, [(0, some 0), (1, some 1), (2, some 2)], rfl, rfl, .same rfl, ⟨.inr ⟨_, _, rfl, rfl, convs_eq rfl (words_noHs _)⟩, .inr ⟨_, _, rfl, rfl, convs_eq rfl (words_noHs _)⟩, .inr ⟨_, _, rfl, rfl, convs_eq rfl (words_noHs _)⟩, trivial⟩⟩
/-- A function that is handed blocks, called: what comes out, in the caller's names. -/
theorem ret_fnH {P : Program} {G : Globs} (hG : GOk G) {g : FuncId} {vargs vargs' : List VV} {H : HL} {k : Nat} {res res' : VV} {H' upd : HL} {m : Nat} (h : FnH P G g vargs H k res H' m) (σl : List Nat) {lkf : Nat → Option (List VV)} {n : Nat}
    (hlen : σl.length = k) (hnd : noDup σl = true) (hHk : (H.all fun p => Nat.blt p.1 k) = true) (hv : lowVs k vargs = true) (hr : lowV (k + m) res = true)
    (hin : inH lkf (hmap σl k n) k H k) (hout : outH (k + m) H' (k + m)) (e1 : rnVs (hmap σl k n) vargs = vargs') (e2 : rnV (hmap σl k n) res = res') (e3 : updH (hmap σl k n) H' (k + m) = upd) :
    Ret P G g vargs' lkf n ⟨res', σl, upd, m⟩ := by
  subst e1 e2 e3
  exact ret_of_fnH hG h σl hlen hnd hHk hv hr hin hout
noncomputable def H3 (x m a : Nat) : HL := [(0, some (uC x)), (1, some (uC m)), (2, some (uC a))]
theorem bit_down {b i k : Nat} (hi : i < 4) (hk : k < 64) : b / 2 ^ (64 * i + k) = 2 * (b / 2 ^ (64 * i + (k + 1))) + lim b i / 2 ^ k % 2 := by
  have h1 : lim b i / 2 ^ k % 2 = b / 2 ^ (64 * i + k) % 2 := by
    rw [lim_def, B64_eq, ← Nat.pow_mul, show (2:Nat) ^ 64 = 2 ^ k * (2 * 2 ^ (63 - k)) by rw [← Nat.pow_succ', ← Nat.pow_add]; congr 1; omega, Nat.mod_mul_right_div_self, Nat.mod_mul_right_mod, Nat.div_div_eq_div_mul, ← Nat.pow_add]
  have h2 : b / 2 ^ (64 * i + (k + 1)) = b / 2 ^ (64 * i + k) / 2 := by rw [Nat.div_div_eq_div_mul, ← Nat.pow_succ]; rfl
  rw [h1, h2]; omega
theorem limb_down {b i : Nat} (hi : i < 4) : b / 2 ^ (64 * i) = 2 ^ 64 * (b / 2 ^ (64 * (i + 1))) + lim b i := by
  rw [lim_def, B64_eq, ← Nat.pow_mul, show 64 * (i + 1) = 64 * i + 64 by omega, Nat.pow_add, ← Nat.div_div_eq_div_mul]
  exact (Nat.div_add_mod _ _).symm
theorem outH3 (x m a : Nat) : outH 3 (H3 x m a) 3 :=
  ⟨⟨⟨trivial, fun cs h => (Option.some.inj (show some (uC x) = some cs from h)) ▸ lowVs_noHs (words_noHs _)⟩, fun cs h => (Option.some.inj (show some (uC m) = some cs from h)) ▸ lowVs_noHs (words_noHs _)⟩, fun cs h => (Option.some.inj (show some (uC a) = some cs from h)) ▸ lowVs_noHs (words_noHs _)⟩
theorem bits_fnH {g : FuncId} {f : Nat → Nat} {m a b : Nat} (hb : b < T256)
    (hg : ∀ v t, t ≤ 1 → 0 < 2 * v + t → FnH Tryd.prog G0 g [bI (decide (t = 1)), .ptr 0 0, .ptr 1 0, .ptr 2 0] (H3 (f v) m a) 3 (.tup []) (H3 (f (2 * v + t)) m a) 0) :
    FnH Tryd.prog G0 93 [uV b, .fn (.func g) [.ptr 0 0, .ptr 1 0, .ptr 2 0]] (H3 (f 0) m a) 3 (.tup []) (H3 (f b) m a) 0 := by
  have h4 : b / 2 ^ (64 * 4) = 0 := Nat.div_eq_of_lt hb
  unfold H3 at *
  refine fnH_of_vwp Γok G0ok Tryd.func93 (by kernel_rfl) rfl (by simp [Tryd.ntmps93]) (wpv_ok Γok (by kernel_rfl) _ _ _ ?_); conv => whnf
  refine vloop_invK G0ok [(0, some 0), (1, some 1), (2, some 2), (3, some 3)] 4 (X := Nat) (fun j => [(5, nI .i64 ((j : Int) - 1)), (4, bI (decide (0 < b / 2 ^ (64 * j)))), (2, .ptr 3 0), (1, .fn (.func g) [.ptr 0 0, .ptr 1 0, .ptr 2 0])])
    (fun j => [(0, some (uC (f (b / 2 ^ (64 * j))))), (1, some (uC m)), (2, some (uC a)), (3, some (uC b))]) (fun j => j ≤ 4) (fun j => j) 4 rfl
    ⟨⟨_, rfl, conv_nI (rfl)⟩, ⟨_, rfl, conv_eq (by rw [h4]; rfl) (rfl)⟩, ⟨_, rfl, .ptr rfl⟩, ⟨_, rfl, .fn (.cons (.ptr rfl) (.cons (.ptr rfl) (.cons (.ptr rfl) .nil)))⟩, trivial⟩
    ⟨.inr ⟨_, _, rfl, rfl, convs_eq (by rw [h4]) (words_noHs _)⟩, .inr ⟨_, _, rfl, rfl, convs_eq rfl (words_noHs _)⟩, .inr ⟨_, _, rfl, rfl, convs_eq rfl (words_noHs _)⟩, .inr ⟨_, _, rfl, rfl, convs_eq (rfl) (words_noHs _)⟩, trivial⟩ (Nat.le_refl _) ?_
  intro j hj
  try dsimp only at hj ⊢
  refine wpv_ok Γok (by kernel_rfl) _ _ _ ?_; conv => whnf
  refine bool_cases (fun hc => ?_) (fun hc => ?_)
  · have hc := of_decide_eq_true hc
    obtain ⟨i, hi⟩ : ∃ i, j = i + 1 := ⟨j - 1, by omega⟩
    subst hi
    have hl := limb_down (b := b) (i := i) (by omega)
    have hbd := fun k (hk : k < 64) => bit_down (b := b) (i := i) (k := k) (by omega) hk
    rw [show ((i + 1 : Nat) : Int) - 1 = (i : Int) from by omega]
    conv => whnf
    try (refine ⟨by kernel_rfl, ?_⟩; conv => whnf)
    refine bindP_intro (if_pos (inB_ok (by omega) (by omega))) ?_; conv => whnf
    refine bindP_intro (words_ix (i := i) (by dsimp only; omega) (by simp; omega)) ?_
    conv => whnf
    try (refine ⟨by kernel_rfl, ?_⟩; conv => whnf)
    rw [limC_getD _ (by omega)]
    have hcases : (lim b i = 0 ∧ b / 2 ^ (64 * (i + 1)) = 0) ∨ (lim b i = 0 ∧ 0 < b / 2 ^ (64 * (i + 1))) ∨ 0 < lim b i := by omega
    rcases hcases with ⟨hz, hv⟩ | ⟨hz, hv⟩ | hz
    · rw [hz, hv]
      conv => whnf
      try (refine ⟨by kernel_rfl, ?_⟩; conv => whnf)
      refine next_round (y := i + 1) G0ok i [(0, some 0), (1, some 1), (2, some 2), (3, some 3)] rfl ⟨⟨_, rfl, conv_nI (ws_i64 (by omega) (by omega))⟩, ⟨_, rfl, conv_eq (by rw [hl, hv, hz]) (rfl)⟩, ⟨_, rfl, .ptr rfl⟩, ⟨_, rfl, .fn (.cons (.ptr rfl) (.cons (.ptr rfl) (.cons (.ptr rfl) .nil)))⟩, trivial⟩ ⟨.inr ⟨_, _, rfl, rfl, convs_eq (by rw [hl, hv, hz]) (words_noHs _)⟩, .inr ⟨_, _, rfl, rfl, convs_eq rfl (words_noHs _)⟩, .inr ⟨_, _, rfl, rfl, convs_eq rfl (words_noHs _)⟩, .inr ⟨_, _, rfl, rfl, convs_eq (rfl) (words_noHs _)⟩, trivial⟩ (by omega) (by omega)
    case' inr.inl =>
      have hv' : 0 < b / 2 ^ (64 * i + 64) := hv
      rw [show (((lim b i : Nat) : Int) == 0) = true from by rw [hz]; rfl, decide_eq_true hv]
      conv => whnf
    case' inr.inr =>
      rw [show (((lim b i : Nat) : Int) == 0) = false from by simp; omega]
      conv => whnf
    all_goals
      refine vloop_invK G0ok [(0, some 0), (1, some 1), (2, some 2), (3, some 3)] 4 (X := Nat) (fun k => [(6, nI .i64 ((k : Int) - 1)), (5, nI .i64 (i : Int)), (4, bI (decide (0 < b / 2 ^ (64 * i + k)))), (2, .ptr 3 0), (1, .fn (.func g) [.ptr 0 0, .ptr 1 0, .ptr 2 0])])
        (fun k => [(0, some (uC (f (b / 2 ^ (64 * i + k))))), (1, some (uC m)), (2, some (uC a)), (3, some (uC b))]) (fun k => k ≤ 64) (fun k => k) 64 rfl
        ⟨⟨_, rfl, conv_nI (rfl)⟩, ⟨_, rfl, conv_nI (rfl)⟩, ⟨_, rfl, conv_eq (by first|rfl|exact congrArg VV.v (congrArg Value.bool (decide_eq_true (by assumption)).symm)) (rfl)⟩, ⟨_, rfl, .ptr rfl⟩, ⟨_, rfl, .fn (.cons (.ptr rfl) (.cons (.ptr rfl) (.cons (.ptr rfl) .nil)))⟩, trivial⟩
        ⟨.inr ⟨_, _, rfl, rfl, convs_eq (rfl) (words_noHs _)⟩, .inr ⟨_, _, rfl, rfl, convs_eq rfl (words_noHs _)⟩, .inr ⟨_, _, rfl, rfl, convs_eq rfl (words_noHs _)⟩, .inr ⟨_, _, rfl, rfl, convs_eq (rfl) (words_noHs _)⟩, trivial⟩ (Nat.le_refl _) ?_
      intro k hk
      try dsimp only at hk ⊢
      refine wpv_ok Γok (by kernel_rfl) _ _ _ ?_; conv => whnf
      refine bool_cases (fun hc => ?_) (fun hc => ?_)
      · have hc := of_decide_eq_true hc
        obtain ⟨q, hq⟩ : ∃ q, k = q + 1 := ⟨k - 1, by omega⟩
        subst hq
        have hd := hbd q (by omega)
        rw [show ((q + 1 : Nat) : Int) - 1 = (q : Int) from by omega]
        conv => whnf
        try (refine ⟨by kernel_rfl, ?_⟩; conv => whnf)
        refine bindP_intro (if_pos (inB_ok (by omega) (by omega))) ?_; conv => whnf
        refine bindP_intro (words_ix (i := i) (by dsimp only; omega) (by simp; omega)) ?_
        conv => whnf
        try (refine ⟨by kernel_rfl, ?_⟩; conv => whnf)
        rw [limC_getD _ (by omega)]
        have hl64 := lim_lt b i
        have ht2 : lim b i / 2 ^ q < 2 ^ 64 := Nat.lt_of_le_of_lt (Nat.div_le_self _ _) (by rw [← B64_eq]; exact hl64)
        have ht : lim b i / 2 ^ q % 2 ≤ 1 := by omega
        rw [shr_val (k := .u64) (x := lim b i) (n := q) (by simp only [IntKind.bits]; omega), u64_and1 ht2, show (((lim b i / 2 ^ q % 2 : Nat) : Int) == 1) = decide (lim b i / 2 ^ q % 2 = 1) from beq_lit _ 1]
        refine gen_ex (lim b i / 2 ^ q % 2) fun t et => ?_
        rw [← et] at hd ht ⊢
        clear et ht2
        have hgt := hg (b / 2 ^ (64 * i + (q + 1))) t ht
        rw [← hd] at hgt
        refine gen_ex (b / 2 ^ (64 * i + (q + 1))) fun v ev => ?_
        rw [← ev] at hd hgt ⊢
        by_cases hv : 0 < v
        · have hgt := hgt (by omega)
          rw [decide_eq_true hv]
          conv => whnf
          try (refine ⟨by kernel_rfl, ?_⟩; conv => whnf)
          refine ⟨_, ret_fnH G0ok hgt [0, 1, 2] rfl rfl rfl rfl rfl ⟨⟨⟨trivial, _, rfl, rfl, rfl⟩, _, rfl, rfl, rfl⟩, _, rfl, rfl, rfl⟩ (outH3 _ _ _) rfl rfl (upd := [(0, some (uC (f (b / 2 ^ (64 * i + q))))), (1, some (uC m)), (2, some (uC a))]) (by rfl), ?_⟩
          conv => whnf
          try (refine ⟨by kernel_rfl, ?_⟩; conv => whnf)
          refine next_round (y := q + 1) G0ok q [(0, some 0), (1, some 1), (2, some 2), (3, some 3)] rfl ⟨⟨_, rfl, conv_nI (ws_i64 (by omega) (by omega))⟩, ⟨_, rfl, conv_nI (rfl)⟩, ⟨_, rfl, conv_eq (by rw [hd, decide_eq_true (show 0 < 2 * v + t by omega)]; rfl) (rfl)⟩, ⟨_, rfl, .ptr rfl⟩, ⟨_, rfl, .fn (.cons (.ptr rfl) (.cons (.ptr rfl) (.cons (.ptr rfl) .nil)))⟩, trivial⟩ ⟨.inr ⟨_, _, rfl, rfl, convs_eq (rfl) (words_noHs _)⟩, .inr ⟨_, _, rfl, rfl, convs_eq rfl (words_noHs _)⟩, .inr ⟨_, _, rfl, rfl, convs_eq rfl (words_noHs _)⟩, .inr ⟨_, _, rfl, rfl, convs_eq (rfl) (words_noHs _)⟩, trivial⟩ (by omega) (by omega)
        · rw [decide_eq_false hv]
          conv => whnf
          try (refine ⟨by kernel_rfl, ?_⟩; conv => whnf)
          by_cases h1 : t = 1
          · have hgt := hgt (by omega)
            rw [decide_eq_true h1] at hgt ⊢
            conv => whnf
            try (refine ⟨by kernel_rfl, ?_⟩; conv => whnf)
            refine ⟨_, ret_fnH G0ok hgt [0, 1, 2] rfl rfl rfl rfl rfl ⟨⟨⟨trivial, _, rfl, rfl, rfl⟩, _, rfl, rfl, rfl⟩, _, rfl, rfl, rfl⟩ (outH3 _ _ _) rfl rfl (upd := [(0, some (uC (f (b / 2 ^ (64 * i + q))))), (1, some (uC m)), (2, some (uC a))]) (by rfl), ?_⟩
            conv => whnf
            try (refine ⟨by kernel_rfl, ?_⟩; conv => whnf)
            refine next_round (y := q + 1) G0ok q [(0, some 0), (1, some 1), (2, some 2), (3, some 3)] rfl ⟨⟨_, rfl, conv_nI (ws_i64 (by omega) (by omega))⟩, ⟨_, rfl, conv_nI (rfl)⟩, ⟨_, rfl, conv_eq (by rw [hd, decide_eq_true (show 0 < 2 * v + t by omega)]; rfl) (rfl)⟩, ⟨_, rfl, .ptr rfl⟩, ⟨_, rfl, .fn (.cons (.ptr rfl) (.cons (.ptr rfl) (.cons (.ptr rfl) .nil)))⟩, trivial⟩ ⟨.inr ⟨_, _, rfl, rfl, convs_eq (rfl) (words_noHs _)⟩, .inr ⟨_, _, rfl, rfl, convs_eq rfl (words_noHs _)⟩, .inr ⟨_, _, rfl, rfl, convs_eq rfl (words_noHs _)⟩, .inr ⟨_, _, rfl, rfl, convs_eq (rfl) (words_noHs _)⟩, trivial⟩ (by omega) (by omega)
          · rw [decide_eq_false h1]
            conv => whnf
            try (refine ⟨by kernel_rfl, ?_⟩; conv => whnf)
            have hv0 : v = 0 := by omega
            have ht0 : t = 0 := by omega
            refine next_round (y := q + 1) G0ok q [(0, some 0), (1, some 1), (2, some 2), (3, some 3)] rfl ⟨⟨_, rfl, conv_nI (ws_i64 (by omega) (by omega))⟩, ⟨_, rfl, conv_nI (rfl)⟩, ⟨_, rfl, conv_eq (by rw [hd, hv0, ht0]; rfl) (rfl)⟩, ⟨_, rfl, .ptr rfl⟩, ⟨_, rfl, .fn (.cons (.ptr rfl) (.cons (.ptr rfl) (.cons (.ptr rfl) .nil)))⟩, trivial⟩ ⟨.inr ⟨_, _, rfl, rfl, convs_eq (by rw [hd, hv0, ht0]) (words_noHs _)⟩, .inr ⟨_, _, rfl, rfl, convs_eq rfl (words_noHs _)⟩, .inr ⟨_, _, rfl, rfl, convs_eq rfl (words_noHs _)⟩, .inr ⟨_, _, rfl, rfl, convs_eq (rfl) (words_noHs _)⟩, trivial⟩ (by omega) (by omega)
      · have : k = 0 := by have := of_decide_eq_false hc; omega
        subst this
        conv => whnf
        try (refine ⟨by kernel_rfl, ?_⟩; conv => whnf)
        refine next_round (y := i + 1) G0ok i [(0, some 0), (1, some 1), (2, some 2), (3, some 3)] rfl ⟨⟨_, rfl, conv_nI (ws_i64 (by omega) (by omega))⟩, ⟨_, rfl, conv_eq (rfl) (rfl)⟩, ⟨_, rfl, .ptr rfl⟩, ⟨_, rfl, .fn (.cons (.ptr rfl) (.cons (.ptr rfl) (.cons (.ptr rfl) .nil)))⟩, trivial⟩ ⟨.inr ⟨_, _, rfl, rfl, convs_eq (rfl) (words_noHs _)⟩, .inr ⟨_, _, rfl, rfl, convs_eq rfl (words_noHs _)⟩, .inr ⟨_, _, rfl, rfl, convs_eq rfl (words_noHs _)⟩, .inr ⟨_, _, rfl, rfl, convs_eq (rfl) (words_noHs _)⟩, trivial⟩ (by omega) (by omega)
  · have : j = 0 := by have := of_decide_eq_false hc; omega
    subst this
    conv => whnf
    try (refine ⟨by kernel_rfl, ?_⟩; conv => whnf)
    exact ⟨_, rfl, [(0, some 0), (1, some 1), (2, some 2)], rfl, rfl, .same rfl, ⟨.inr ⟨_, _, rfl, rfl, convs_eq (by rw [Nat.mul_zero, Nat.pow_zero, Nat.div_one]) (words_noHs _)⟩, .inr ⟨_, _, rfl, rfl, convs_eq rfl (words_noHs _)⟩, .inr ⟨_, _, rfl, rfl, convs_eq rfl (words_noHs _)⟩, trivial⟩⟩
end Go.Proofs.YtidkdlaihmpjfaaDoor
namespace Go.Proofs.YtidkdlaihmpjfaaDoor
set_option linter.unusedVariables false
set_option linter.unusedSimpArgs false
set_option linter.unusedSectionVars false
open Go.ChangeShapes Go.WideShapes Go.ChangeAt Go.RowKit Go.Joins
set_option maxRecDepth 10000
theorem mulM_ex : ∃ f : Nat → Nat → Nat → Nat, ∀ m a b, f m a b = a * b % m := ⟨_, fun _ _ _ => rfl⟩
noncomputable def mulM : Nat → Nat → Nat → Nat := Classical.choose mulM_ex
theorem mulM_def (m a b : Nat) : mulM m a b = a * b % m := Classical.choose_spec mulM_ex m a b
theorem mulM_lt {m a b : Nat} (h : 0 < m) : mulM m a b < m := by rw [mulM_def]; exact Nat.mod_lt _ h
theorem mulM_step (m a v t : Nat) (ht : t ≤ 1) : (if decide (t = 1) then addM m (addM m (mulM m a v) (mulM m a v)) a else addM m (mulM m a v) (mulM m a v)) = mulM m a (2 * v + t) := by
  have h2 : addM m (mulM m a v) (mulM m a v) = (a * v + a * v) % m := by
    rw [addM_def, mulM_def, Nat.mod_add_mod, Nat.add_comm, Nat.mod_add_mod]
  rw [h2]
  by_cases h : t = 1
  · rw [decide_eq_true h, if_pos rfl, addM_def, Nat.mod_add_mod, mulM_def, h]
    congr 1
    rw [Nat.mul_add, Nat.mul_one, Nat.mul_left_comm, Nat.two_mul]
  · have h0 : t = 0 := by omega
    rw [decide_eq_false h, if_neg (by decide), mulM_def, h0]
    congr 1
    rw [Nat.add_zero, Nat.mul_left_comm, Nat.two_mul]
theorem fmul_fn {a b m : Nat} (ha : a < m) (hb : b < T256) (hm : m < T256) : FnV Tryd.prog G0 87 [uV a, uV b, uV m] (uV (mulM m a b)) := by
  have hbits := bits_fnH (g := 95) (f := mulM m a) (m := m) (a := a) hb (fun v t ht _ => by
    have := mul1_fnH ha (mulM_lt (m := m) (a := a) (b := v) (by omega)) hm (decide (t = 1))
    rw [mulM_step m a v t ht] at this
    exact this)
  have h0 : mulM m a 0 = 0 := by rw [mulM_def, Nat.mul_zero, Nat.zero_mod]
  rw [h0] at hbits
  unfold H3 at hbits
  rw [uC_lit (n := 0) (by decide)] at hbits
  refine fn_of_vwp Γok Tryd.func87 (by kernel_rfl) rfl (by simp [Tryd.ntmps87]) (wpv_ok Γok (by kernel_rfl) _ _ _ ?_); conv => whnf
  refine ⟨_, ret_fnH G0ok hbits [4, 2, 0] rfl rfl rfl rfl rfl ⟨⟨⟨trivial, _, rfl, rfl, rfl⟩, _, rfl, rfl, rfl⟩, _, rfl, rfl, rfl⟩ (outH3 _ _ _) rfl rfl (upd := [(4, some (uC (mulM m a b))), (2, some (uC m)), (0, some (uC a))]) (by rfl), ?_⟩
  conv => whnf
  try (refine ⟨by kernel_rfl, ?_⟩; conv => whnf)
  exact ⟨_, rfl, rfl⟩
end Go.Proofs.YtidkdlaihmpjfaaDoor
namespace Go.Proofs.YtidkdlaihmpjfaaDoor
set_option linter.unusedVariables false
set_option linter.unusedSimpArgs false
set_option linter.unusedSectionVars false
open Go.ChangeShapes Go.WideShapes Go.ChangeAt Go.RowKit Go.Joins
/-- u is an inverse of a by m. -/
def isInv (m a u : Nat) : Prop := u < m ∧ u * a % m = 1 % m
def dvd1 (m a u r : Nat) : Prop := (m : Int) ∣ (u : Int) * a - r
/-- The state of Euclid's steps. -/
def euclid (m a r s u t : Nat) : Prop := dvd1 m a u r ∧ dvd1 m a t s ∧ u < m ∧ t < m ∧ r ≤ m ∧ s < r ∧ Nat.gcd s r = Nat.gcd a m
theorem sub_int {m u q t : Nat} (hu : u < m) : ∃ k : Int, ((subM m u (mulM m (q % m) t) : Nat) : Int) = u - q * t + m * k := by
  have h1 : mulM m (q % m) t = q * t % m := by rw [mulM_def, Nat.mul_mod, Nat.mod_mod, ← Nat.mul_mod]
  have h2 : q * t % m < m := Nat.mod_lt _ (by omega)
  have h3 := Nat.div_add_mod (q * t) m
  rw [subM_def, h1]
  have h4 := Nat.div_add_mod (u + (m - q * t % m)) m
  refine ⟨1 + ((q * t / m : Nat) : Int) - (((u + (m - q * t % m)) / m : Nat) : Int), ?_⟩
  have h5 : ((u + (m - q * t % m) : Nat) : Int) = u + m - ((q * t % m : Nat) : Int) := by omega
  have h6 : ((m * (q * t / m) + q * t % m : Nat) : Int) = ((q * t : Nat) : Int) := by rw [h3]
  have h7 : ((m * ((u + (m - q * t % m)) / m) + (u + (m - q * t % m)) % m : Nat) : Int) = ((u + (m - q * t % m) : Nat) : Int) := by rw [h4]
  rw [h5] at h7
  push_cast at h6 h7 ⊢
  rw [Int.mul_sub, Int.mul_add, Int.mul_one]
  omega
theorem dvd_step {m a r s u t : Nat} (hu : u < m) (h1 : dvd1 m a u r) (h2 : dvd1 m a t s) : dvd1 m a (subM m u (mulM m (r / s % m) t)) (r % s) := by
  obtain ⟨k, hk⟩ := sub_int (m := m) (u := u) (q := r / s) (t := t) hu
  unfold dvd1 at *
  rw [hk]
  have h3 : ((r % s : Nat) : Int) = r - s * ((r / s : Nat) : Int) := by
    have := Nat.div_add_mod r s
    have h4 : ((s * (r / s) + r % s : Nat) : Int) = (r : Int) := by rw [this]
    push_cast at h4 ⊢
    omega
  rw [h3]
  have e : ((u : Int) - ((r / s : Nat) : Int) * t + m * k) * a - (r - s * ((r / s : Nat) : Int)) = ((u : Int) * a - r) - ((r / s : Nat) : Int) * ((t : Int) * a - s) + m * (k * a) := by
    rw [Int.add_mul, Int.sub_mul, Int.mul_sub, Int.mul_assoc (m : Int), Int.mul_assoc ((r / s : Nat) : Int), Int.mul_comm (s : Int)]
    omega
  rw [e]
  exact Int.dvd_add (Int.dvd_sub h1 (Int.dvd_mul_of_dvd_right h2)) (Int.dvd_mul_right _ _)
theorem euclid_step {m a r s u t : Nat} (h : euclid m a r s u t) (hs : 0 < s) : euclid m a s (r % s) t (subM m u (mulM m (r / s % m) t)) := by
  obtain ⟨h1, h2, h3, h4, h5, h6, h7⟩ := h
  refine ⟨h2, dvd_step h3 h1 h2, h4, subM_lt (by omega), by omega, Nat.mod_lt _ hs, ?_⟩
  rw [← h7]
  exact (Nat.gcd_rec s r).symm
theorem euclid_zero {m a : Nat} (ha : a < m) : euclid m a m a 0 (1 % m) := by
  refine ⟨?_, ?_, by omega, Nat.mod_lt _ (by omega), Nat.le_refl _, ha, rfl⟩
  · unfold dvd1
    refine ⟨-1, ?_⟩
    simp
  · unfold dvd1
    by_cases h : m = 1
    · subst h
      exact ⟨_, (Int.one_mul _).symm⟩
    · rw [Nat.mod_eq_of_lt (by omega)]
      refine ⟨0, ?_⟩
      simp
theorem mod_of_dvd {m x y : Nat} (h : (m : Int) ∣ (x : Int) - y) : x % m = y % m := by
  have := Int.emod_emod_of_dvd
  have h1 := (Int.emod_eq_emod_iff_emod_sub_eq_zero).2 (Int.emod_eq_zero_of_dvd h)
  omega
theorem euclid_end {m a r u t : Nat} (h : euclid m a r 0 u t) : r = Nat.gcd a m ∧ (r = 1 → isInv m a u) := by
  obtain ⟨h1, h2, h3, h4, h5, h6, h7⟩ := h
  rw [Nat.gcd_zero_left] at h7
  refine ⟨h7, fun e => ⟨h3, ?_⟩⟩
  subst e
  unfold dvd1 at h1
  refine mod_of_dvd ?_
  push_cast
  exact h1
theorem isInv_uniq {m a u v : Nat} (h : isInv m a u) (k : isInv m a v) : u = v := by
  obtain ⟨h1, h2⟩ := h
  obtain ⟨k1, k2⟩ := k
  have e1 : u * (v * a) % m = u % m := by rw [Nat.mul_mod, k2, ← Nat.mul_mod, Nat.mul_one]
  have e2 : v * (u * a) % m = v % m := by rw [Nat.mul_mod, h2, ← Nat.mul_mod, Nat.mul_one]
  rw [Nat.mul_left_comm, e2, Nat.mod_eq_of_lt h1, Nat.mod_eq_of_lt k1] at e1
  exact e1.symm
theorem inv_ex : ∃ f : Nat → Nat → Nat, ∀ m a, (∃ u, isInv m a u) → isInv m a (f m a) :=
  ⟨fun m a => @dite _ (∃ u, isInv m a u) (Classical.propDecidable _) (fun h => Classical.choose h) fun _ => 0, fun m a h => by
    dsimp only
    rw [dif_pos h]
    exact Classical.choose_spec h⟩
noncomputable def invM : Nat → Nat → Nat := Classical.choose inv_ex
theorem invM_of {m a u : Nat} (h : isInv m a u) : u = invM m a := isInv_uniq h (Classical.choose_spec inv_ex m a ⟨u, h⟩)
theorem inv_exists {m a : Nat} : ∀ (n s r u t : Nat), s ≤ n → euclid m a r s u t → Nat.gcd a m = 1 → ∃ u, isInv m a u := by
  intro n
  induction n with
  | zero =>
    intro s r u t hs h hg
    have : s = 0 := by omega
    subst this
    obtain ⟨h1, h2⟩ := euclid_end h
    exact ⟨u, h2 (by omega)⟩
  | succ n ih =>
    intro s r u t hs h hg
    by_cases h0 : s = 0
    · subst h0
      obtain ⟨h1, h2⟩ := euclid_end h
      exact ⟨u, h2 (by omega)⟩
    · have := Nat.mod_lt r (show 0 < s by omega)
      exact ih (r % s) s t _ (by omega) (euclid_step h (by omega)) hg
theorem invM_ok {m a : Nat} (ha : a < m) (hg : Nat.gcd a m = 1) : isInv m a (invM m a) := by
  obtain ⟨u, h⟩ := inv_exists a a m 0 _ (Nat.le_refl _) (euclid_zero ha) hg
  exact invM_of h ▸ h
theorem invM_back {m a : Nat} (ha : a < m) (hg : Nat.gcd a m = 1) : Nat.gcd (invM m a) m = 1 ∧ invM m (invM m a) = a := by
  obtain ⟨h1, h2⟩ := invM_ok ha hg
  have h3 : isInv m (invM m a) a := ⟨ha, by rw [Nat.mul_comm]; exact h2⟩
  refine ⟨?_, (invM_of h3).symm⟩
  have hd : Nat.gcd (invM m a) m ∣ 1 % m := by
    rw [← h2]
    refine (Nat.dvd_mod_iff (Nat.gcd_dvd_right _ _)).2 ?_
    exact Nat.dvd_trans (Nat.gcd_dvd_left _ _) (Nat.dvd_mul_right _ _)
  by_cases h : m = 1
  · subst h; rw [Nat.gcd_one_right]
  · rw [Nat.mod_eq_of_lt (show 1 < m by omega)] at hd
    exact Nat.dvd_one.1 hd
end Go.Proofs.YtidkdlaihmpjfaaDoor
