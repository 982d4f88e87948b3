/- Contracts of the functions below, by the engine. -/
import GoSem.Core.Value
import Derived.Test.YtlecdiopokalgaaVLaw
import Derived.WalkKit
import Derived.WalkSpells
import Derived.WalkLawsBesides
import Derived.Laws.Externs
namespace Go.Proofs.Ytlecdiopokalgaa
set_option linter.unusedVariables false
set_option linter.unusedSimpArgs false
set_option linter.unusedSectionVars false

def B64 : Nat := 18446744073709551616
def T256 : Nat := 2 ^ 256
theorem B64_eq : B64 = 2 ^ 64 := by decide
theorem T256_eq : T256 = B64 * B64 * B64 * B64 := by decide
theorem T256_lit : T256 = 115792089237316195423570985008687907853269984665640564039457584007913129639936 := by decide
theorem lim_ex : ∃ f : Nat → Nat → Nat, ∀ n i, f n i = n / B64 ^ i % B64 := ⟨_, fun _ _ => rfl⟩
noncomputable def lim : Nat → Nat → Nat := Classical.choose lim_ex
theorem lim_def (n i : Nat) : lim n i = n / B64 ^ i % B64 := Classical.choose_spec lim_ex n i
theorem lim_lt (n i : Nat) : lim n i < B64 := by rw [lim_def]; exact Nat.mod_lt _ (by decide)
/-- A number below 2^256 as the model holds it. -/
@[reducible] noncomputable def u256 (n : Nat) : Value := .agg #[.int .u64 (lim n 0), .int .u64 (lim n 1), .int .u64 (lim n 2), .int .u64 (lim n 3)]
def val4 (a b c d : Nat) : Nat := a + B64 * b + B64 * B64 * c + B64 * B64 * B64 * d
theorem lim_val4 {a b c d : Nat} (ha : a < B64) (hb : b < B64) (hc : c < B64) (hd : d < B64) :
    lim (val4 a b c d) 0 = a ∧ lim (val4 a b c d) 1 = b ∧ lim (val4 a b c d) 2 = c ∧ lim (val4 a b c d) 3 = d := by
  simp only [lim_def]
  unfold val4
  simp only [B64] at *
  refine ⟨?_, ?_, ?_, ?_⟩ <;> omega
theorem val4_lim {n : Nat} (h : n < T256) : val4 (lim n 0) (lim n 1) (lim n 2) (lim n 3) = n := by
  rw [T256_eq] at h
  simp only [lim_def]
  unfold val4
  simp only [B64] at *
  omega
theorem val4_lt {a b c d : Nat} (ha : a < B64) (hb : b < B64) (hc : c < B64) (hd : d < B64) : val4 a b c d < T256 := by
  rw [T256_eq]
  unfold val4
  simp only [B64] at *
  omega
theorem u256_val4 {a b c d : Nat} (ha : a < B64) (hb : b < B64) (hc : c < B64) (hd : d < B64) :
    u256 (val4 a b c d) = .agg #[.int .u64 a, .int .u64 b, .int .u64 c, .int .u64 d] := by
  obtain ⟨h0, h1, h2, h3⟩ := lim_val4 ha hb hc hd
  unfold u256
  rw [h0, h1, h2, h3]
/-- Every number is its limbs. -/
theorem limbs {n : Nat} (h : n < T256) : ∃ a b c d, a < B64 ∧ b < B64 ∧ c < B64 ∧ d < B64 ∧ n = val4 a b c d :=
  ⟨_, _, _, _, lim_lt n 0, lim_lt n 1, lim_lt n 2, lim_lt n 3, (val4_lim h).symm⟩

theorem addS_ex : ∃ f : Nat → Nat → Nat, ∀ a b, f a b = (a + b) % T256 := ⟨_, fun _ _ => rfl⟩
noncomputable def addS : Nat → Nat → Nat := Classical.choose addS_ex
theorem addS_def (a b : Nat) : addS a b = (a + b) % T256 := Classical.choose_spec addS_ex a b
theorem addO_ex : ∃ f : Nat → Nat → Bool, ∀ a b, f a b = decide (T256 ≤ a + b) := ⟨_, fun _ _ => rfl⟩
noncomputable def addO : Nat → Nat → Bool := Classical.choose addO_ex
theorem addO_def (a b : Nat) : addO a b = decide (T256 ≤ a + b) := Classical.choose_spec addO_ex a b
theorem subS_ex : ∃ f : Nat → Nat → Nat, ∀ a b, f a b = (a + T256 - b) % T256 := ⟨_, fun _ _ => rfl⟩
noncomputable def subS : Nat → Nat → Nat := Classical.choose subS_ex
theorem subS_def (a b : Nat) : subS a b = (a + T256 - b) % T256 := Classical.choose_spec subS_ex a b
theorem subO_ex : ∃ f : Nat → Nat → Bool, ∀ a b, f a b = decide (a < b) := ⟨_, fun _ _ => rfl⟩
noncomputable def subO : Nat → Nat → Bool := Classical.choose subO_ex
theorem subO_def (a b : Nat) : subO a b = decide (a < b) := Classical.choose_spec subO_ex a b
theorem addS_lt (a b : Nat) : addS a b < T256 := by rw [addS_def]; exact Nat.mod_lt _ (by decide)
theorem subS_lt (a b : Nat) : subS a b < T256 := by rw [subS_def]; exact Nat.mod_lt _ (by decide)

def acc (x y c : Nat) : Nat := (x + y + c) % B64
def car (x y c : Nat) : Nat := (x + y + c) / B64
theorem acc_lt (x y c : Nat) : acc x y c < B64 := Nat.mod_lt _ (by decide)
theorem car_le {x y c : Nat} (hx : x < B64) (hy : y < B64) (hc : c ≤ 1) : car x y c ≤ 1 := by
  unfold car; simp only [B64] at *; omega
theorem acc_car (x y c : Nat) : x + y + c = acc x y c + B64 * car x y c := (Nat.mod_add_div _ _).symm
theorem add_val4 {a0 a1 a2 a3 b0 b1 b2 b3 s0 s1 s2 s3 c1 c2 c3 c4 : Nat}
    (l0 : s0 < B64) (l1 : s1 < B64) (l2 : s2 < B64) (l3 : s3 < B64) (lc : c4 ≤ 1)
    (e0 : a0 + b0 + 0 = s0 + B64 * c1) (e1 : a1 + b1 + c1 = s1 + B64 * c2) (e2 : a2 + b2 + c2 = s2 + B64 * c3) (e3 : a3 + b3 + c3 = s3 + B64 * c4) :
    addS (val4 a0 a1 a2 a3) (val4 b0 b1 b2 b3) = val4 s0 s1 s2 s3 ∧ addO (val4 a0 a1 a2 a3) (val4 b0 b1 b2 b3) = (c4 == 1) := by
  have hl := val4_lt l0 l1 l2 l3
  have e : val4 a0 a1 a2 a3 + val4 b0 b1 b2 b3 = val4 s0 s1 s2 s3 + T256 * c4 := by
    rw [T256_eq]; unfold val4; simp only [B64] at *; omega
  rw [addS_def, addO_def]
  rw [e]
  have h : c4 = 0 ∨ c4 = 1 := by omega
  rcases h with rfl | rfl
  · refine ⟨by simp [Nat.mod_eq_of_lt hl], by simp; omega⟩
  · refine ⟨by simp [Nat.mod_eq_of_lt hl], by simp⟩
def dif (x y b : Nat) : Nat := (x + B64 - y - b) % B64
def bor (x y b : Nat) : Nat := if x < y + b then 1 else 0
theorem dif_lt (x y b : Nat) : dif x y b < B64 := Nat.mod_lt _ (by decide)
theorem bor_le (x y b : Nat) : bor x y b ≤ 1 := by unfold bor; split <;> omega
theorem dif_bor {x y b : Nat} (hx : x < B64) (hy : y < B64) (hb : b ≤ 1) : x + B64 * bor x y b = y + b + dif x y b := by
  unfold bor dif; simp only [B64] at *; split <;> omega
theorem sub_val4 {a0 a1 a2 a3 b0 b1 b2 b3 : Nat} (k0 : a0 < B64) (k1 : a1 < B64) (k2 : a2 < B64) (k3 : a3 < B64) (m0 : b0 < B64) (m1 : b1 < B64) (m2 : b2 < B64) (m3 : b3 < B64) :
    subS (val4 a0 a1 a2 a3) (val4 b0 b1 b2 b3) = val4 (dif a0 b0 0) (dif a1 b1 (bor a0 b0 0)) (dif a2 b2 (bor a1 b1 (bor a0 b0 0))) (dif a3 b3 (bor a2 b2 (bor a1 b1 (bor a0 b0 0)))) ∧
    subO (val4 a0 a1 a2 a3) (val4 b0 b1 b2 b3) = (bor a3 b3 (bor a2 b2 (bor a1 b1 (bor a0 b0 0))) == 1) := by
  have e0 := dif_bor k0 m0 (b := 0) (by omega)
  have e1 := dif_bor k1 m1 (bor_le a0 b0 0)
  have e2 := dif_bor k2 m2 (bor_le a1 b1 (bor a0 b0 0))
  have e3 := dif_bor k3 m3 (bor_le a2 b2 (bor a1 b1 (bor a0 b0 0)))
  have hl := val4_lt (dif_lt a0 b0 0) (dif_lt a1 b1 (bor a0 b0 0)) (dif_lt a2 b2 (bor a1 b1 (bor a0 b0 0))) (dif_lt a3 b3 (bor a2 b2 (bor a1 b1 (bor a0 b0 0))))
  have la := val4_lt k0 k1 k2 k3
  have lb := val4_lt m0 m1 m2 m3
  have hc := bor_le a3 b3 (bor a2 b2 (bor a1 b1 (bor a0 b0 0)))
  generalize bor a3 b3 (bor a2 b2 (bor a1 b1 (bor a0 b0 0))) = c4 at *
  generalize dif a3 b3 (bor a2 b2 (bor a1 b1 (bor a0 b0 0))) = d3 at *
  generalize bor a2 b2 (bor a1 b1 (bor a0 b0 0)) = c3 at *
  generalize dif a2 b2 (bor a1 b1 (bor a0 b0 0)) = d2 at *
  generalize bor a1 b1 (bor a0 b0 0) = c2 at *
  generalize dif a1 b1 (bor a0 b0 0) = d1 at *
  generalize bor a0 b0 0 = c1 at *
  generalize dif a0 b0 0 = d0 at *
  have e : val4 a0 a1 a2 a3 + T256 * c4 = val4 b0 b1 b2 b3 + val4 d0 d1 d2 d3 := by
    rw [T256_eq]; unfold val4; simp only [B64] at *; omega
  generalize val4 a0 a1 a2 a3 = A at *
  generalize val4 b0 b1 b2 b3 = B at *
  generalize val4 d0 d1 d2 d3 = D at *
  rw [subS_def, subO_def]
  have h : c4 = 0 ∨ c4 = 1 := by omega
  rcases h with rfl | rfl
  · refine ⟨?_, by simp; omega⟩
    rw [show A + T256 - B = D + T256 by omega, Nat.add_mod_right, Nat.mod_eq_of_lt hl]
  · refine ⟨?_, by simp; omega⟩
    rw [show A + T256 - B = D by omega, Nat.mod_eq_of_lt hl]
theorem beq_one (n : Nat) : ((n : Int) == 1) = (n == 1) := by
  rw [Bool.eq_iff_iff]; simp only [beq_iff_eq]; omega
end Go.Proofs.Ytlecdiopokalgaa
namespace Go.Proofs.Ytlecdiopokalgaa
set_option linter.unusedVariables false
set_option linter.unusedSimpArgs false
set_option linter.unusedSectionVars false
open Go.ChangeShapes Go.WideShapes Go.ChangeAt Go.RowKit Go.Joins
set_option maxRecDepth 10000
theorem fn_calls {P : Program} {G : Globs} {g : FuncId} {fn : Func} {code : Code} (hf : P.funcs[g]? = some fn) (hname : (fn.name == "runtime.NumGoroutine") = false) (hb : fn.body = some code) {us : List Value} {r : Value} {d : VV}
    (h : ∀ w, Calls P g us.toArray w fun e w' => e = .returned r ∧ w = w') (hd : ∀ E, VR E d r) : FnV P G g (us.map .v) d := by
  intro w A args _ ha
  have h1 : args.toList = us := VRs_v ha
  obtain rfl : args = us.toArray := by rw [← h1]
  have hent : (callFunc g us.toArray).run P w = .ok (.enter g us.toArray) w := by
    have h1 : fn.name ≠ "runtime.NumGoroutine" := by simpa using hname
    simp [callFunc, hf, h1, hb]
  unfold FGoes
  rw [hent]
  refine Calls.mono (h w) fun e w' ⟨he, hw⟩ => ⟨r, he, hd _, ?_⟩
  subst hw
  exact Below.refl _ _
theorem fn_val {P : Program} {G : Globs} {g : FuncId} {us : List Value} {r : Value} {d : VV} (h : ∀ w, (callFunc g us.toArray).run P w = .ok (.value r) w) (hd : ∀ E, VR E d r) : FnV P G g (us.map .v) d := by
  intro w A args _ ha
  have h1 : args.toList = us := VRs_v ha
  obtain rfl : args = us.toArray := by rw [← h1]
  unfold FGoes
  rw [h w]
  exact ⟨hd _, Below.refl _ _⟩
theorem callAdd64 {x y c : Nat} (hc : c ≤ 1) (w : World) :
    (callFunc 63 #[.int .u64 x, .int .u64 y, .int .u64 c]).run Try.prog w = .ok (.value (.tuple #[.int .u64 (acc x y c), .int .u64 (car x y c)])) w := by
  rw [run_callFunc_extern Try.func63 (by kernel_rfl) (by kernel_rfl) (by kernel_rfl) (e := add64Entry) (by kernel_rfl), run_add64 x y c (by omega) (by omega) (by omega) (by omega)]
  simp only [Result.andThen, acc, car, B64]
  congr 5 <;> omega
theorem add64_fn {x y c : Nat} (hc : c ≤ 1) : FnV Try.prog G0 63 [nI .u64 x, nI .u64 y, nI .u64 c] (.tup [nI .u64 (acc x y c), nI .u64 (car x y c)]) :=
  fn_val (us := [.int .u64 x, .int .u64 y, .int .u64 c]) (callAdd64 hc) (fun E => by simp [VR, VRs, nI])
noncomputable def uV (n : Nat) : VV := .agg (words [lim n 0, lim n 1, lim n 2, lim n 3])
theorem uV_val4 {a b c d : Nat} (ha : a < B64) (hb : b < B64) (hc : c < B64) (hd : d < B64) : uV (val4 a b c d) = .agg (words [a, b, c, d]) := by
  obtain ⟨h0, h1, h2, h3⟩ := lim_val4 ha hb hc hd
  simp only [uV, h0, h1, h2, h3]
theorem add_fn4 (a0 a1 a2 a3 b0 b1 b2 b3 c1 c2 c3 : Nat) (h1 : car a0 b0 0 = c1) (h2 : car a1 b1 c1 = c2) (h3 : car a2 b2 c2 = c3) (k1 : c1 ≤ 1) (k2 : c2 ≤ 1) (k3 : c3 ≤ 1) :
    FnV Try.prog G0 32 [.agg (words [a0, a1, a2, a3]), .agg (words [b0, b1, b2, b3])]
      (.tup [.agg (words [acc a0 b0 0, acc a1 b1 c1, acc a2 b2 c2, acc a3 b3 c3]), bI (((car a3 b3 c3 : Nat) : Int) == 1)]) := by
  refine fn_of_vwp Γok Try.func32 (by kernel_rfl) rfl (by simp [Try.ntmps32]) (wpv_ok Γok (by kernel_rfl) _ _ _ ?_); conv => whnf
  refine vloop_unroll ?_
  refine wpv_ok Γok (by kernel_rfl) _ _ _ ?_; conv => whnf
  refine ⟨_, ret_of_fn G0ok (add64_fn (x := a0) (y := b0) (c := 0) (by omega)) (by rfl) rfl, ?_⟩; conv => whnf
  refine ⟨by kernel_rfl, ?_⟩
  rw [h1]
  conv => whnf
  refine vloop_unroll ?_
  refine wpv_ok Γok (by kernel_rfl) _ _ _ ?_; conv => whnf
  rw [ws_i64 (by omega) (by omega)]
  conv => whnf
  refine ⟨_, ret_of_fn G0ok (add64_fn (x := a1) (y := b1) k1) (by rfl) rfl, ?_⟩; conv => whnf
  refine ⟨by kernel_rfl, ?_⟩
  rw [h2]
  conv => whnf
  refine vloop_unroll ?_
  refine wpv_ok Γok (by kernel_rfl) _ _ _ ?_; conv => whnf
  rw [ws_i64 (by omega) (by omega)]
  conv => whnf
  refine ⟨_, ret_of_fn G0ok (add64_fn (x := a2) (y := b2) k2) (by rfl) rfl, ?_⟩; conv => whnf
  refine ⟨by kernel_rfl, ?_⟩
  rw [h3]
  conv => whnf
  refine vloop_unroll ?_
  refine wpv_ok Γok (by kernel_rfl) _ _ _ ?_; conv => whnf
  rw [ws_i64 (by omega) (by omega)]
  conv => whnf
  refine ⟨_, ret_of_fn G0ok (add64_fn (x := a3) (y := b3) k3) (by rfl) rfl, ?_⟩; conv => whnf
  refine ⟨by kernel_rfl, ?_⟩
  conv => whnf
  refine vloop_unroll ?_
  refine wpv_ok Γok (by kernel_rfl) _ _ _ ?_; conv => whnf
  rw [ws_i64 (by omega) (by omega)]
  conv => whnf
  exact ⟨_, rfl, rfl⟩
theorem add_fn {a b : Nat} (ha : a < T256) (hb : b < T256) : FnV Try.prog G0 32 [uV a, uV b] (.tup [uV (addS a b), bI (addO a b)]) := by
  obtain ⟨a0, a1, a2, a3, k0, k1, k2, k3, rfl⟩ := limbs ha
  obtain ⟨b0, b1, b2, b3, m0, m1, m2, m3, rfl⟩ := limbs hb
  have q1 := car_le k0 m0 (c := 0) (by omega)
  have q2 := car_le k1 m1 q1
  have q3 := car_le k2 m2 q2
  have q4 := car_le k3 m3 q3
  obtain ⟨e1, e2⟩ := add_val4 (acc_lt a0 b0 0) (acc_lt a1 b1 _) (acc_lt a2 b2 _) (acc_lt a3 b3 _) q4 (acc_car _ _ _) (acc_car _ _ _) (acc_car _ _ _) (acc_car _ _ _)
  rw [e1, e2, ← beq_one, uV_val4 k0 k1 k2 k3, uV_val4 m0 m1 m2 m3, uV_val4 (acc_lt _ _ _) (acc_lt _ _ _) (acc_lt _ _ _) (acc_lt _ _ _)]
  exact add_fn4 a0 a1 a2 a3 b0 b1 b2 b3 _ _ _ rfl rfl rfl q1 q2 q3
end Go.Proofs.Ytlecdiopokalgaa
namespace Go.Proofs.Ytlecdiopokalgaa
set_option linter.unusedVariables false
set_option linter.unusedSimpArgs false
set_option linter.unusedSectionVars false
open Go.ChangeShapes Go.WideShapes Go.ChangeAt Go.RowKit Go.Joins
set_option maxRecDepth 10000
theorem eq_loop {P : Program} {w : World} (f : Nat → Sem Bool) (q : Nat → Bool) : ∀ (l : List Nat), (∀ k ∈ l, (f k).run P w = .ok (q k) w) →
    (forIn l (none, ()) fun (i : Nat) (_ : Option Bool × Unit) => (do
      let b ← f i
      if (!b) = true then pure (ForInStep.done (some false, ())) else pure (ForInStep.yield (none, ())) : Sem (ForInStep (Option Bool × Unit)))).run P w = .ok (if l.all q then (none, ()) else (some false, ())) w
  | [], _ => by simp
  | k :: l, h => by
    have h1 := h k (by simp)
    have h2 := eq_loop f q l fun k hk => h k (by simp [hk])
    rw [List.forIn_cons]
    cases hq : q k with
    | true =>
      rw [hq] at h1
      simp only [Sem.run_bind, h1, Result.andThen_ok, Bool.not_true, Bool.false_eq_true, if_false, Sem.run_pure, List.all_cons, hq, Bool.true_and]
      exact h2
    | false =>
      rw [hq] at h1
      simp only [Sem.run_bind, h1, Result.andThen_ok, Bool.not_false, if_true, Sem.run_pure, List.all_cons, hq, Bool.false_and, Bool.false_eq_true, if_false]
theorem equal_arr {P : Program} {Γ : Tab} (hΓ : TabOk P Γ) {t e : TypeId} {n : Nat} {r : TR} (ht : P.underlying t = some (.array n e)) (he : Γ e = some r) (us vs : Array Value) (q : Nat → Bool) (d : Nat) (w : World)
    (hq : ∀ k, k < n → (do let x ← part e us (k * r.size); let y ← part e vs (k * r.size); Op.equalIn d e x y : Sem Bool).run P w = .ok (q k) w) :
    (Op.equalIn (d + 1) t (.agg us) (.agg vs)).run P w = .ok ((List.range n).all q) w := by
  have h := eq_loop (P := P) (w := w) (fun k => (do let x ← part e us (k * r.size); let y ← part e vs (k * r.size); Op.equalIn d e x y : Sem Bool)) q (List.range n) (fun k hk => hq k (by simpa using hk))
  unfold Op.equalIn
  simp only [Sem.run_bind, run_underlying ht, Result.andThen_ok]
  simp only [Std.Legacy.Range.forIn_eq_forIn_range', Std.Legacy.Range.size, Nat.sub_zero, Nat.add_sub_cancel, Nat.div_one]
  rw [run_sizeOf_tab hΓ he, Result.andThen_ok, ← List.range_eq_range']
  simp only [bind_assoc] at h
  rw [h, Result.andThen_ok]
  cases (List.range n).all q <;> simp
theorem VRs_same (E : Env) : ∀ us : List Value, VRs E (us.map VV.v) us
  | [] => by simp [VRs]
  | u :: us => VRs.cons rfl (VRs_same E us)
theorem equal_words {P : Program} {Γ : Tab} (hΓ : TabOk P Γ) {t e : TypeId} {n : Nat} {k : IntKind} {r : TR} (ht : P.underlying t = some (.array n e)) (he : Γ e = some r) (hr : r.d = .int k) (hs : r.size = 1) (hd : P.underlying e = some (.int k)) (l m : List Int) (hl : l.length = n) (hm : m.length = n) (d : Nat) (w : World) :
    (Op.equalIn (d + 2) t (.agg (l.map fun x => Value.int k x).toArray) (.agg (m.map fun x => Value.int k x).toArray)).run P w = .ok (decide (l = m)) w := by
  have hpart : ∀ (l : List Int) (i : Nat), i < l.length → (part e (l.map fun x => Value.int k x).toArray (i * r.size)).run P w = .ok (.int k (l.getD i 0)) w := by
    intro l i hi
    have h1 : vpart Γ e ((l.map fun x => Value.int k x).map VV.v) (i * r.size) = some (.v (.int k (l.getD i 0))) := by
      unfold vpart
      rw [he]
      simp only [hr, TD.agg, hs, Nat.mul_one]
      simp [List.getElem?_eq_getElem hi, List.getD]
    obtain ⟨u, h2, h3⟩ := vpart_ok hΓ (E := E0 w (fun _ => False)) h1 (VRs_same _ _) (by intro u hu; simp only [List.mem_map] at hu; obtain ⟨x, _, rfl⟩ := hu; rfl) w
    simp only [VR] at h3
    rw [h2, h3]
  have h := equal_arr hΓ (d := d + 1) ht he (l.map fun x => Value.int k x).toArray (m.map fun x => Value.int k x).toArray (fun i => l.getD i 0 == m.getD i 0) w (fun i hi => by
    simp only [Sem.run_bind, hpart l i (by omega), hpart m i (by omega), Result.andThen_ok]
    unfold Op.equalIn
    simp [run_underlying hd])
  rw [h]
  congr 1
  rw [Bool.eq_iff_iff, List.all_eq_true, decide_eq_true_iff]
  constructor
  · intro h
    refine List.ext_getElem (by omega) fun i h1 h2 => ?_
    have := h i (by simp; omega)
    simpa [List.getD, List.getElem?_eq_getElem h1, List.getElem?_eq_getElem h2] using this
  · rintro rfl i _
    simp
theorem eqAgg_ints {P : Program} {Γ : Tab} (hΓ : TabOk P Γ) {t e : TypeId} {n : Nat} {k : IntKind} {r : TR} (ht : P.underlying t = some (.array n e)) (he : Γ e = some r) (hr : r.d = .int k) (hs : r.size = 1) (hd : P.underlying e = some (.int k))
    (hg : P.eqGuardType P.depth t = false) (l m : List Int) (hl : l.length = n) (hm : m.length = n) : EqAgg P .eql t (l.map fun x => nI k x) (m.map fun x => nI k x) (decide (l = m)) := by
  refine ⟨l.map fun x => .int k x, m.map fun x => .int k x, by simp [nI], by simp [nI], fun ox oy w => ?_⟩
  have h := equal_words hΓ ht he hr hs hd l m hl hm 9998 w
  have hg1 : (eqGuard .eql t ox oy (.agg (l.map fun x => Value.int k x).toArray) (.agg (m.map fun x => Value.int k x).toArray)).run P w = .ok () w := by
    unfold eqGuard
    simp [hg]
  simp only [Sem.run_bind, hg1, Result.andThen_ok]
  show (do let b ← Op.equal t _ _; pure (Value.bool b) : Sem Value).run P w = _
  simp only [Sem.run_bind]
  rw [show (Op.equal t (.agg (l.map fun x => Value.int k x).toArray) (.agg (m.map fun x => Value.int k x).toArray)).run P w = .ok (decide (l = m)) w from h]
  simp
theorem eqAgg_ints_ne {P : Program} {Γ : Tab} (hΓ : TabOk P Γ) {t e : TypeId} {n : Nat} {k : IntKind} {r : TR} (ht : P.underlying t = some (.array n e)) (he : Γ e = some r) (hr : r.d = .int k) (hs : r.size = 1) (hd : P.underlying e = some (.int k))
    (hg : P.eqGuardType P.depth t = false) (l m : List Int) (hl : l.length = n) (hm : m.length = n) : EqAgg P .neq t (l.map fun x => nI k x) (m.map fun x => nI k x) (!decide (l = m)) := by
  refine ⟨l.map fun x => .int k x, m.map fun x => .int k x, by simp [nI], by simp [nI], fun ox oy w => ?_⟩
  have h := equal_words hΓ ht he hr hs hd l m hl hm 9998 w
  have hg1 : (eqGuard .neq t ox oy (.agg (l.map fun x => Value.int k x).toArray) (.agg (m.map fun x => Value.int k x).toArray)).run P w = .ok () w := by
    unfold eqGuard
    simp [hg]
  simp only [Sem.run_bind, hg1, Result.andThen_ok]
  show (do let b ← Op.equal t _ _; pure (Value.bool (!b)) : Sem Value).run P w = _
  simp only [Sem.run_bind]
  rw [show (Op.equal t (.agg (l.map fun x => Value.int k x).toArray) (.agg (m.map fun x => Value.int k x).toArray)).run P w = .ok (decide (l = m)) w from h]
  simp
/-- '==' of two numbers of 256 bits. -/
theorem words_map (l : List Nat) : words l = (l.map fun (x : Nat) => (x : Int)).map fun x => nI .u64 x := by simp [words]
theorem map_cast_eq (l m : List Nat) : (l.map (fun (x : Nat) => (x : Int)) = m.map fun (x : Nat) => (x : Int)) ↔ l = m := by
  refine ⟨fun h => ?_, fun h => by rw [h]⟩
  have := congrArg (List.map Int.toNat) h
  simpa [List.map_map, Function.comp_def] using this
theorem uV_inj {a b : Nat} (ha : a < T256) (hb : b < T256) (h : [lim a 0, lim a 1, lim a 2, lim a 3] = [lim b 0, lim b 1, lim b 2, lim b 3]) : a = b := by
  simp only [List.cons.injEq, and_true] at h
  rw [← val4_lim ha, ← val4_lim hb, h.1, h.2.1, h.2.2.1, h.2.2.2]
noncomputable def uC (n : Nat) : List VV := words [lim n 0, lim n 1, lim n 2, lim n 3]
theorem eq_uC {a b : Nat} (ha : a < T256) (hb : b < T256) : EqAgg Try.prog .eql 42 (uC a) (uC b) (decide (a = b)) := by
  have h := eqAgg_ints (k := .u64) Γok (t := 42) (e := 40) Try.underlying42 rfl rfl rfl Try.underlying40 (by kernel_rfl) ([lim a 0, lim a 1, lim a 2, lim a 3].map fun (x : Nat) => (x : Int)) ([lim b 0, lim b 1, lim b 2, lim b 3].map fun (x : Nat) => (x : Int)) rfl rfl
  rw [← words_map, ← words_map] at h
  rw [show decide (a = b) = decide ([lim a 0, lim a 1, lim a 2, lim a 3].map (fun (x : Nat) => (x : Int)) = [lim b 0, lim b 1, lim b 2, lim b 3].map fun (x : Nat) => (x : Int)) from decide_eq_decide.2 ⟨fun h => by rw [h], fun h => uV_inj ha hb ((map_cast_eq _ _).1 h)⟩]
  exact h
theorem ne_uC {a b : Nat} (ha : a < T256) (hb : b < T256) : EqAgg Try.prog .neq 42 (uC a) (uC b) (!decide (a = b)) := by
  have h := eqAgg_ints_ne (k := .u64) Γok (t := 42) (e := 40) Try.underlying42 rfl rfl rfl Try.underlying40 (by kernel_rfl) ([lim a 0, lim a 1, lim a 2, lim a 3].map fun (x : Nat) => (x : Int)) ([lim b 0, lim b 1, lim b 2, lim b 3].map fun (x : Nat) => (x : Int)) rfl rfl
  rw [← words_map, ← words_map] at h
  rw [show decide (a = b) = decide ([lim a 0, lim a 1, lim a 2, lim a 3].map (fun (x : Nat) => (x : Int)) = [lim b 0, lim b 1, lim b 2, lim b 3].map fun (x : Nat) => (x : Int)) from decide_eq_decide.2 ⟨fun h => by rw [h], fun h => uV_inj ha hb ((map_cast_eq _ _).1 h)⟩]
  exact h
theorem uC_lit {n : Nat} (h : n < B64) : uC n = words [n, 0, 0, 0] := by
  have := lim_val4 (a := n) (b := 0) (c := 0) (d := 0) h (by decide) (by decide) (by decide)
  rw [show val4 n 0 0 0 = n by unfold val4; omega] at this
  unfold uC
  rw [this.1, this.2.1, this.2.2.1, this.2.2.2]
end Go.Proofs.Ytlecdiopokalgaa
namespace Go.Proofs.Ytlecdiopokalgaa
set_option linter.unusedVariables false
set_option linter.unusedSimpArgs false
set_option linter.unusedSectionVars false
open Go.ChangeShapes Go.WideShapes Go.ChangeAt Go.RowKit Go.Joins
set_option maxRecDepth 10000
/-- Cells of bytes. -/
def bts (l : List Nat) : List VV := l.map fun (x : Nat) => nI .u8 x
def bt (l : List Nat) (i : Nat) : Nat := l.getD (i / 8) 0 / 2 ^ (8 * (i % 8)) % 256
def btsTo (l : List Nat) (i : Nat) : List Nat := (List.range 32).map fun j => if 32 - i ≤ j then bt l (31 - j) else 0
theorem bts_noHs (l : List Nat) : noHs (bts l) = true := noHs_map (fun _ => rfl) l
theorem bts_length (l : List Nat) : (bts l).length = l.length := by simp [bts]
theorem bts_set (l : List Nat) (i x : Nat) : (bts l).set i (nI .u8 (x : Int)) = bts (l.set i x) := by simp [bts, List.map_set]
theorem splice_bts {l : List Nat} {j i x : Nat} (h : j = i) (hi : i < l.length) : (bts l).set j (VV.v (.int .u8 (x : Int))) = bts (l.set i x) := by
  subst h
  exact bts_set l j x
theorem btsTo_length (l : List Nat) (i : Nat) : (btsTo l i).length = 32 := by simp [btsTo]
theorem btsTo_set (l : List Nat) (i : Nat) (h : i < 32) : (btsTo l i).set (31 - i) (bt l i) = btsTo l (i + 1) := by
  refine List.ext_getElem (by simp [btsTo]) fun j h1 h2 => ?_
  have hj : j < 32 := by simpa [btsTo] using h2
  simp only [btsTo, List.getElem_set, List.getElem_map, List.getElem_range]
  by_cases e : 31 - i = j
  · rw [if_pos e, if_pos (by omega), show 31 - j = i by omega]
  · rw [if_neg e]
    by_cases e2 : 32 - i ≤ j
    · rw [if_pos e2, if_pos (by omega)]
    · rw [if_neg e2, if_neg (by omega)]
theorem bytes_fn (l : List Nat) (hl : l.length = 4) (hb : ∀ x ∈ l, x < 2 ^ 64) : FnV Try.prog G0 46 [.agg (words l)] (.agg (bts (btsTo l 32))) := by
  refine fn_of_vwp Γok Try.func46 (by kernel_rfl) rfl (by simp [Try.ntmps46]) (wpv_ok Γok (by kernel_rfl) _ _ _ ?_); conv => whnf
  refine vloop_invP (X := Nat) (fun i => ⟨[(5, nI .i64 i), (3, .ptr 2 0), (2, .ptr 1 0), (1, .ptr 0 0)], Try.f46.ntmps, [(2, some (bts (btsTo l i))), (1, some (List.replicate 32 (nI .u8 0))), (0, some (words l))], 3⟩)
    (fun i => i ≤ 32) (fun i => 32 - i) 0
    (sub_conv G0ok [(0, some 0), (1, some 1), (2, some 2)] rfl rfl ⟨⟨_, rfl, conv_nI rfl⟩, ⟨_, rfl, .ptr rfl⟩, ⟨_, rfl, .ptr rfl⟩, ⟨_, rfl, .ptr rfl⟩, trivial⟩
      ⟨.inr ⟨_, _, rfl, rfl, convs_eq rfl (bts_noHs _)⟩, .inr ⟨_, _, rfl, rfl, convs_eq rfl rfl⟩, .inr ⟨_, _, rfl, rfl, convs_eq rfl (words_noHs _)⟩, trivial⟩) (Nat.zero_le _) ?_
  intro i hi
  dsimp only at hi ⊢
  refine wpv_ok Γok (by kernel_rfl) _ _ _ ?_; conv => whnf
  refine bool_cases (fun hc => ?_) (fun hc => ?_)
  · have hc := of_decide_eq_true hc
    conv => whnf
    rw [Int.tdiv_eq_ediv_of_nonneg (by omega), ws_i64 (x := (i : Int) / 8) (by omega) (by omega)]
    conv => whnf
    refine bindP_intro (if_pos (inB_ok (by omega) (by omega))) ?_; conv => whnf
    refine bindP_intro (words_ix (i := i / 8) (by dsimp only; omega) (by omega)) ?_
    conv => whnf
    rw [Int.tmod_eq_emod_of_nonneg (by omega), ws_i64 (x := 8 * ((i : Int) % 8)) (by omega) (by omega), show 8 * ((i : Int) % 8) = ((8 * (i % 8) : Nat) : Int) from by omega]
    conv => whnf
    have hx := getD_lt (by omega) hb (i / 8)
    rw [shr_val (k := .u64) (x := l.getD (i / 8) 0) (n := 8 * (i % 8)) (by simp only [IntKind.bits]; omega), ws_u8, show (((l.getD (i / 8) 0 / 2 ^ (8 * (i % 8)) : Nat) : Int) % 256) = ((bt l i : Nat) : Int) from by unfold bt; push_cast; rfl]
    rw [ws_i64 (x := 31 - (i : Int)) (by omega) (by omega)]
    conv => whnf
    refine bindP_intro (if_pos (inB_ok (by omega) (by omega))) ?_; conv => whnf
    refine onlyIf_intro ?_ ?_
    · simp [bts_length, btsTo_length]
    conv => whnf
    rw [splice_bts (i := 31 - i) (by dsimp only; omega) (by rw [btsTo_length]; omega), btsTo_set l i (by omega)]
    conv => whnf
    refine ⟨i + 1, sub_conv G0ok [(0, some 0), (1, some 1), (2, some 2)] rfl rfl ⟨⟨_, rfl, conv_nI (ws_i64 (by omega) (by omega))⟩, ⟨_, rfl, .ptr rfl⟩, ⟨_, rfl, .ptr rfl⟩, ⟨_, rfl, .ptr rfl⟩, trivial⟩
      ⟨.inr ⟨_, _, rfl, rfl, convs_eq rfl (bts_noHs _)⟩, .inr ⟨_, _, rfl, rfl, convs_eq rfl rfl⟩, .inr ⟨_, _, rfl, rfl, convs_eq rfl (words_noHs _)⟩, trivial⟩, by omega, by omega⟩
  · have hc := of_decide_eq_false hc
    have hi2 : i = 32 := by omega
    subst hi2
    conv => whnf
    exact ⟨_, rfl, rfl⟩
theorem bts_map (l : List Nat) : bts l = (l.map fun (x : Nat) => (x : Int)).map fun x => nI .u8 x := by simp [bts]
theorem eq_b32 {l m : List Nat} (hl : l.length = 32) (hm : m.length = 32) : EqAgg Try.prog .eql 26 (bts l) (bts m) (decide (l = m)) := by
  have h := eqAgg_ints (k := .u8) Γok (t := 26) (e := 5) Try.underlying26 rfl rfl rfl Try.underlying5 (by kernel_rfl) (l.map fun (x : Nat) => (x : Int)) (m.map fun (x : Nat) => (x : Int)) (by simpa using hl) (by simpa using hm)
  rw [← bts_map, ← bts_map] at h
  rw [show decide (l = m) = decide ((l.map fun (x : Nat) => (x : Int)) = m.map fun (x : Nat) => (x : Int)) from decide_eq_decide.2 (map_cast_eq _ _).symm]
  exact h
end Go.Proofs.Ytlecdiopokalgaa
namespace Go.Proofs.Ytlecdiopokalgaa
set_option linter.unusedVariables false
set_option linter.unusedSimpArgs false
set_option linter.unusedSectionVars false
open Go.ChangeShapes Go.WideShapes Go.ChangeAt Go.RowKit Go.Joins
def rows {α : Type} (f : α → List VV) (l : List α) : List VV := l.flatMap f
section
variable {α : Type} {f : α → List VV} {w : Nat}
theorem rows_nil : rows f [] = [] := rfl
theorem rows_cons (a : α) (l : List α) : rows f (a :: l) = f a ++ rows f l := List.flatMap_cons
theorem rows_app (l m : List α) : rows f (l ++ m) = rows f l ++ rows f m := List.flatMap_append
theorem rows_one (a : α) : rows f [a] = f a := by rw [rows_cons, rows_nil, List.append_nil]
theorem rows_length : ∀ {l : List α}, (∀ a ∈ l, (f a).length = w) → (rows f l).length = l.length * w
  | [], _ => by rw [rows_nil, List.length_nil, List.length_nil, Nat.zero_mul]
  | a :: l, h => by
    rw [rows_cons, List.length_append, h a List.mem_cons_self, rows_length fun b hb => h b (List.mem_cons_of_mem _ hb), List.length_cons, Nat.succ_mul, Nat.add_comm]
theorem rows_noHs (h : ∀ a, noHs (f a) = true) (l : List α) : noHs (rows f l) = true := noHs_flatMap h l
theorem rows_drop : ∀ (k : Nat) {l : List α}, (∀ a ∈ l, (f a).length = w) → (rows f l).drop (k * w) = rows f (l.drop k)
  | 0, l, _ => by simp
  | k + 1, [], _ => by simp [rows]
  | k + 1, a :: l, h => by
    rw [rows_cons, List.drop_succ_cons, Nat.succ_mul, Nat.add_comm, ← List.drop_drop, List.drop_left' (h a List.mem_cons_self)]
    exact rows_drop k fun b hb => h b (List.mem_cons_of_mem _ hb)
theorem rows_take : ∀ (k : Nat) {l : List α}, (∀ a ∈ l, (f a).length = w) → (rows f l).take (k * w) = rows f (l.take k)
  | 0, l, _ => by simp [rows]
  | k + 1, [], _ => by simp [rows]
  | k + 1, a :: l, h => by
    rw [rows_cons, List.take_succ_cons, rows_cons, Nat.succ_mul, Nat.add_comm, ← h a List.mem_cons_self, List.take_length_add_append, h a List.mem_cons_self, rows_take k fun b hb => h b (List.mem_cons_of_mem _ hb)]
theorem row_at {l : List α} {i : Nat} (h : ∀ a ∈ l, (f a).length = w) (hi : i < l.length) : ((rows f l).drop (i * w)).take w = f l[i] := by
  have h2 := rows_take (f := f) 1 (l := l.drop i) fun a ha => h a (List.mem_of_mem_drop ha)
  rw [rows_drop i h]
  rw [Nat.one_mul] at h2
  rw [h2, List.drop_eq_getElem_cons hi]
  exact rows_one _
theorem row_load {t : TypeId} {r : TR} {l : List α} {i j : Nat} (ht : Γ t = some r) (ha : r.d.agg = true) (hr : r.size = w) (h : ∀ a ∈ l, (f a).length = w) (hj : j = i * w) (hi : i < l.length) : vload Γ t (rows f l) j = some (.agg (f l[i])) := by
  subst hj
  have h1 := row_at h hi
  have hl : i * w + w ≤ (rows f l).length := by
    rw [rows_length h, ← Nat.succ_mul]
    exact Nat.mul_le_mul_right _ hi
  unfold vload
  rw [ht]
  simp only [ha, hr]
  split
  · rename_i hw
    have := whole_of hw
    rw [← this.1] at h1
    rw [h1]
  · rw [show Nat.ble (i * w + w) (rows f l).length = true from by simpa using hl]
    simp only []
    rw [h1]
theorem vslice_rows {t e : TypeId} {r : TR} (ht : sliceOf Γ t = some (e, r)) (hr : r.size = w) {g : Bool} {n : Nat} {bs : List α} (hb : ∀ a ∈ bs, (f a).length = w) {lo hi : Option VV} {l h : Nat} (hn : n = bs.length) (b1 : vb lo 0 = some l) (b2 : vb hi n = some h) (c1 : l ≤ h) (c2 : h ≤ n) :
    vslice Γ t (.ds g n (rows f bs)) lo hi none = some (.ds (g && decide (h = n)) ((bs.drop l).take (h - l)).length (rows f ((bs.drop l).take (h - l)))) := by
  subst hn
  rw [vslice_ds ht b1 b2 c1 c2, hr, rows_drop l hb, rows_take _ fun a ha => hb a (List.mem_of_mem_drop ha)]
  rw [show ((bs.drop l).take (h - l)).length = h - l by simp; omega]
end
theorem vfill_one {place : Nat → Option (Nat × Nat)} {cells cs : List VV} {n : Nat} (h0 : place 0 = some (0, n)) (hn : cs.length = n) (hc : cells.length = n) : vfill place cells [(0, .agg cs)] = some cs := by
  unfold vfill
  simp only [h0, cellsOf]
  rw [if_pos ⟨hn, by omega⟩]
  unfold vfill
  rw [splice_all (by rw [hn, hc])]
theorem view_sub {lkf : Nat → Option (List VV)} {h off n wd : Nat} {cs ds : List VV} (h1 : lkf h = some cs) (h2 : off + n * wd ≤ cs.length) (h3 : (cs.drop off).take (n * wd) = ds) : view lkf (.sl h off n wd) = some ([h], n, ds) := by
  unfold view
  simp only [h1]
  split
  · rename_i hw
    have := whole_of hw
    rw [← this.1] at h3
    rw [h3]
  · rw [show Nat.ble (off + n * wd) cs.length = true from by simpa using h2]
    simp only []
    rw [h3]
theorem load_agg' {t : TypeId} {r : TR} {cs ds : List VV} (h : cs = ds) (hr : Γ t = some r) (ha : r.d.agg = true) (hs : ds.length = r.size) : vload Γ t cs 0 = some (.agg ds) := by subst h; exact load_agg hr ha hs
theorem load_sub {t : TypeId} {r : TR} {cs ds : List VV} {off : Nat} (hr : Γ t = some r) (ha : r.d.agg = true) (hl : off + r.size ≤ cs.length) (hd : (cs.drop off).take r.size = ds) : vload Γ t cs off = some (.agg ds) := by
  unfold vload
  rw [hr]
  simp only [ha]
  split
  · rename_i hw
    have := whole_of hw
    rw [← this.1] at hd
    rw [hd]
  · rw [show Nat.ble (off + r.size) cs.length = true from by simpa using hl]
    simp only []
    rw [hd]
theorem conv_slE {ren : List (Nat × Option Nat)} {lkF : Nat → Option (List VV)} {h h' off off' n n' wd wd' : Nat} (hr : lkr ren h' = some (some h)) (e1 : off = off') (e2 : n = n') (e3 : wd = wd') : Conv ren lkF (.sl h off n wd) (.sl h' off' n' wd') := by subst e1 e2 e3; exact .sl hr
theorem condP_t {b : Bool} {A B : Prop} (h : b = true) (k : A) : condP b A B := by subst h; exact k
end Go.Proofs.Ytlecdiopokalgaa
namespace Go.Proofs.Ytlecdiopokalgaa
set_option linter.unusedVariables false
set_option linter.unusedSimpArgs false
set_option linter.unusedSectionVars false
open Go.ChangeShapes Go.WideShapes Go.ChangeAt Go.RowKit Go.Joins
set_option maxRecDepth 10000
/-- A number's bytes, the highest one first. -/
def be (n : Nat) : Nat → List Nat
  | 0 => []
  | s + 1 => n / 2 ^ (8 * s) % 256 :: be n s
theorem be_len (n : Nat) : ∀ s, (be n s).length = s
  | 0 => rfl
  | s + 1 => by rw [be, List.length_cons, be_len n s]
theorem be_at (n : Nat) : ∀ (s j : Nat) (h : j < (be n s).length), (be n s)[j] = n / 2 ^ (8 * (s - 1 - j)) % 256
  | 0, j, h => by cases h
  | s + 1, 0, h => by simp [be]
  | s + 1, j + 1, h => by
    have := be_at n s j (by rw [be_len] at h ⊢; omega)
    simp only [be, List.getElem_cons_succ]
    rw [this, show s + 1 - 1 - (j + 1) = s - 1 - j by omega]
/-- The first bytes, but the last j. -/
def beTo (n s j : Nat) : List Nat := (be n s).take (s - j)
theorem beTo_step {n s j : Nat} (h : j < s) : beTo n s j = beTo n s (j + 1) ++ [n / 2 ^ (8 * j) % 256] := by
  unfold beTo
  rw [show s - j = (s - (j + 1)) + 1 by omega, List.take_add_one, List.getElem?_eq_getElem (by rw [be_len]; omega), be_at]
  rw [show s - 1 - (s - (j + 1)) = j by omega]
  rfl
theorem beTo_all (n s : Nat) : beTo n s s = [] := by unfold beTo; rw [Nat.sub_self, List.take_zero]
theorem beTo_zero (n s : Nat) : beTo n s 0 = be n s := by unfold beTo; rw [Nat.sub_zero, List.take_of_length_le (by rw [be_len]; exact Nat.le_refl _)]
theorem pen_byte {n i : Nat} (hi : i ≤ 7) : nI .u8 (wS .u8 ((n : Int).fdiv (2 ^ min ((8 * i : Nat) : Int).toNat IntKind.i64.bits))) = nI .u8 ((n / 2 ^ (8 * i) % 256 : Nat) : Int) := by
  rw [shr_val (k := .i64) (x := n) (n := 8 * i) (by simp only [IntKind.bits]; omega), ws_u8]
  congr 1
theorem number_fnH {l : List Nat} {n s : Nat} (hs : s < 8) (hl : l.length ≤ 100000) : FnH Try.prog G0 45 [.ptr 0 0, nI .i64 n, nI .i64 (s + 1 : Nat)] [(0, some [.sl 1 0 l.length 1]), (1, some (bts l))] 2 (.tup []) [(0, some [.sl 2 0 (l ++ be n (s + 1)).length 1]), (2, some (bts (l ++ be n (s + 1))))] 1 := by
  have l1 : (bts l).length = l.length := bts_length l
  refine fnH_of_vwp Γok G0ok Try.func45 (by kernel_rfl) rfl (by simp [Try.ntmps45]) (wpv_ok Γok (by kernel_rfl) _ _ _ ?_); conv => whnf
  rw [ws_i64 (x := ((s + 1 : Nat) : Int) - 1) (by omega) (by omega), show ((s + 1 : Nat) : Int) - 1 = (s : Int) from by omega]
  refine vloop_unroll ?_
  refine wpv_ok Γok (by kernel_rfl) _ _ _ ?_; conv => whnf
  rw [decide_eq_true (show (s : Int) ≥ 0 by omega)]
  conv => whnf
  try (refine ⟨by kernel_rfl, ?_⟩; conv => whnf)
  rw [ws_i64 (x := 8 * (s : Int)) (by omega) (by omega), show 8 * (s : Int) = ((8 * s : Nat) : Int) from by omega]
  conv => whnf
  try (refine ⟨by kernel_rfl, ?_⟩; conv => whnf)
  refine .ownAs 1 (bts [n / 2 ^ (8 * s) % 256]) rfl (congrArg (fun v => [v]) (pen_byte (by omega))) ?_
  conv => whnf
  try (refine ⟨by kernel_rfl, ?_⟩; conv => whnf)
  refine onlyIf_intro (by show (Nat.beq (bts l).length _ && _) = true; rw [l1]; simp [maxLen]; omega) ?_
  have e1 : l ++ [n / 2 ^ (8 * s) % 256] = l ++ beTo n (s + 1) s := by rw [beTo_step (by omega), beTo_all]; rfl
  refine .ownAs (l ++ beTo n (s + 1) s).length (bts (l ++ beTo n (s + 1) s)) (by rw [← e1, List.length_append]; rfl) (by rw [← e1]; simp [bts]) ?_
  conv => whnf
  try (refine ⟨by kernel_rfl, ?_⟩; conv => whnf)
  refine vloop_invK G0ok [(0, some 0), (1, some 1), (2, some 3)] 3 (X := Nat) (fun j => [(6, nI .i64 ((j : Int) - 1)), (1, nI .i64 n), (0, .ptr 0 0)])
    (fun j => [(0, some [.sl 2 0 (l ++ beTo n (s + 1) j).length 1]), (2, some (bts (l ++ beTo n (s + 1) j)))]) (fun j => j ≤ s) (fun j => j) s rfl ⟨⟨_, rfl, conv_nI (ws_i64 (by omega) (by omega))⟩, ⟨_, rfl, conv_nI (rfl)⟩, ⟨_, rfl, .ptr rfl⟩, trivial⟩ ⟨.inr ⟨_, _, rfl, rfl, .cons (.sl rfl) .nil⟩, .inr ⟨_, _, rfl, rfl, .same (bts_noHs _)⟩, trivial⟩ (Nat.le_refl _) ?_
  intro j hj
  try dsimp only at hj
  try dsimp only
  refine wpv_ok Γok (by kernel_rfl) _ _ _ ?_; conv => whnf
  by_cases hc : j = 0
  · subst hc
    conv => whnf
    try (refine ⟨by kernel_rfl, ?_⟩; conv => whnf)
    rw [beTo_zero]
    exact ⟨_, rfl, [(0, some 0), (1, some 1), (2, some 2)], rfl, rfl, .same rfl, ⟨.inr ⟨_, _, rfl, rfl, .cons (.sl rfl) .nil⟩, .inr ⟨_, _, rfl, rfl, .same (bts_noHs _)⟩, trivial⟩⟩
  · obtain ⟨i, rfl⟩ : ∃ i, j = i + 1 := ⟨j - 1, by omega⟩
    rw [show ((i + 1 : Nat) : Int) - 1 = (i : Int) from by omega, decide_eq_true (show (i : Int) ≥ 0 by omega)]
    have l3 : (l ++ beTo n (s + 1) (i + 1)).length ≤ l.length + 8 := by unfold beTo; rw [List.length_append, List.length_take, be_len]; omega
    have e1 : (l ++ beTo n (s + 1) (i + 1)) ++ [n / 2 ^ (8 * i) % 256] = l ++ beTo n (s + 1) i := by rw [beTo_step (j := i) (by omega), List.append_assoc]
    refine gen_ex (l ++ beTo n (s + 1) (i + 1)) fun L eL => ?_
    rw [← eL] at l3 e1 ⊢
    clear eL
    have l2 : (bts L).length = L.length := bts_length _
    conv => whnf
    try (refine ⟨by kernel_rfl, ?_⟩; conv => whnf)
    rw [ws_i64 (x := 8 * (i : Int)) (by omega) (by omega), show 8 * (i : Int) = ((8 * i : Nat) : Int) from by omega]
    conv => whnf
    try (refine ⟨by kernel_rfl, ?_⟩; conv => whnf)
    refine .ownAs 1 (bts [n / 2 ^ (8 * i) % 256]) rfl (congrArg (fun v => [v]) (pen_byte (by omega))) ?_
    conv => whnf
    try (refine ⟨by kernel_rfl, ?_⟩; conv => whnf)
    refine onlyIf_intro (by show (Nat.beq (bts L).length _ && _) = true; rw [l2]; simp [maxLen]; omega) ?_
    refine .ownAs (l ++ beTo n (s + 1) i).length (bts (l ++ beTo n (s + 1) i)) (by rw [← e1, List.length_append]; rfl) (by rw [← e1]; simp [bts]) ?_
    conv => whnf
    try (refine ⟨by kernel_rfl, ?_⟩; conv => whnf)
    refine next_round (y := i + 1) G0ok i [(0, some 0), (1, some 1), (2, some 4)] rfl ⟨⟨_, rfl, conv_nI (ws_i64 (by omega) (by omega))⟩, ⟨_, rfl, conv_nI (rfl)⟩, ⟨_, rfl, .ptr rfl⟩, trivial⟩ ⟨.inr ⟨_, _, rfl, rfl, .cons (.sl rfl) .nil⟩, .inr ⟨_, _, rfl, rfl, .same (bts_noHs _)⟩, trivial⟩ (by omega) (by omega)
theorem number_nil {n s : Nat} (hs : s < 8) : FnH Try.prog G0 45 [.ptr 0 0, nI .i64 n, nI .i64 (s + 1 : Nat)] [(0, some [.ds true 0 []])] 1 (.tup []) [(0, some [.sl 1 0 (be n (s + 1)).length 1]), (1, some (bts (be n (s + 1))))] 1 := by
  refine fnH_of_vwp Γok G0ok Try.func45 (by kernel_rfl) rfl (by simp [Try.ntmps45]) (wpv_ok Γok (by kernel_rfl) _ _ _ ?_); conv => whnf
  rw [ws_i64 (x := ((s + 1 : Nat) : Int) - 1) (by omega) (by omega), show ((s + 1 : Nat) : Int) - 1 = (s : Int) from by omega]
  refine vloop_unroll ?_
  refine wpv_ok Γok (by kernel_rfl) _ _ _ ?_; conv => whnf
  rw [decide_eq_true (show (s : Int) ≥ 0 by omega)]
  conv => whnf
  try (refine ⟨by kernel_rfl, ?_⟩; conv => whnf)
  rw [ws_i64 (x := 8 * (s : Int)) (by omega) (by omega), show 8 * (s : Int) = ((8 * s : Nat) : Int) from by omega]
  conv => whnf
  try (refine ⟨by kernel_rfl, ?_⟩; conv => whnf)
  refine .ownAs 1 (bts [n / 2 ^ (8 * s) % 256]) rfl (congrArg (fun v => [v]) (pen_byte (by omega))) ?_
  conv => whnf
  try (refine ⟨by kernel_rfl, ?_⟩; conv => whnf)
  have e1 : [n / 2 ^ (8 * s) % 256] = beTo n (s + 1) s := by rw [beTo_step (by omega), beTo_all]; rfl
  refine .ownAs (beTo n (s + 1) s).length (bts (beTo n (s + 1) s)) (by rw [← e1]; rfl) (by rw [← e1]; simp [bts]) ?_
  conv => whnf
  try (refine ⟨by kernel_rfl, ?_⟩; conv => whnf)
  refine vloop_invK G0ok [(0, some 0), (1, some 2)] 2 (X := Nat) (fun j => [(6, nI .i64 ((j : Int) - 1)), (1, nI .i64 n), (0, .ptr 0 0)])
    (fun j => [(0, some [.sl 1 0 (beTo n (s + 1) j).length 1]), (1, some (bts (beTo n (s + 1) j)))]) (fun j => j ≤ s) (fun j => j) s rfl ⟨⟨_, rfl, conv_nI (ws_i64 (by omega) (by omega))⟩, ⟨_, rfl, conv_nI (rfl)⟩, ⟨_, rfl, .ptr rfl⟩, trivial⟩ ⟨.inr ⟨_, _, rfl, rfl, .cons (.sl rfl) .nil⟩, .inr ⟨_, _, rfl, rfl, .same (bts_noHs _)⟩, trivial⟩ (Nat.le_refl _) ?_
  intro j hj
  try dsimp only at hj
  try dsimp only
  refine wpv_ok Γok (by kernel_rfl) _ _ _ ?_; conv => whnf
  by_cases hc : j = 0
  · subst hc
    conv => whnf
    try (refine ⟨by kernel_rfl, ?_⟩; conv => whnf)
    rw [beTo_zero]
    exact ⟨_, rfl, [(0, some 0), (1, some 1)], rfl, rfl, .same rfl, ⟨.inr ⟨_, _, rfl, rfl, .cons (.sl rfl) .nil⟩, .inr ⟨_, _, rfl, rfl, .same (bts_noHs _)⟩, trivial⟩⟩
  · obtain ⟨i, rfl⟩ : ∃ i, j = i + 1 := ⟨j - 1, by omega⟩
    rw [show ((i + 1 : Nat) : Int) - 1 = (i : Int) from by omega, decide_eq_true (show (i : Int) ≥ 0 by omega)]
    have l3 : (beTo n (s + 1) (i + 1)).length ≤ 8 := by unfold beTo; rw [List.length_take, be_len]; omega
    have e1 : (beTo n (s + 1) (i + 1)) ++ [n / 2 ^ (8 * i) % 256] = beTo n (s + 1) i := by rw [beTo_step (j := i) (by omega)]
    refine gen_ex (beTo n (s + 1) (i + 1)) fun L eL => ?_
    rw [← eL] at l3 e1 ⊢
    clear eL
    have l2 : (bts L).length = L.length := bts_length _
    conv => whnf
    try (refine ⟨by kernel_rfl, ?_⟩; conv => whnf)
    rw [ws_i64 (x := 8 * (i : Int)) (by omega) (by omega), show 8 * (i : Int) = ((8 * i : Nat) : Int) from by omega]
    conv => whnf
    try (refine ⟨by kernel_rfl, ?_⟩; conv => whnf)
    refine .ownAs 1 (bts [n / 2 ^ (8 * i) % 256]) rfl (congrArg (fun v => [v]) (pen_byte (by omega))) ?_
    conv => whnf
    try (refine ⟨by kernel_rfl, ?_⟩; conv => whnf)
    refine onlyIf_intro (by show (Nat.beq (bts L).length _ && _) = true; rw [l2]; simp [maxLen]; omega) ?_
    refine .ownAs (beTo n (s + 1) i).length (bts (beTo n (s + 1) i)) (by rw [← e1, List.length_append]; rfl) (by rw [← e1]; simp [bts]) ?_
    conv => whnf
    try (refine ⟨by kernel_rfl, ?_⟩; conv => whnf)
    refine next_round (y := i + 1) G0ok i [(0, some 0), (1, some 3)] rfl ⟨⟨_, rfl, conv_nI (ws_i64 (by omega) (by omega))⟩, ⟨_, rfl, conv_nI (rfl)⟩, ⟨_, rfl, .ptr rfl⟩, trivial⟩ ⟨.inr ⟨_, _, rfl, rfl, .cons (.sl rfl) .nil⟩, .inr ⟨_, _, rfl, rfl, .same (bts_noHs _)⟩, trivial⟩ (by omega) (by omega)
theorem bytes_ds {l r : List Nat} (f : Bool) (hl : l.length ≤ 100000) (hr : r.length ≤ 100000) : FnH Try.prog G0 47 [.ptr 0 0, .ds f r.length (bts r)] [(0, some [.sl 1 0 l.length 1]), (1, some (bts l))] 2 (.tup []) [(0, some [.sl 2 0 (l ++ r).length 1]), (2, some (bts (l ++ r)))] 1 := by
  have l1 : (bts l).length = l.length := bts_length l
  have l2 : (bts r).length = r.length := bts_length r
  refine fnH_of_vwp Γok G0ok Try.func47 (by kernel_rfl) rfl (by simp [Try.ntmps47]) (wpv_ok Γok (by kernel_rfl) _ _ _ ?_); conv => whnf
  refine onlyIf_intro (by show (_ && (_ && Nat.beq (bts r).length _)) = true; rw [l2]; simp) ?_
  conv => whnf
  try (refine ⟨by kernel_rfl, ?_⟩; conv => whnf)
  refine onlyIf_intro (by show (Nat.beq (bts l).length _ && _) = true; rw [l1]; simp [maxLen]; omega) ?_
  refine .ownAs (l ++ r).length (bts (l ++ r)) (by rw [List.length_append]) (by simp [bts]) ?_
  conv => whnf
  try (refine ⟨by kernel_rfl, ?_⟩; conv => whnf)
  exact ⟨_, rfl, [(0, some 0), (1, some 1), (2, some 2)], rfl, rfl, .same rfl, ⟨.inr ⟨_, _, rfl, rfl, .cons (.sl rfl) .nil⟩, .inr ⟨_, _, rfl, rfl, .same (bts_noHs _)⟩, trivial⟩⟩
theorem bytes_own {l r : List Nat} {cs : List VV} {off : Nat} (hv : (cs.drop off).take (r.length * 1) = bts r) (ho : off + r.length * 1 ≤ cs.length) (nc : noHs cs = true) (hl : l.length ≤ 100000) (hr : r.length ≤ 100000) : FnH Try.prog G0 47 [.ptr 0 0, .sl 2 off r.length 1] [(0, some [.sl 1 0 l.length 1]), (1, some (bts l)), (2, some cs)] 3 (.tup []) [(0, some [.sl 3 0 (l ++ r).length 1]), (2, some cs), (3, some (bts (l ++ r)))] 1 := by
  have l1 : (bts l).length = l.length := bts_length l
  have l2 : (bts r).length = r.length := bts_length r
  refine fnH_of_vwp Γok G0ok Try.func47 (by kernel_rfl) rfl (by simp [Try.ntmps47]) (wpv_ok Γok (by kernel_rfl) _ _ _ ?_); conv => whnf
  refine bindP_intro (view_sub rfl ho hv) ?_
  conv => whnf
  try (refine ⟨by kernel_rfl, ?_⟩; conv => whnf)
  refine onlyIf_intro (by show (_ && (_ && Nat.beq (bts r).length _)) = true; rw [l2]; simp) ?_
  conv => whnf
  try (refine ⟨by kernel_rfl, ?_⟩; conv => whnf)
  refine onlyIf_intro (by show (Nat.beq (bts l).length _ && _) = true; rw [l1]; simp [maxLen]; omega) ?_
  refine .ownAs (l ++ r).length (bts (l ++ r)) (by rw [List.length_append]) (by simp [bts]) ?_
  conv => whnf
  try (refine ⟨by kernel_rfl, ?_⟩; conv => whnf)
  exact ⟨_, rfl, [(0, some 0), (1, some 1), (2, some 2), (3, some 3)], rfl, rfl, .same rfl, ⟨.inr ⟨_, _, rfl, rfl, .cons (.sl rfl) .nil⟩, .inr ⟨_, _, rfl, rfl, .same (nc)⟩, .inr ⟨_, _, rfl, rfl, .same (bts_noHs _)⟩, trivial⟩⟩
end Go.Proofs.Ytlecdiopokalgaa
namespace Go.Proofs.Ytlecdiopokalgaa
set_option linter.unusedVariables false
set_option linter.unusedSimpArgs false
set_option linter.unusedSectionVars false
open Go.ChangeShapes Go.WideShapes Go.ChangeAt Go.RowKit Go.Joins
theorem lim_put {q p d : Nat} (hq : q < T256) (hd : d < 4) (h : lim q d + p < B64) : lim (q + B64 ^ d * p) d = lim q d + p ∧ (∀ e, e < 4 → e ≠ d → lim (q + B64 ^ d * p) e = lim q e) ∧ q + B64 ^ d * p < T256 := by
  obtain ⟨a0, a1, a2, a3, k0, k1, k2, k3, rfl⟩ := limbs hq
  obtain ⟨x0, x1, x2, x3⟩ := lim_val4 k0 k1 k2 k3
  have four : ∀ e, e < 4 → e = 0 ∨ e = 1 ∨ e = 2 ∨ e = 3 := by omega
  rcases four d hd with rfl | rfl | rfl | rfl
  · rw [x0] at h
    rw [show val4 a0 a1 a2 a3 + B64 ^ 0 * p = val4 (a0 + p) a1 a2 a3 by unfold val4; simp; omega]
    obtain ⟨y0, y1, y2, y3⟩ := lim_val4 h k1 k2 k3
    refine ⟨by rw [y0, x0], ?_, val4_lt h k1 k2 k3⟩
    intro e he hne
    rcases four e he with rfl | rfl | rfl | rfl <;> first | exact absurd rfl hne | rw [y1, x1] | rw [y2, x2] | rw [y3, x3]
  · rw [x1] at h
    rw [show val4 a0 a1 a2 a3 + B64 ^ 1 * p = val4 a0 (a1 + p) a2 a3 by unfold val4; simp only [Nat.mul_add, Nat.pow_one]; omega]
    obtain ⟨y0, y1, y2, y3⟩ := lim_val4 k0 h k2 k3
    refine ⟨by rw [y1, x1], ?_, val4_lt k0 h k2 k3⟩
    intro e he hne
    rcases four e he with rfl | rfl | rfl | rfl <;> first | exact absurd rfl hne | rw [y0, x0] | rw [y2, x2] | rw [y3, x3]
  · rw [x2] at h
    rw [show val4 a0 a1 a2 a3 + B64 ^ 2 * p = val4 a0 a1 (a2 + p) a3 by unfold val4; simp only [Nat.mul_add, Nat.pow_succ, Nat.pow_zero, Nat.one_mul]; omega]
    obtain ⟨y0, y1, y2, y3⟩ := lim_val4 k0 k1 h k3
    refine ⟨by rw [y2, x2], ?_, val4_lt k0 k1 h k3⟩
    intro e he hne
    rcases four e he with rfl | rfl | rfl | rfl <;> first | exact absurd rfl hne | rw [y0, x0] | rw [y1, x1] | rw [y3, x3]
  · rw [x3] at h
    rw [show val4 a0 a1 a2 a3 + B64 ^ 3 * p = val4 a0 a1 a2 (a3 + p) by unfold val4; simp only [Nat.mul_add, Nat.pow_succ, Nat.pow_zero, Nat.one_mul]; omega]
    obtain ⟨y0, y1, y2, y3⟩ := lim_val4 k0 k1 k2 h
    refine ⟨by rw [y3, x3], ?_, val4_lt k0 k1 k2 h⟩
    intro e he hne
    rcases four e he with rfl | rfl | rfl | rfl <;> first | exact absurd rfl hne | rw [y0, x0] | rw [y1, x1] | rw [y2, x2]

end Go.Proofs.Ytlecdiopokalgaa
namespace Go.Proofs.Ytlecdiopokalgaa
set_option linter.unusedVariables false
set_option linter.unusedSimpArgs false
set_option linter.unusedSectionVars false
open Go.ChangeShapes Go.WideShapes Go.ChangeAt Go.RowKit Go.Joins
set_option maxRecDepth 10000
noncomputable def limL (n : Nat) : List Nat := [lim n 0, lim n 1, lim n 2, lim n 3]
def fromV (c : List Nat) : Nat → Nat
  | 0 => 0
  | i + 1 => fromV c i + c.getD i 0 * 2 ^ (8 * (31 - i))
theorem bts_ix {c : List Nat} {j i : Nat} (h : j = i) (hi : i < c.length) : (bts c)[j]? = some (nI .u8 ((c.getD i 0 : Nat) : Int)) := by
  subst h
  simp [bts, List.getElem?_eq_getElem hi, List.getD]
/-- A byte more, below all that stands. -/
theorem put_byte {v b k : Nat} (hv : v < T256) (hk : k < 32) (hm : v % 2 ^ (8 * (k + 1)) = 0) (hb : b < 256) :
    (limL v).set (k / 8) ((limL v).getD (k / 8) 0 ||| b * 2 ^ (8 * (k % 8))) = limL (v + b * 2 ^ (8 * k)) ∧ v + b * 2 ^ (8 * k) < T256 ∧ (v + b * 2 ^ (8 * k)) % 2 ^ (8 * k) = 0 ∧ b * 2 ^ (8 * (k % 8)) < 2 ^ 64 ∧ (limL v).getD (k / 8) 0 < 2 ^ 64 := by
  obtain ⟨t, rfl⟩ := Nat.dvd_of_mod_eq_zero hm
  have hd : k / 8 < 4 := by omega
  have e1 : 2 ^ (8 * (k + 1)) = B64 ^ (k / 8) * 2 ^ (8 * (k % 8) + 8) := by
    rw [B64_eq, ← Nat.pow_mul, ← Nat.pow_add]
    congr 1; omega
  have e2 : B64 = 2 ^ (8 * (k % 8) + 8) * 2 ^ (56 - 8 * (k % 8)) := by
    rw [B64_eq, ← Nat.pow_add]
    congr 1; omega
  have hB : 0 < B64 ^ (k / 8) := Nat.pow_pos (by decide)
  have e3 : lim (2 ^ (8 * (k + 1)) * t) (k / 8) = 2 ^ (8 * (k % 8) + 8) * (t % 2 ^ (56 - 8 * (k % 8))) := by
    rw [lim_def, e1, Nat.mul_assoc, Nat.mul_div_cancel_left _ hB, e2, Nat.mul_mod_mul_left]
  have hlt : t % 2 ^ (56 - 8 * (k % 8)) < 2 ^ (56 - 8 * (k % 8)) := Nat.mod_lt _ (Nat.pow_pos (by omega))
  have hb2 : b * 2 ^ (8 * (k % 8)) < 2 ^ (8 * (k % 8) + 8) := by
    rw [Nat.pow_add, Nat.mul_comm]
    exact Nat.mul_lt_mul_of_pos_left (by omega) (Nat.pow_pos (by omega))
  have hsum : lim (2 ^ (8 * (k + 1)) * t) (k / 8) + b * 2 ^ (8 * (k % 8)) < B64 := by
    rw [e3]
    have h1 : 2 ^ (8 * (k % 8) + 8) * (t % 2 ^ (56 - 8 * (k % 8)) + 1) ≤ 2 ^ (8 * (k % 8) + 8) * 2 ^ (56 - 8 * (k % 8)) := Nat.mul_le_mul_left _ hlt
    rw [← e2, Nat.mul_add, Nat.mul_one] at h1
    omega
  have e4 : b * 2 ^ (8 * k) = B64 ^ (k / 8) * (b * 2 ^ (8 * (k % 8))) := by
    have : 2 ^ (8 * k) = B64 ^ (k / 8) * 2 ^ (8 * (k % 8)) := by
      rw [B64_eq, ← Nat.pow_mul, ← Nat.pow_add]
      congr 1; omega
    rw [this, Nat.mul_left_comm]
  obtain ⟨p1, p2, p3⟩ := lim_put hv hd hsum
  have e5 : lim (2 ^ (8 * (k + 1)) * t) (k / 8) ||| b * 2 ^ (8 * (k % 8)) = lim (2 ^ (8 * (k + 1)) * t) (k / 8) + b * 2 ^ (8 * (k % 8)) := by
    rw [e3]
    exact (Nat.two_pow_add_eq_or_of_lt hb2 _).symm
  have e6 : ∀ v, (limL v).getD (k / 8) 0 = lim v (k / 8) := by
    intro v
    have : k / 8 = 0 ∨ k / 8 = 1 ∨ k / 8 = 2 ∨ k / 8 = 3 := by omega
    rcases this with h | h | h | h <;> rw [h] <;> rfl
  refine ⟨?_, by rw [e4]; exact p3, ?_, ?_, ?_⟩
  · rw [e6, e5, ← p1, e4]
    generalize 2 ^ (8 * (k + 1)) * t = v at *
    generalize B64 ^ (k / 8) * (b * 2 ^ (8 * (k % 8))) = q at *
    have : k / 8 = 0 ∨ k / 8 = 1 ∨ k / 8 = 2 ∨ k / 8 = 3 := by omega
    rcases this with h | h | h | h <;> rw [h] at p2 ⊢ <;> simp only [limL, List.set_cons_zero, List.set_cons_succ]
    · rw [p2 1 (by omega) (by omega), p2 2 (by omega) (by omega), p2 3 (by omega) (by omega)]
    · rw [p2 0 (by omega) (by omega), p2 2 (by omega) (by omega), p2 3 (by omega) (by omega)]
    · rw [p2 0 (by omega) (by omega), p2 1 (by omega) (by omega), p2 3 (by omega) (by omega)]
    · rw [p2 0 (by omega) (by omega), p2 1 (by omega) (by omega), p2 2 (by omega) (by omega)]
  · have : 2 ^ (8 * (k + 1)) * t = 2 ^ (8 * k) * (256 * t) := by
      rw [show 8 * (k + 1) = 8 * k + 8 by omega, Nat.pow_add]; rw [Nat.mul_assoc]
    rw [this, Nat.mul_comm b, ← Nat.mul_add, Nat.mul_mod_right]
  · rw [B64_eq] at hsum; omega
  · rw [e6, ← B64_eq]; exact lim_lt _ _
theorem from_fn (c : List Nat) (hc : c.length = 32) (hb : ∀ x ∈ c, x < 256) : FnV Try.prog G0 50 [.agg (bts c)] (uV (fromV c 32)) := by
  refine fn_of_vwp Γok Try.func50 (by kernel_rfl) rfl (by simp [Try.ntmps50]) (wpv_ok Γok (by kernel_rfl) _ _ _ ?_); conv => whnf
  refine bindP_intro (load_agg rfl rfl (by simp [bts_length, *])) ?_
  conv => whnf
  refine vloop_invP (X := Nat) (fun i => ⟨[(8, nI .i64 i), (7, .agg (bts c)), (3, .ptr 2 0), (2, .ptr 1 0)], Try.f50.ntmps, [(2, some (words (limL (fromV c i)))), (1, some (words [0, 0, 0, 0]))], 3⟩)
    (fun i => i ≤ 32 ∧ fromV c i < T256 ∧ fromV c i % 2 ^ (8 * (32 - i)) = 0) (fun i => 32 - i) 0
    (sub_conv G0ok [(1, some 1), (2, some 2)] rfl rfl ⟨⟨_, rfl, conv_nI rfl⟩, ⟨_, rfl, conv_eq rfl (bts_noHs _)⟩, ⟨_, rfl, .ptr rfl⟩, ⟨_, rfl, .ptr rfl⟩, trivial⟩
      ⟨.inr ⟨_, _, rfl, rfl, convs_eq (by rw [show limL (fromV c 0) = [0, 0, 0, 0] from by simp [limL, lim_def, fromV]]; rfl) (words_noHs _)⟩, .inr ⟨_, _, rfl, rfl, convs_eq rfl rfl⟩, trivial⟩) ⟨Nat.zero_le _, by simp only [fromV]; decide, by simp only [fromV, Nat.zero_mod]⟩ ?_
  rintro i ⟨hi, hv, hm⟩
  dsimp only at hi ⊢
  refine wpv_ok Γok (by kernel_rfl) _ _ _ ?_; conv => whnf
  refine bool_cases (fun hc' => ?_) (fun hc' => ?_)
  · have hc' := of_decide_eq_true hc'
    have hci : c.getD i 0 < 256 := getD_lt (by omega) hb i
    obtain ⟨k, hk⟩ : ∃ k : Nat, 31 - i = k := ⟨_, rfl⟩
    have hm' : fromV c i % 2 ^ (8 * (k + 1)) = 0 := by rw [show k + 1 = 32 - i by omega]; exact hm
    obtain ⟨q1, q2, q3, q4, q5⟩ := put_byte hv (by omega) hm' hci
    conv => whnf
    refine bindP_intro ((if_pos (inB_ok (by omega) (by omega))).trans (bts_ix (i := i) (by dsimp only; omega) (by omega))) ?_
    conv => whnf
    rw [ws_i64 (x := 31 - (i : Int)) (by omega) (by omega), show (31 : Int) - i = (k : Int) from by omega]
    rw [Int.tdiv_eq_ediv_of_nonneg (by omega), ws_i64 (x := (k : Int) / 8) (by omega) (by omega)]
    conv => whnf
    refine bindP_intro (if_pos (inB_ok (by omega) (by omega))) ?_; conv => whnf
    refine bindP_intro (words_ix (i := k / 8) (by dsimp only; omega) (by simp only [limL, List.length_cons, List.length_nil]; omega)) ?_
    conv => whnf
    rw [ws_u64n (x := ((c.getD i 0 : Nat) : Int)) (by omega) (by omega)]
    rw [Int.tmod_eq_emod_of_nonneg (by omega), ws_i64 (x := 8 * ((k : Int) % 8)) (by omega) (by omega), show 8 * ((k : Int) % 8) = ((8 * (k % 8) : Nat) : Int) from by omega]
    conv => whnf
    rw [shl_val (k := .u64) (x := ((c.getD i 0 : Nat) : Int)) (n := 8 * (k % 8)) (by simp only [IntKind.bits]; omega), ← Int.natCast_mul, u64_wrap q4, u64_or q5 q4]
    conv => whnf
    refine bindP_intro (if_pos (inB_ok (by omega) (by omega))) ?_; conv => whnf
    refine onlyIf_intro ?_ ?_
    · simp [words_length, limL]
      omega
    conv => whnf
    rw [splice_words (i := k / 8) (by dsimp only; omega) (by simp only [limL, List.length_cons, List.length_nil]; omega), q1]
    conv => whnf
    refine ⟨by kernel_rfl, ?_⟩
    conv => whnf
    refine ⟨i + 1, sub_conv G0ok [(1, some 1), (2, some 2)] rfl rfl ⟨⟨_, rfl, conv_nI (ws_i64 (by omega) (by omega))⟩, ⟨_, rfl, conv_eq rfl (bts_noHs _)⟩, ⟨_, rfl, .ptr rfl⟩, ⟨_, rfl, .ptr rfl⟩, trivial⟩
      ⟨.inr ⟨_, _, rfl, rfl, convs_eq (by simp only [fromV, hk]) (words_noHs _)⟩, .inr ⟨_, _, rfl, rfl, convs_eq rfl rfl⟩, trivial⟩, ⟨by omega, by simp only [fromV, hk]; exact q2, ?_⟩, by omega⟩
    simp only [fromV, hk]
    rw [show 32 - (i + 1) = k by omega]
    exact q3
  · have hc' := of_decide_eq_false hc'
    have hi2 : i = 32 := by omega
    subst hi2
    conv => whnf
    exact ⟨_, rfl, rfl⟩
end Go.Proofs.Ytlecdiopokalgaa
namespace Go.Proofs.Ytlecdiopokalgaa
set_option linter.unusedVariables false
set_option linter.unusedSimpArgs false
set_option linter.unusedSectionVars false
open Go.ChangeShapes Go.WideShapes Go.ChangeAt Go.RowKit Go.Joins
theorem bt_val (n i : Nat) (hi : i < 32) : bt (limL n) i = n / 2 ^ (8 * i) % 256 := by
  have e6 : (limL n).getD (i / 8) 0 = lim n (i / 8) := by
    have : i / 8 = 0 ∨ i / 8 = 1 ∨ i / 8 = 2 ∨ i / 8 = 3 := by omega
    rcases this with h | h | h | h <;> rw [h] <;> rfl
  unfold bt
  rw [e6]
  rw [lim_def, B64_eq, ← Nat.pow_mul, show (256 : Nat) = 2 ^ 8 from rfl]
  refine Nat.eq_of_testBit_eq fun j => ?_
  simp only [Nat.testBit_mod_two_pow, Nat.testBit_div_two_pow]
  by_cases hj : j < 8
  · simp only [hj, decide_true, Bool.true_and]
    rw [decide_eq_true (by omega), Bool.true_and]
    congr 1; omega
  · simp [hj]
theorem btsTo_getD (n j : Nat) (hj : j < 32) : (btsTo (limL n) 32).getD j 0 = n / 2 ^ (8 * (31 - j)) % 256 := by
  rw [← bt_val n (31 - j) (by omega)]
  simp [btsTo, List.getD, hj]
theorem from_bytes (n : Nat) : ∀ i, i ≤ 32 → fromV (btsTo (limL n) 32) i = (n % 2 ^ 256) / 2 ^ (8 * (32 - i)) * 2 ^ (8 * (32 - i))
  | 0, _ => by
    simp only [fromV]
    rw [Nat.div_eq_of_lt (Nat.mod_lt _ (Nat.pow_pos (by omega))), Nat.zero_mul]
  | i + 1, hi => by
    simp only [fromV]
    rw [from_bytes n i (by omega), btsTo_getD n i (by omega)]
    obtain ⟨k, hk⟩ : ∃ k, 31 - i = k := ⟨_, rfl⟩
    rw [hk, show 32 - i = k + 1 by omega, show 32 - (i + 1) = k by omega]
    have e1 : n / 2 ^ (8 * k) % 256 = (n % 2 ^ 256) / 2 ^ (8 * k) % 256 := by
      rw [show (256 : Nat) = 2 ^ 8 from rfl]
      refine Nat.eq_of_testBit_eq fun j => ?_
      simp only [Nat.testBit_mod_two_pow, Nat.testBit_div_two_pow]
      by_cases hj : j < 8
      · simp only [hj, decide_true, Bool.true_and]
        rw [decide_eq_true (by omega), Bool.true_and]
      · simp [hj]
    rw [e1]
    generalize n % 2 ^ 256 = m
    have e2 : 2 ^ (8 * (k + 1)) = 2 ^ (8 * k) * 256 := by rw [show 8 * (k + 1) = 8 * k + 8 by omega, Nat.pow_add]
    rw [e2, ← Nat.div_div_eq_div_mul]
    generalize m / 2 ^ (8 * k) = q
    generalize 2 ^ (8 * k) = p
    have := Nat.div_add_mod q 256
    rw [show q / 256 * (p * 256) + q % 256 * p = (256 * (q / 256) + q % 256) * p by rw [Nat.add_mul]; congr 1; rw [Nat.mul_comm p 256, ← Nat.mul_assoc, Nat.mul_comm (q / 256) 256], this]
theorem from_bytes_all {n : Nat} (h : n < T256) : fromV (btsTo (limL n) 32) 32 = n := by
  rw [from_bytes n 32 (Nat.le_refl _)]
  unfold T256 at h
  simp [Nat.mod_eq_of_lt h]
theorem fromV_rest (c : List Nat) (hb : ∀ x ∈ c, x < 256) (m : Nat) : ∀ t, m + t ≤ 32 → ∃ r, fromV c (m + t) = fromV c m + r ∧ r + 2 ^ (8 * (32 - (m + t))) ≤ 2 ^ (8 * (32 - m))
  | 0, _ => ⟨0, by simp, by simp⟩
  | t + 1, h => by
    obtain ⟨r, h1, h2⟩ := fromV_rest c hb m t (by omega)
    have hc := getD_lt (by omega) hb (m + t)
    obtain ⟨k, hk⟩ : ∃ k, 31 - (m + t) = k := ⟨_, rfl⟩
    refine ⟨r + c.getD (m + t) 0 * 2 ^ (8 * k), ?_, ?_⟩
    · rw [← Nat.add_assoc]
      simp only [fromV, h1, hk]
      omega
    · rw [show 32 - (m + t) = k + 1 by omega, show 8 * (k + 1) = 8 * k + 8 by omega, Nat.pow_add] at h2
      rw [show 32 - (m + (t + 1)) = k by omega]
      have : c.getD (m + t) 0 * 2 ^ (8 * k) ≤ 255 * 2 ^ (8 * k) := Nat.mul_le_mul_right _ (by omega)
      generalize 2 ^ (8 * k) = p at *
      omega
theorem fromV_div (c : List Nat) (hb : ∀ x ∈ c, x < 256) (i : Nat) (hi : i < 32) (hm : fromV c i % 2 ^ (8 * (32 - i)) = 0) : fromV c 32 / 2 ^ (8 * (31 - i)) % 256 = c.getD i 0 := by
  obtain ⟨r, h1, h2⟩ := fromV_rest c hb (i + 1) (32 - (i + 1)) (by omega)
  rw [show i + 1 + (32 - (i + 1)) = 32 by omega] at h1 h2
  have hc := getD_lt (by omega) hb i
  obtain ⟨k, hk⟩ : ∃ k, 31 - i = k := ⟨_, rfl⟩
  obtain ⟨t, ht⟩ := Nat.dvd_of_mod_eq_zero hm
  rw [h1]
  simp only [fromV, hk]
  rw [ht, show 32 - i = k + 1 by omega, show 8 * (k + 1) = 8 * k + 8 by omega, Nat.pow_add]
  rw [show 32 - (i + 1) = k by omega] at h2
  have hr : r < 2 ^ (8 * k) := by simp at h2; omega
  have hp : 0 < 2 ^ (8 * k) := Nat.pow_pos (by omega)
  rw [show (2 : Nat) ^ 8 = 256 from rfl]
  generalize 2 ^ (8 * k) = p at *
  rw [show p * 256 * t + c.getD i 0 * p + r = r + p * (256 * t + c.getD i 0) by rw [Nat.mul_add, Nat.mul_comm p (c.getD i 0), Nat.mul_assoc]; omega]
  rw [Nat.add_mul_div_left _ _ hp, Nat.div_eq_of_lt hr]
  omega
theorem fromV_mod (c : List Nat) : ∀ i, i ≤ 32 → fromV c i % 2 ^ (8 * (32 - i)) = 0
  | 0, _ => by simp [fromV]
  | i + 1, h => by
    have ih := fromV_mod c i (by omega)
    obtain ⟨k, hk⟩ : ∃ k, 31 - i = k := ⟨_, rfl⟩
    obtain ⟨t, ht⟩ := Nat.dvd_of_mod_eq_zero ih
    simp only [fromV, hk]
    rw [ht, show 32 - i = k + 1 by omega, show 32 - (i + 1) = k by omega, show 8 * (k + 1) = 8 * k + 8 by omega, Nat.pow_add, Nat.mul_assoc, Nat.mul_comm (c.getD i 0), ← Nat.mul_add, Nat.mul_mod_right]
theorem fromV_lt (c : List Nat) (hb : ∀ x ∈ c, x < 256) : fromV c 32 < T256 := by
  obtain ⟨r, h1, h2⟩ := fromV_rest c hb 0 32 (by omega)
  rw [Nat.zero_add] at h1 h2
  rw [show fromV c 0 = 0 from rfl, Nat.zero_add] at h1
  rw [show 8 * (32 - 0) = 256 from rfl, show 2 ^ (8 * (32 - 32)) = 1 from rfl] at h2
  rw [h1]
  unfold T256
  exact h2
theorem bytes_from {c : List Nat} (hc : c.length = 32) (hb : ∀ x ∈ c, x < 256) : btsTo (limL (fromV c 32)) 32 = c := by
  refine List.ext_getElem (by rw [btsTo_length, hc]) fun j h1 h2 => ?_
  have hj : j < 32 := by omega
  have e1 := btsTo_getD (fromV c 32) j hj
  rw [fromV_div c hb j hj (fromV_mod c j (by omega))] at e1
  simpa [List.getD, List.getElem?_eq_getElem h1, List.getElem?_eq_getElem h2] using e1
end Go.Proofs.Ytlecdiopokalgaa
namespace Go.Proofs.Ytlecdiopokalgaa
set_option linter.unusedVariables false
set_option linter.unusedSimpArgs false
set_option linter.unusedSectionVars false
open Go.ChangeShapes Go.WideShapes Go.ChangeAt Go.RowKit Go.Joins
set_option maxRecDepth 10000
/-- The number that bytes are, the highest one first. -/
def beV (t : List Nat) : Nat := t.foldl (fun v c => v * 256 + c) 0
theorem beV_snoc (t : List Nat) (c : Nat) : beV (t ++ [c]) = beV t * 256 + c := by unfold beV; rw [List.foldl_append]; rfl
theorem beV_lt : ∀ (k : Nat) (t : List Nat), t.length = k → (∀ x ∈ t, x < 256) → beV t < 2 ^ (8 * k)
  | 0, t, h, _ => by
    rw [List.eq_nil_of_length_eq_zero h]
    decide
  | k + 1, t, h, hb => by
    obtain ⟨u, c, rfl⟩ : ∃ u c, t = u ++ [c] := ⟨t.dropLast, t.getLast (by intro e; rw [e] at h; cases h), (List.dropLast_concat_getLast _).symm⟩
    rw [List.length_append, List.length_singleton] at h
    have h1 := beV_lt k u (by omega) fun x hx => hb x (List.mem_append.2 (.inl hx))
    have h2 := hb c (List.mem_append.2 (.inr (List.mem_singleton.2 rfl)))
    rw [beV_snoc, show 8 * (k + 1) = 8 * k + 8 by omega, Nat.pow_add, show 2 ^ 8 = 256 from rfl]
    omega
theorem be_snoc (n c : Nat) (hc : c < 256) : ∀ s, be (n * 256 + c) (s + 1) = be n s ++ [c]
  | 0 => by
    show [(n * 256 + c) / 2 ^ (8 * 0) % 256] = [c]
    rw [Nat.mul_zero, Nat.pow_zero, Nat.div_one]
    congr 1
    omega
  | s + 1 => by
    have ih := be_snoc n c hc s
    show (n * 256 + c) / 2 ^ (8 * (s + 1)) % 256 :: be (n * 256 + c) (s + 1) = (n / 2 ^ (8 * s) % 256 :: be n s) ++ [c]
    rw [ih, List.cons_append, show 8 * (s + 1) = 8 + 8 * s by omega, Nat.pow_add, ← Nat.div_div_eq_div_mul, show (n * 256 + c) / 2 ^ 8 = n by rw [show 2 ^ 8 = 256 from rfl]; omega]
theorem be_beV : ∀ (k : Nat) (t : List Nat), t.length = k → (∀ x ∈ t, x < 256) → be (beV t) k = t
  | 0, t, h, _ => by rw [List.eq_nil_of_length_eq_zero h]; rfl
  | k + 1, t, h, hb => by
    obtain ⟨u, c, rfl⟩ : ∃ u c, t = u ++ [c] := ⟨t.dropLast, t.getLast (by intro e; rw [e] at h; cases h), (List.dropLast_concat_getLast _).symm⟩
    rw [List.length_append, List.length_singleton] at h
    have h2 := hb c (List.mem_append.2 (.inr (List.mem_singleton.2 rfl)))
    rw [beV_snoc, be_snoc _ _ h2, be_beV k u (by omega) fun x hx => hb x (List.mem_append.2 (.inl hx))]
theorem be_mod {n m : Nat} : ∀ {s : Nat}, be n s = be m s → n % 2 ^ (8 * s) = m % 2 ^ (8 * s)
  | 0, _ => by rw [Nat.mul_zero, Nat.pow_zero, Nat.mod_one, Nat.mod_one]
  | s + 1, h => by
    have h1 : n / 2 ^ (8 * s) % 256 = m / 2 ^ (8 * s) % 256 := (List.cons.inj h).1
    have h2 := be_mod (s := s) (List.cons.inj h).2
    rw [show 8 * (s + 1) = 8 * s + 8 by omega, Nat.pow_add, show 2 ^ 8 = 256 from rfl, Nat.mod_mul, Nat.mod_mul, h1, h2]
theorem be_inj {n m s : Nat} (hn : n < 2 ^ (8 * s)) (hm : m < 2 ^ (8 * s)) (h : be n s = be m s) : n = m := by
  have := be_mod h
  rwa [Nat.mod_eq_of_lt hn, Nat.mod_eq_of_lt hm] at this
theorem be_lt (n : Nat) : ∀ (s : Nat), ∀ x ∈ be n s, x < 256
  | 0, x, h => by cases h
  | s + 1, x, h => by
    rcases List.mem_cons.1 h with rfl | h
    · exact Nat.mod_lt _ (by decide)
    · exact be_lt n s x h
theorem beV_be {n s : Nat} (hn : n < 2 ^ (8 * s)) : beV (be n s) = n :=
  be_inj (beV_lt s _ (be_len n s) (be_lt n s)) hn (be_beV s _ (be_len n s) (be_lt n s))
/-- What an eye has before it; whether there was as much as it wanted. -/
structure EyS where
  l : List Nat
  ok : Bool
def EyS.take (s : EyS) (n : Nat) : List Nat × EyS := if s.l.length < n then (List.replicate n 0, ⟨[], false⟩) else (s.l.take n, ⟨s.l.drop n, s.ok⟩)
theorem EyS.take_len (s : EyS) (n : Nat) : (s.take n).1.length = n := by
  unfold EyS.take
  split
  · exact List.length_replicate
  · rw [List.length_take]; omega
theorem EyS.take_lt {s : EyS} (h : ∀ x ∈ s.l, x < 256) (n : Nat) : (∀ x ∈ (s.take n).1, x < 256) ∧ ∀ x ∈ (s.take n).2.l, x < 256 := by
  unfold EyS.take
  split
  · exact ⟨fun x hx => by rw [List.eq_of_mem_replicate hx]; decide, fun x hx => by cases hx⟩
  · exact ⟨fun x hx => h x (List.mem_of_mem_take hx), fun x hx => h x (List.mem_of_mem_drop hx)⟩
/-- Where all went well. -/
theorem EyS.take_true {s : EyS} {n : Nat} (h : (s.take n).2.ok = true) : s.ok = true ∧ s.l = (s.take n).1 ++ (s.take n).2.l := by
  unfold EyS.take at *
  split at h
  · cases h
  · rename_i hn
    rw [if_neg hn]
    exact ⟨h, (List.take_append_drop n s.l).symm⟩
/-- As it was written. -/
theorem EyS.take_app {t r : List Nat} {n : Nat} (h : t.length = n) (b : Bool) : EyS.take ⟨t ++ r, b⟩ n = (t, ⟨r, b⟩) := by
  unfold EyS.take
  rw [if_neg (by rw [List.length_append]; omega)]
  dsimp only
  rw [List.take_left' h, List.drop_left' h]
/-- Too short: nothing is right any more. -/
theorem EyS.take_bad {s : EyS} {n : Nat} (h : s.ok = false) : (s.take n).2.ok = false := by
  unfold EyS.take
  split
  · rfl
  · exact h
end Go.Proofs.Ytlecdiopokalgaa
namespace Go.Proofs.Ytlecdiopokalgaa
set_option linter.unusedVariables false
set_option linter.unusedSimpArgs false
set_option linter.unusedSectionVars false
open Go.ChangeShapes Go.WideShapes Go.ChangeAt Go.RowKit Go.Joins
theorem ret_fnH {P : Program} {G : Globs} (hG : GOk G) {g : FuncId} {vargs vargs' : List VV} {H : HL} {k : Nat} {res res' : VV} {H' upd : HL} {m : Nat} (h : FnH P G g vargs H k res H' m) (σl : List Nat) {lkf : Nat → Option (List VV)} {n : Nat}
    (hlen : σl.length = k) (hnd : noDup σl = true) (hHk : (H.all fun p => Nat.blt p.1 k) = true) (hv : lowVs k vargs = true) (hr : lowV (k + m) res = true)
    (hin : inH lkf (hmap σl k n) k H k) (hout : outH (k + m) H' (k + m)) (e1 : rnVs (hmap σl k n) vargs = vargs') (e2 : rnV (hmap σl k n) res = res') (e3 : updH (hmap σl k n) H' (k + m) = upd) :
    Ret P G g vargs' lkf n ⟨res', σl, upd, m⟩ := by
  subst e1 e2 e3
  exact ret_of_fnH hG h σl hlen hnd hHk hv hr hin hout
end Go.Proofs.Ytlecdiopokalgaa
namespace Go.Proofs.Ytlecdiopokalgaa
set_option linter.unusedVariables false
set_option linter.unusedSimpArgs false
set_option linter.unusedSectionVars false
open Go.ChangeShapes Go.WideShapes Go.ChangeAt Go.RowKit Go.Joins
set_option maxRecDepth 10000
mutual
theorem rnV_no (f : Nat → Nat) : ∀ (v : VV), noH v = true → rnV f v = v
  | .v x, _ => rfl
  | .agg cs, h => congrArg VV.agg (rnVs_no f cs h)
  | .tup cs, h => congrArg VV.tup (rnVs_no f cs h)
  | .ptr _ _, h => (by simp [noH] at h)
  | .sl _ _ _ _, h => (by simp [noH] at h)
  | .ds _ _ _, _ => rfl
  | .dp _ _, _ => rfl
  | .fn g caps, h => congrArg (VV.fn g) (rnVs_no f caps h)
  | .ifc t x, h => congrArg (VV.ifc t) (rnV_no f x h)
  | .any, _ => rfl
theorem rnVs_no (f : Nat → Nat) : ∀ (cs : List VV), noHs cs = true → rnVs f cs = cs
  | [], _ => rfl
  | c :: cs, h => by
    simp only [noHs, Bool.and_eq_true] at h
    simp only [rnVs, rnV_no f c h.1, rnVs_no f cs h.2]
end
theorem ret_pen1 {g : FuncId} {args : List VV} {b n p : Nat} {r : List VV} {lkf : Nat → Option (List VV)}
    (h : FnH Try.prog G0 g (.ptr 0 0 :: args) [(0, some [.ds true 0 []])] 1 (.tup []) [(0, some [.sl 1 0 b 1]), (1, some r)] 1) (na : noHs args = true) (nr : noHs r = true) (h0 : lkf p = some [.ds true 0 []]) :
    Ret Try.prog G0 g (.ptr p 0 :: args) lkf n ⟨.tup [], [p], [(p, some [.sl n 0 b 1]), (n, some r)], 1⟩ :=
  ret_fnH G0ok h [p] rfl rfl rfl (by simp only [lowVs, lowV, lowVs_noHs na]; rfl) rfl ⟨trivial, _, rfl, rfl, h0⟩ ⟨⟨trivial, fun cs e => (Option.some.inj (show some [VV.sl 1 0 b 1] = some cs from e)) ▸ rfl⟩, fun cs e => (Option.some.inj (show some r = some cs from e)) ▸ lowVs_noHs nr⟩
    (by show VV.ptr p 0 :: rnVs _ args = _; rw [rnVs_no _ _ na]) rfl (by show [(p, some [VV.sl n 0 b 1]), (n, some (rnVs _ r))] = _; rw [rnVs_no _ _ nr])
theorem ret_pen2 {g : FuncId} {args : List VV} {a b n p q : Nat} {l r : List VV} {lkf : Nat → Option (List VV)}
    (h : FnH Try.prog G0 g (.ptr 0 0 :: args) [(0, some [.sl 1 0 a 1]), (1, some l)] 2 (.tup []) [(0, some [.sl 2 0 b 1]), (2, some r)] 1) (hpq : noDup [p, q] = true) (na : noHs args = true) (nl : noHs l = true) (nr : noHs r = true) (h0 : lkf p = some [.sl q 0 a 1]) (h1 : lkf q = some l) :
    Ret Try.prog G0 g (.ptr p 0 :: args) lkf n ⟨.tup [], [p, q], [(p, some [.sl n 0 b 1]), (q, none), (n, some r)], 1⟩ :=
  ret_fnH G0ok h [p, q] rfl hpq rfl (by simp only [lowVs, lowV, lowVs_noHs na]; rfl) rfl ⟨⟨trivial, _, rfl, rfl, h0⟩, _, rfl, lowVs_noHs nl, by rw [rnVs_no _ _ nl]; exact h1⟩
    ⟨⟨⟨trivial, fun cs e => (Option.some.inj (show some [VV.sl 2 0 b 1] = some cs from e)) ▸ rfl⟩, fun cs e => by cases (show none = some cs from e)⟩, fun cs e => (Option.some.inj (show some r = some cs from e)) ▸ lowVs_noHs nr⟩
    (by show VV.ptr p 0 :: rnVs _ args = _; rw [rnVs_no _ _ na]) rfl (by show [(p, some [VV.sl n 0 b 1]), (q, none), (n, some (rnVs _ r))] = _; rw [rnVs_no _ _ nr])
theorem ret_pen3 {g : FuncId} {a b n p q u o m w : Nat} {l r cs : List VV} {lkf : Nat → Option (List VV)}
    (h : FnH Try.prog G0 g [.ptr 0 0, .sl 2 o m w] [(0, some [.sl 1 0 a 1]), (1, some l), (2, some cs)] 3 (.tup []) [(0, some [.sl 3 0 b 1]), (2, some cs), (3, some r)] 1) (hpq : noDup [p, q, u] = true) (nl : noHs l = true) (nc : noHs cs = true) (nr : noHs r = true) (h0 : lkf p = some [.sl q 0 a 1]) (h1 : lkf q = some l) (h2 : lkf u = some cs) :
    Ret Try.prog G0 g [.ptr p 0, .sl u o m w] lkf n ⟨.tup [], [p, q, u], [(p, some [.sl n 0 b 1]), (q, none), (u, some cs), (n, some r)], 1⟩ :=
  ret_fnH G0ok h [p, q, u] rfl hpq rfl rfl rfl ⟨⟨⟨trivial, _, rfl, rfl, h0⟩, _, rfl, lowVs_noHs nl, by rw [rnVs_no _ _ nl]; exact h1⟩, _, rfl, lowVs_noHs nc, by rw [rnVs_no _ _ nc]; exact h2⟩
    ⟨⟨⟨⟨trivial, fun cs e => (Option.some.inj (show some [VV.sl 3 0 b 1] = some cs from e)) ▸ rfl⟩, fun cs e => by cases (show none = some cs from e)⟩, fun ds e => (Option.some.inj (show some cs = some ds from e)) ▸ lowVs_noHs nc⟩, fun cs e => (Option.some.inj (show some r = some cs from e)) ▸ lowVs_noHs nr⟩
    rfl rfl (by show [(p, some [VV.sl n 0 b 1]), (q, none), (u, some (rnVs _ cs)), (n, some (rnVs _ r))] = _; rw [rnVs_no _ _ nr, rnVs_no _ _ nc])
end Go.Proofs.Ytlecdiopokalgaa
namespace Go.Proofs.Ytlecdiopokalgaa
set_option linter.unusedVariables false
set_option linter.unusedSimpArgs false
set_option linter.unusedSectionVars false
open Go.ChangeShapes Go.WideShapes Go.ChangeAt Go.RowKit Go.Joins
set_option maxRecDepth 10000
theorem vslice_bts {t e : TypeId} {r : TR} (ht : sliceOf Γ t = some (e, r)) (hr : r.size = 1) {f : Bool} {n : Nat} {l : List Nat} {lo hi : Option VV} {a b : Nat} (hn : n = l.length) (b1 : vb lo 0 = some a) (b2 : vb hi n = some b) (c1 : a ≤ b) (c2 : b ≤ n) :
    vslice Γ t (.ds f n (bts l)) lo hi none = some (.ds (f && decide (b = n)) ((l.drop a).take (b - a)).length (bts ((l.drop a).take (b - a)))) := by
  subst hn
  rw [vslice_ds ht b1 b2 c1 c2, hr, Nat.mul_one, Nat.mul_one]
  unfold bts
  rw [← List.map_drop, ← List.map_take]
  rw [show ((l.drop a).take (b - a)).length = b - a by simp; omega]
theorem vslice_btsm {t e : TypeId} {r : TR} (ht : sliceOf Γ t = some (e, r)) (hr : r.size = 1) {f : Bool} {n : Nat} {l : List Nat} {lo : Option VV} {hi mx : VV} {a b : Nat} (hn : n = l.length) (b1 : vb lo 0 = some a) (b2 : vb (some hi) n = some b) (b3 : vb (some mx) n = some b) (c1 : a ≤ b) (c2 : b ≤ n) :
    vslice Γ t (.ds f n (bts l)) lo (some hi) (some mx) = some (.ds (fullOf (some mx) f b b n) ((l.drop a).take (b - a)).length (bts ((l.drop a).take (b - a)))) := by
  subst hn
  unfold vslice
  rw [ht]
  simp only [b1, b2, b3]
  rw [if_pos ⟨c1, Nat.le_refl _, c2, by simp⟩, hr, Nat.mul_one, Nat.mul_one]
  unfold bts
  rw [← List.map_drop, ← List.map_take]
  rw [show ((l.drop a).take (b - a)).length = b - a by simp; omega]
theorem zero_bytes (n : Nat) : List.map (fun i => [VV.v (Value.int IntKind.u8 0)][i % 1]?.getD VV.any) (List.range n) = List.replicate n (nI .u8 0) := by
  rw [List.eq_replicate_iff]
  refine ⟨by simp, fun b hb => ?_⟩
  obtain ⟨i, _, rfl⟩ := List.mem_map.1 hb
  rw [Nat.mod_one]
  rfl
def eyeC (f : Bool) (s : EyS) : List VV := [.ds f s.l.length (bts s.l), bI s.ok]
theorem take_ok {f : Bool} {s : EyS} {n : Nat} (hn : n ≤ s.l.length) (hm : n ≤ 1000) (hl : s.l.length ≤ maxLen) : ∃ g g', FnH Try.prog G0 73 [.ptr 0 0, nI .i64 n] [(0, some (eyeC f s))] 1 (.ds g (s.l.take n).length (bts (s.l.take n))) [(0, some (eyeC g' ⟨s.l.drop n, s.ok⟩))] 0 := by
  refine ⟨fullOf (some (nI .i64 n)) f n n s.l.length, f && decide (s.l.length = s.l.length), ?_⟩
  unfold eyeC
  refine fnH_of_vwp Γok G0ok Try.func73 (by kernel_rfl) rfl (by simp [Try.ntmps73]) (wpv_ok Γok (by kernel_rfl) _ _ _ ?_); conv => whnf
  rw [decide_eq_false (show ¬ (s.l.length : Int) < (n : Int) by omega)]
  conv => whnf
  try (refine ⟨by kernel_rfl, ?_⟩; conv => whnf)
  refine bindP_intro (vpure_slice (vslice_btsm rfl rfl rfl (by rfl) vb_nat vb_nat (Nat.zero_le _) hn)) ?_
  conv => whnf
  try (refine ⟨by kernel_rfl, ?_⟩; conv => whnf)
  refine bindP_intro (vpure_slice (vslice_bts rfl rfl rfl vb_nat (by rfl) hn (Nat.le_refl _))) ?_
  conv => whnf
  try (refine ⟨by kernel_rfl, ?_⟩; conv => whnf)
  exact ⟨_, rfl, [(0, some 0)], rfl, rfl, conv_eq rfl (bts_noHs _), ⟨.inr ⟨_, _, rfl, rfl, convs_eq (by rw [List.take_of_length_le (l := s.l.drop n) (by rw [List.length_drop]; exact Nat.le_refl _)]; rfl) (by simp only [noHs, noH, bts_noHs, bI, Bool.and_self])⟩, trivial⟩⟩
theorem take_short {f : Bool} {s : EyS} {n : Nat} (hn : s.l.length < n) (hm : n ≤ 1000) : FnH Try.prog G0 73 [.ptr 0 0, nI .i64 n] [(0, some (eyeC f s))] 1 (.ds false n (bts (List.replicate n 0))) [(0, some (eyeC true ⟨[], false⟩))] 0 := by
  unfold eyeC
  refine fnH_of_vwp Γok G0ok Try.func73 (by kernel_rfl) rfl (by simp [Try.ntmps73]) (wpv_ok Γok (by kernel_rfl) _ _ _ ?_); conv => whnf
  rw [decide_eq_true (show (s.l.length : Int) < (n : Int) by omega)]
  conv => whnf
  try (refine ⟨by kernel_rfl, ?_⟩; conv => whnf)
  refine onlyIf_intro (by simp [maxLen]; omega) ?_
  refine .read n (bts (List.replicate n 0)) (by rfl) (by simp [vzeros, bts]; exact zero_bytes n) (by rw [bts_length, List.length_replicate]; exact (Nat.mul_one _).symm) (bts_noHs _) ?_
  conv => whnf
  try (refine ⟨by kernel_rfl, ?_⟩; conv => whnf)
  exact ⟨_, rfl, [(0, some 0)], rfl, rfl, conv_eq rfl (bts_noHs _), ⟨.inr ⟨_, _, rfl, rfl, .same rfl⟩, trivial⟩⟩
theorem p64 : (2 : Int) ^ 64 = 18446744073709551616 := by decide
theorem n64 : ((2 ^ 64 : Nat) : Int) = 18446744073709551616 := by decide
theorem ws_i64_hi {V : Nat} (h1 : 9223372036854775808 ≤ V) (h2 : V < 18446744073709551616) : wS .i64 (V : Int) = (V : Int) - 18446744073709551616 := by
  rw [wS_eq]
  simp [IntKind.wrap, IntKind.signed, IntKind.bits]
  omega
theorem ofInt_ws {V : Nat} (h : V < 18446744073709551616) : (BitVec.ofInt 64 (wS .i64 (V : Int))).toNat = V := by
  rw [BitVec.toNat_ofInt, n64]
  rcases Nat.lt_or_ge V 9223372036854775808 with h1 | h1
  · rw [ws_i64 (by omega) (by omega)]
    omega
  · rw [ws_i64_hi h1 h]
    omega
theorem or_step {v c : Nat} (hv : v < 72057594037927936) (hc : c < 256) : bitS .or .i64 (wS .i64 ((v : Int) * 2 ^ min (Int.toNat 8) IntKind.i64.bits)) (c : Int) = wS .i64 ((v * 256 + c : Nat) : Int) := by
  rw [show ((v : Int) * 2 ^ min (Int.toNat 8) IntKind.i64.bits) = ((v * 256 : Nat) : Int) from by rw [show ((2 : Int) ^ min (Int.toNat 8) IntKind.i64.bits) = 256 from by decide]; push_cast; rfl]
  rw [bitS_eq]
  unfold bitI
  simp only [BitVec.toNat_or]
  rw [show (BitVec.ofInt IntKind.i64.bits (wS .i64 ((v * 256 : Nat) : Int))).toNat = v * 256 from ofInt_ws (by omega), bv_toNat_ofNat (show c < 2 ^ IntKind.i64.bits by simp only [IntKind.bits]; omega)]
  rw [← wS_eq, show v * 256 ||| c = v * 256 + c from by rw [Nat.mul_comm]; exact (Nat.two_pow_add_eq_or_of_lt (i := 8) hc v).symm]
theorem take_fn {f : Bool} (s : EyS) {n : Nat} (hm : n ≤ 1000) (hl : s.l.length ≤ maxLen) : ∃ g g', FnH Try.prog G0 73 [.ptr 0 0, nI .i64 n] [(0, some (eyeC f s))] 1 (.ds g n (bts (s.take n).1)) [(0, some (eyeC g' (s.take n).2))] 0 := by
  rcases Nat.lt_or_ge s.l.length n with h | h
  · refine ⟨false, true, ?_⟩
    have := take_short (f := f) h hm
    unfold EyS.take
    rw [if_pos h]
    exact this
  · obtain ⟨g, g', t⟩ := take_ok (f := f) h hm hl
    refine ⟨g, g', ?_⟩
    unfold EyS.take
    rw [if_neg (by omega)]
    rw [List.length_take, Nat.min_eq_left h] at t
    exact t
theorem ret_eye {g : FuncId} {args : List VV} {n p : Nat} {cs ds : List VV} {res : VV} {lkf : Nat → Option (List VV)}
    (h : FnH Try.prog G0 g (.ptr 0 0 :: args) [(0, some cs)] 1 res [(0, some ds)] 0) (na : noHs args = true) (nr : noH res = true) (nc : noHs cs = true) (nd : noHs ds = true) (h0 : lkf p = some cs) :
    Ret Try.prog G0 g (.ptr p 0 :: args) lkf n ⟨res, [p], [(p, some ds)], 0⟩ :=
  ret_fnH G0ok h [p] rfl rfl rfl (by simp only [lowVs, lowV, lowVs_noHs na]; rfl) (lowV_noH nr) ⟨trivial, _, rfl, lowVs_noHs nc, by rw [rnVs_no _ _ nc]; exact h0⟩ ⟨trivial, fun cs e => (Option.some.inj (show some ds = some cs from e)) ▸ lowVs_noHs nd⟩
    (by show VV.ptr p 0 :: rnVs _ args = _; rw [rnVs_no _ _ na]) (rnV_no _ _ nr) (by show [(p, some (rnVs _ ds))] = _; rw [rnVs_no _ _ nd])
theorem eyeC_noHs (f : Bool) (s : EyS) : noHs (eyeC f s) = true := by
  unfold eyeC
  simp only [noHs, noH, bts_noHs, bI, Bool.and_self]
theorem rnum_fn {f : Bool} (s : EyS) {n : Nat} (hm : n ≤ 8) (hl : s.l.length ≤ maxLen) (hb : ∀ x ∈ s.l, x < 256) : ∃ g', FnH Try.prog G0 49 [.ptr 0 0, nI .i64 n] [(0, some (eyeC f s))] 1 (nI .i64 (wS .i64 (beV (s.take n).1 : Nat))) [(0, some (eyeC g' (s.take n).2))] 0 := by
  obtain ⟨g, g', t⟩ := take_fn (f := f) s (n := n) (by omega) hl
  refine ⟨g', ?_⟩
  have tl := s.take_len n
  have tb := (EyS.take_lt hb n).1
  refine gen_ex (s.take n).2 fun s2 e2 => ?_
  rw [← e2] at t ⊢
  clear e2
  refine gen_ex (s.take n).1 fun L eL => ?_
  rw [← eL] at t tl tb ⊢
  clear eL
  subst tl
  refine fnH_of_vwp Γok G0ok Try.func49 (by kernel_rfl) rfl (by simp [Try.ntmps49]) (wpv_ok Γok (by kernel_rfl) _ _ _ ?_); conv => whnf
  refine ⟨_, ret_eye t rfl (show noH (.ds g L.length (bts L)) = true from bts_noHs _) (eyeC_noHs _ _) (eyeC_noHs _ _) rfl, ?_⟩
  conv => whnf
  try (refine ⟨by kernel_rfl, ?_⟩; conv => whnf)
  refine vloop_invK G0ok [(0, some 0)] 1 (X := Nat) (fun j => [(12, nI .i64 j), (11, nI .i64 L.length), (10, .ds g L.length (bts L)), (5, nI .i64 (wS .i64 (beV (L.take j) : Nat))), (4, nI .i64 0)])
    (fun _ => [(0, some (eyeC g' s2))]) (fun j => j ≤ L.length) (fun j => L.length - j) 0 rfl ⟨⟨_, rfl, conv_nI (rfl)⟩, ⟨_, rfl, conv_nI (rfl)⟩, ⟨_, rfl, conv_eq rfl (bts_noHs _)⟩, ⟨_, rfl, conv_nI ((ws_i64 (x := 0) (by decide) (by decide)).symm)⟩, ⟨_, rfl, conv_nI (rfl)⟩, trivial⟩ ⟨.inr ⟨_, _, rfl, rfl, convs_eq rfl (eyeC_noHs _ _)⟩, trivial⟩ (Nat.zero_le _) ?_
  intro j hj
  try dsimp only at hj
  try dsimp only
  refine wpv_ok Γok (by kernel_rfl) _ _ _ ?_; conv => whnf
  refine bool_cases (fun hc => ?_) (fun hc => ?_)
  · have hc := of_decide_eq_true hc
    have cj := getD_lt (by decide) tb j
    have ve := beV_lt j (L.take j) (by rw [List.length_take]; omega) fun x hx => tb x (List.mem_of_mem_take hx)
    have p8 : 2 ^ (8 * j) ≤ 2 ^ 56 := Nat.pow_le_pow_right (by decide) (by omega)
    have v56 : beV (L.take j) < 72057594037927936 := by omega
    have hs : beV (L.take (j + 1)) = beV (L.take j) * 256 + L.getD j 0 := by
      rw [List.take_add_one, List.getElem?_eq_getElem (by omega), List.getD_eq_getElem?_getD, List.getElem?_eq_getElem (by omega)]
      exact beV_snoc _ _
    refine gen_ex (beV (L.take j)) fun v ev => ?_
    rw [← ev] at hs v56 ⊢
    clear ev ve p8
    refine gen_ex (L.getD j 0) fun c ec => ?_
    rw [← ec] at cj hs
    conv => whnf
    try (refine ⟨by kernel_rfl, ?_⟩; conv => whnf)
    refine bindP_intro (if_pos (inB_ok (by omega) (by omega))) ?_; conv => whnf
    refine bindP_intro (bts_ix (i := j) (by dsimp only; omega) (by omega)) ?_
    rw [← ec]
    conv => whnf
    try (refine ⟨by kernel_rfl, ?_⟩; conv => whnf)
    rw [ws_i64 (x := (v : Int)) (by omega) (by omega), ws_i64 (x := (c : Int)) (by omega) (by omega)]
    refine next_round (y := j) G0ok (j + 1) [(0, some 0)] rfl ⟨⟨_, rfl, conv_nI (ws_i64 (by omega) (by omega))⟩, ⟨_, rfl, conv_nI (rfl)⟩, ⟨_, rfl, conv_eq rfl (bts_noHs _)⟩, ⟨_, rfl, conv_nI ((or_step v56 cj).trans (by rw [hs]))⟩, ⟨_, rfl, conv_nI (rfl)⟩, trivial⟩ ⟨.inr ⟨_, _, rfl, rfl, convs_eq rfl (eyeC_noHs _ _)⟩, trivial⟩ (by omega) (by omega)
  · have hc := of_decide_eq_false hc
    have e : j = L.length := by omega
    subst e
    rw [List.take_length]
    conv => whnf
    try (refine ⟨by kernel_rfl, ?_⟩; conv => whnf)
    exact ⟨_, rfl, [(0, some 0)], rfl, rfl, .same rfl, ⟨.inr ⟨_, _, rfl, rfl, convs_eq rfl (eyeC_noHs _ _)⟩, trivial⟩⟩
theorem rword_fn {f : Bool} (s : EyS) (hl : s.l.length ≤ maxLen) : ∃ g', FnH Try.prog G0 51 [.ptr 0 0] [(0, some (eyeC f s))] 1 (.agg (bts (s.take 32).1)) [(0, some (eyeC g' (s.take 32).2))] 0 := by
  obtain ⟨g, g', t⟩ := take_fn (f := f) s (n := 32) (by decide) hl
  refine ⟨g', ?_⟩
  have tl := s.take_len 32
  refine gen_ex (s.take 32).2 fun s2 e2 => ?_
  rw [← e2] at t ⊢
  clear e2
  refine gen_ex (s.take 32).1 fun L eL => ?_
  rw [← eL] at t tl ⊢
  clear eL
  have lB : (bts L).length = 32 := by rw [bts_length, tl]
  refine fnH_of_vwp Γok G0ok Try.func51 (by kernel_rfl) rfl (by simp [Try.ntmps51]) (wpv_ok Γok (by kernel_rfl) _ _ _ ?_); conv => whnf
  refine ⟨_, ret_eye t rfl (show noH (.ds g 32 (bts L)) = true from bts_noHs _) (eyeC_noHs _ _) (eyeC_noHs _ _) rfl, ?_⟩
  conv => whnf
  try (refine ⟨by kernel_rfl, ?_⟩; conv => whnf)
  refine onlyIf_intro (by rw [lB]; rfl) ?_
  conv => whnf
  try (refine ⟨by kernel_rfl, ?_⟩; conv => whnf)
  have hs : splice (List.replicate 32 (nI .u8 0)) 0 ((bts L).take 32) = bts L := by
    rw [List.take_of_length_le (by omega)]
    exact splice_whole (by rw [lB]; rfl)
  refine bindP_intro (load_agg' hs rfl rfl lB) ?_
  conv => whnf
  try (refine ⟨by kernel_rfl, ?_⟩; conv => whnf)
  refine onlyIf_intro (by rw [lB]; rfl) ?_
  rw [splice_all (new := bts L) (by rw [lB]; rfl)]
  conv => whnf
  try (refine ⟨by kernel_rfl, ?_⟩; conv => whnf)
  exact ⟨_, vres_one rfl (vres_cell rfl rfl (load_agg rfl rfl lB)), [(0, some 0)], rfl, rfl, conv_eq rfl (bts_noHs _), ⟨.inr ⟨_, _, rfl, rfl, convs_eq rfl (eyeC_noHs _ _)⟩, trivial⟩⟩
end Go.Proofs.Ytlecdiopokalgaa
namespace Go.Proofs.Ytlecdiopokalgaa
set_option linter.unusedVariables false
set_option linter.unusedSimpArgs false
set_option linter.unusedSectionVars false
open Go.ChangeShapes Go.WideShapes Go.ChangeAt Go.RowKit Go.Joins
set_option maxRecDepth 10000
theorem splice_32 {cs new : List VV} {off : Nat} (h : new.length = 32) : splice cs off (new.take 32) = cs.take off ++ (new ++ cs.drop (off + 32)) := by
  rw [List.take_of_length_le (by omega)]
  unfold splice
  rw [h]
theorem splice_32' {cs new : List VV} {off : Nat} (h : new.length = 32) : splice cs off new = cs.take off ++ (new ++ cs.drop (off + 32)) := by
  unfold splice
  rw [h]
/-- A message. -/
structure BoD where
  time : Nat
  nonce : Nat
  chain : Nat
  em : List Nat
  num : Nat
  level : Nat
  f : Bool
  load : List Nat
def BoD.cells (b : BoD) : List VV := nI .i64 b.time :: nI .i64 b.nonce :: nI .i64 b.chain :: (bts b.em ++ [nI .i64 b.num, nI .i64 b.level, .ds b.f b.load.length (bts b.load)])
def BoD.v (b : BoD) : VV := .agg b.cells
theorem boD_noHs (b : BoD) : noHs b.cells = true := by
  unfold BoD.cells
  simp only [noHs, noH, nI, noHs_append, bts_noHs, Bool.and_self]
theorem boD_ix {b : BoD} (he : b.em.length = 32) : b.cells[35]? = some (nI .i64 b.num) ∧ b.cells[36]? = some (nI .i64 b.level) ∧ b.cells[37]? = some (.ds b.f b.load.length (bts b.load)) := by
  unfold BoD.cells
  have h := fun i => List.getElem?_append_right (l₁ := bts b.em) (l₂ := [nI .i64 b.num, nI .i64 b.level, .ds b.f b.load.length (bts b.load)]) (i := 32 + i) (by rw [bts_length, he]; omega)
  rw [bts_length, he] at h
  exact ⟨h 0, h 1, h 2⟩
theorem boD_len {b : BoD} (he : b.em.length = 32) : b.cells.length = 38 := by unfold BoD.cells; simp only [List.length_cons, List.length_append, bts_length, he]; rfl
theorem boD_em {b : BoD} (he : b.em.length = 32) : (b.cells.drop 3).take 32 = bts b.em := by
  unfold BoD.cells
  rw [show (nI .i64 b.time :: nI .i64 b.nonce :: nI .i64 b.chain :: (bts b.em ++ [nI .i64 b.num, nI .i64 b.level, .ds b.f b.load.length (bts b.load)])).drop 3 = bts b.em ++ [nI .i64 b.num, nI .i64 b.level, .ds b.f b.load.length (bts b.load)] from rfl, List.take_left' (by rw [bts_length, he])]
/-- What is written of it. -/
def bodyB (b : BoD) : List Nat := be b.time 8 ++ be b.nonce 4 ++ be b.chain 2 ++ b.em ++ be b.num 8 ++ be b.level 1 ++ b.load
theorem body_fnH {l : List Nat} {b : BoD} (he : b.em.length = 32) (hb : b.load.length ≤ 20000) (hl : l.length ≤ 20000) : FnH Try.prog G0 48 [.ptr 0 0, b.v] [(0, some [.sl 1 0 l.length 1]), (1, some (bts l))] 2 (.tup []) [(0, some [.sl 2 0 (l ++ bodyB b).length 1]), (2, some (bts (l ++ bodyB b)))] 1 := by
  have eB : l ++ bodyB b = l ++ be b.time 8 ++ be b.nonce 4 ++ be b.chain 2 ++ b.em ++ be b.num 8 ++ be b.level 1 ++ b.load := by unfold bodyB; simp only [List.append_assoc]
  rw [eB]
  have k1 := number_fnH (l := l) (n := b.time) (s := 7) (by decide) (by omega)
  have k2 := number_fnH (l := l ++ be b.time 8) (n := b.nonce) (s := 3) (by decide) (by simp only [List.length_append, be_len]; omega)
  have k3 := number_fnH (l := l ++ be b.time 8 ++ be b.nonce 4) (n := b.chain) (s := 1) (by decide) (by simp only [List.length_append, be_len]; omega)
  have nc := boD_noHs b
  obtain ⟨i35, i36, i37⟩ := boD_ix he
  have cl : b.cells.length = 38 := by unfold BoD.cells; simp only [List.length_cons, List.length_append, bts_length, he]; rfl
  have ev : (b.cells.drop 3).take (b.em.length * 1) = bts b.em := by
    unfold BoD.cells
    rw [show (nI .i64 b.time :: nI .i64 b.nonce :: nI .i64 b.chain :: (bts b.em ++ [nI .i64 b.num, nI .i64 b.level, .ds b.f b.load.length (bts b.load)])).drop 3 = bts b.em ++ [nI .i64 b.num, nI .i64 b.level, .ds b.f b.load.length (bts b.load)] from rfl, Nat.mul_one, List.take_left' (bts_length _)]
  have k4 := bytes_own (l := l ++ be b.time 8 ++ be b.nonce 4 ++ be b.chain 2) (r := b.em) (cs := b.cells) (off := 3) ev (by rw [cl, he]; decide) nc (by simp only [List.length_append, be_len]; omega) (by omega)
  have k5 := number_fnH (l := l ++ be b.time 8 ++ be b.nonce 4 ++ be b.chain 2 ++ b.em) (n := b.num) (s := 7) (by decide) (by simp only [List.length_append, be_len]; omega)
  have k6 := number_fnH (l := l ++ be b.time 8 ++ be b.nonce 4 ++ be b.chain 2 ++ b.em ++ be b.num 8) (n := b.level) (s := 0) (by decide) (by simp only [List.length_append, be_len]; omega)
  have k7 := bytes_ds (l := l ++ be b.time 8 ++ be b.nonce 4 ++ be b.chain 2 ++ b.em ++ be b.num 8 ++ be b.level 1) (r := b.load) b.f (by simp only [List.length_append, be_len]; omega) (by omega)
  obtain ⟨L1, e1⟩ : ∃ L, L = l ++ be b.time 8 := ⟨_, rfl⟩
  rw [← e1] at k1 k2 k3 k4 k5 k6 k7 ⊢
  obtain ⟨L2, e2⟩ : ∃ L, L = L1 ++ be b.nonce 4 := ⟨_, rfl⟩
  rw [← e2] at k2 k3 k4 k5 k6 k7 ⊢
  obtain ⟨L3, e3⟩ : ∃ L, L = L2 ++ be b.chain 2 := ⟨_, rfl⟩
  rw [← e3] at k3 k4 k5 k6 k7 ⊢
  obtain ⟨L4, e4⟩ : ∃ L, L = L3 ++ b.em := ⟨_, rfl⟩
  rw [← e4] at k4 k5 k6 k7 ⊢
  obtain ⟨L5, e5⟩ : ∃ L, L = L4 ++ be b.num 8 := ⟨_, rfl⟩
  rw [← e5] at k5 k6 k7 ⊢
  obtain ⟨L6, e6⟩ : ∃ L, L = L5 ++ be b.level 1 := ⟨_, rfl⟩
  rw [← e6] at k6 k7 ⊢
  obtain ⟨L7, e7⟩ : ∃ L, L = L6 ++ b.load := ⟨_, rfl⟩
  rw [← e7] at k7 ⊢
  clear eB
  unfold BoD.v
  refine fnH_of_vwp Γok G0ok Try.func48 (by kernel_rfl) rfl (by simp [Try.ntmps48]) (wpv_ok Γok (by kernel_rfl) _ _ _ ?_); conv => whnf
  refine ⟨_, ret_pen2 k1 rfl rfl (bts_noHs _) (bts_noHs _) rfl rfl, ?_⟩
  conv => whnf
  try (refine ⟨by kernel_rfl, ?_⟩; conv => whnf)
  refine ⟨_, ret_pen2 k2 rfl rfl (bts_noHs _) (bts_noHs _) rfl rfl, ?_⟩
  conv => whnf
  try (refine ⟨by kernel_rfl, ?_⟩; conv => whnf)
  refine ⟨_, ret_pen2 k3 rfl rfl (bts_noHs _) (bts_noHs _) rfl rfl, ?_⟩
  conv => whnf
  try (refine ⟨by kernel_rfl, ?_⟩; conv => whnf)
  refine onlyIf_intro (by simp [cl, maxLen]) ?_
  conv => whnf
  try (refine ⟨by kernel_rfl, ?_⟩; conv => whnf)
  rw [he] at k4
  refine ⟨_, ret_pen3 k4 rfl (bts_noHs _) nc (bts_noHs _) rfl rfl rfl, ?_⟩
  conv => whnf
  try (refine ⟨by kernel_rfl, ?_⟩; conv => whnf)
  refine bindP_intro i35 ?_
  conv => whnf
  try (refine ⟨by kernel_rfl, ?_⟩; conv => whnf)
  refine ⟨_, ret_pen2 k5 rfl rfl (bts_noHs _) (bts_noHs _) rfl rfl, ?_⟩
  conv => whnf
  try (refine ⟨by kernel_rfl, ?_⟩; conv => whnf)
  refine bindP_intro i36 ?_
  conv => whnf
  try (refine ⟨by kernel_rfl, ?_⟩; conv => whnf)
  refine ⟨_, ret_pen2 k6 rfl rfl (bts_noHs _) (bts_noHs _) rfl rfl, ?_⟩
  conv => whnf
  try (refine ⟨by kernel_rfl, ?_⟩; conv => whnf)
  refine bindP_intro i37 ?_
  conv => whnf
  try (refine ⟨by kernel_rfl, ?_⟩; conv => whnf)
  refine ⟨_, ret_pen2 k7 rfl (show noHs [VV.ds b.f b.load.length (bts b.load)] = true from by simp only [noHs, noH, bts_noHs, Bool.and_self]) (bts_noHs _) (bts_noHs _) rfl rfl, ?_⟩
  conv => whnf
  try (refine ⟨by kernel_rfl, ?_⟩; conv => whnf)
  exact ⟨_, rfl, [(0, some 0), (1, some 1), (2, some 9)], rfl, rfl, .same rfl, ⟨.inr ⟨_, _, rfl, rfl, .cons (.sl rfl) .nil⟩, .inr ⟨_, _, rfl, rfl, .same (bts_noHs _)⟩, trivial⟩⟩
theorem body_nil {b : BoD} (he : b.em.length = 32) (hb : b.load.length ≤ 20000) : FnH Try.prog G0 48 [.ptr 0 0, b.v] [(0, some [.ds true 0 []])] 1 (.tup []) [(0, some [.sl 1 0 (bodyB b).length 1]), (1, some (bts (bodyB b)))] 1 := by
  have eB : bodyB b = be b.time 8 ++ be b.nonce 4 ++ be b.chain 2 ++ b.em ++ be b.num 8 ++ be b.level 1 ++ b.load := by unfold bodyB; simp only [List.append_assoc]
  rw [eB]
  have k1 := number_nil (n := b.time) (s := 7) (by decide)
  have k2 := number_fnH (l := be b.time 8) (n := b.nonce) (s := 3) (by decide) (by simp only [List.length_append, be_len]; omega)
  have k3 := number_fnH (l := be b.time 8 ++ be b.nonce 4) (n := b.chain) (s := 1) (by decide) (by simp only [List.length_append, be_len]; omega)
  have nc := boD_noHs b
  obtain ⟨i35, i36, i37⟩ := boD_ix he
  have cl : b.cells.length = 38 := by unfold BoD.cells; simp only [List.length_cons, List.length_append, bts_length, he]; rfl
  have ev : (b.cells.drop 3).take (b.em.length * 1) = bts b.em := by
    unfold BoD.cells
    rw [show (nI .i64 b.time :: nI .i64 b.nonce :: nI .i64 b.chain :: (bts b.em ++ [nI .i64 b.num, nI .i64 b.level, .ds b.f b.load.length (bts b.load)])).drop 3 = bts b.em ++ [nI .i64 b.num, nI .i64 b.level, .ds b.f b.load.length (bts b.load)] from rfl, Nat.mul_one, List.take_left' (bts_length _)]
  have k4 := bytes_own (l := be b.time 8 ++ be b.nonce 4 ++ be b.chain 2) (r := b.em) (cs := b.cells) (off := 3) ev (by rw [cl, he]; decide) nc (by simp only [List.length_append, be_len]; omega) (by omega)
  have k5 := number_fnH (l := be b.time 8 ++ be b.nonce 4 ++ be b.chain 2 ++ b.em) (n := b.num) (s := 7) (by decide) (by simp only [List.length_append, be_len]; omega)
  have k6 := number_fnH (l := be b.time 8 ++ be b.nonce 4 ++ be b.chain 2 ++ b.em ++ be b.num 8) (n := b.level) (s := 0) (by decide) (by simp only [List.length_append, be_len]; omega)
  have k7 := bytes_ds (l := be b.time 8 ++ be b.nonce 4 ++ be b.chain 2 ++ b.em ++ be b.num 8 ++ be b.level 1) (r := b.load) b.f (by simp only [List.length_append, be_len]; omega) (by omega)
  obtain ⟨L1, e1⟩ : ∃ L, L = be b.time 8 := ⟨_, rfl⟩
  rw [← e1] at k1 k2 k3 k4 k5 k6 k7 ⊢
  obtain ⟨L2, e2⟩ : ∃ L, L = L1 ++ be b.nonce 4 := ⟨_, rfl⟩
  rw [← e2] at k2 k3 k4 k5 k6 k7 ⊢
  obtain ⟨L3, e3⟩ : ∃ L, L = L2 ++ be b.chain 2 := ⟨_, rfl⟩
  rw [← e3] at k3 k4 k5 k6 k7 ⊢
  obtain ⟨L4, e4⟩ : ∃ L, L = L3 ++ b.em := ⟨_, rfl⟩
  rw [← e4] at k4 k5 k6 k7 ⊢
  obtain ⟨L5, e5⟩ : ∃ L, L = L4 ++ be b.num 8 := ⟨_, rfl⟩
  rw [← e5] at k5 k6 k7 ⊢
  obtain ⟨L6, e6⟩ : ∃ L, L = L5 ++ be b.level 1 := ⟨_, rfl⟩
  rw [← e6] at k6 k7 ⊢
  obtain ⟨L7, e7⟩ : ∃ L, L = L6 ++ b.load := ⟨_, rfl⟩
  rw [← e7] at k7 ⊢
  clear eB
  unfold BoD.v
  refine fnH_of_vwp Γok G0ok Try.func48 (by kernel_rfl) rfl (by simp [Try.ntmps48]) (wpv_ok Γok (by kernel_rfl) _ _ _ ?_); conv => whnf
  refine ⟨_, ret_pen1 k1 rfl (bts_noHs _) rfl, ?_⟩
  conv => whnf
  try (refine ⟨by kernel_rfl, ?_⟩; conv => whnf)
  refine ⟨_, ret_pen2 k2 rfl rfl (bts_noHs _) (bts_noHs _) rfl rfl, ?_⟩
  conv => whnf
  try (refine ⟨by kernel_rfl, ?_⟩; conv => whnf)
  refine ⟨_, ret_pen2 k3 rfl rfl (bts_noHs _) (bts_noHs _) rfl rfl, ?_⟩
  conv => whnf
  try (refine ⟨by kernel_rfl, ?_⟩; conv => whnf)
  refine onlyIf_intro (by simp [cl, maxLen]) ?_
  conv => whnf
  try (refine ⟨by kernel_rfl, ?_⟩; conv => whnf)
  rw [he] at k4
  refine ⟨_, ret_pen3 k4 rfl (bts_noHs _) nc (bts_noHs _) rfl rfl rfl, ?_⟩
  conv => whnf
  try (refine ⟨by kernel_rfl, ?_⟩; conv => whnf)
  refine bindP_intro i35 ?_
  conv => whnf
  try (refine ⟨by kernel_rfl, ?_⟩; conv => whnf)
  refine ⟨_, ret_pen2 k5 rfl rfl (bts_noHs _) (bts_noHs _) rfl rfl, ?_⟩
  conv => whnf
  try (refine ⟨by kernel_rfl, ?_⟩; conv => whnf)
  refine bindP_intro i36 ?_
  conv => whnf
  try (refine ⟨by kernel_rfl, ?_⟩; conv => whnf)
  refine ⟨_, ret_pen2 k6 rfl rfl (bts_noHs _) (bts_noHs _) rfl rfl, ?_⟩
  conv => whnf
  try (refine ⟨by kernel_rfl, ?_⟩; conv => whnf)
  refine bindP_intro i37 ?_
  conv => whnf
  try (refine ⟨by kernel_rfl, ?_⟩; conv => whnf)
  refine ⟨_, ret_pen2 k7 rfl (show noHs [VV.ds b.f b.load.length (bts b.load)] = true from by simp only [noHs, noH, bts_noHs, Bool.and_self]) (bts_noHs _) (bts_noHs _) rfl rfl, ?_⟩
  conv => whnf
  try (refine ⟨by kernel_rfl, ?_⟩; conv => whnf)
  exact ⟨_, rfl, [(0, some 0), (1, some 8)], rfl, rfl, .same rfl, ⟨.inr ⟨_, _, rfl, rfl, .cons (.sl rfl) .nil⟩, .inr ⟨_, _, rfl, rfl, .same (bts_noHs _)⟩, trivial⟩⟩
theorem in_fn (n m : Nat) : FnV Try.prog G0 79 [nI .i64 n, nI .i64 m] (bI (decide (n ≤ m))) := by
  refine fn_of_vwp Γok Try.func79 (by kernel_rfl) rfl (by simp [Try.ntmps79]) (wpv_ok Γok (by kernel_rfl) _ _ _ ?_); conv => whnf
  rw [decide_eq_true (show (n : Int) ≥ 0 by omega)]
  conv => whnf
  try (refine ⟨by kernel_rfl, ?_⟩; conv => whnf)
  rw [show decide ((n : Int) ≤ (m : Int)) = decide (n ≤ m) from decide_eq_decide.2 (by omega)]
  exact ⟨_, rfl, rfl⟩
/-- A message that may be. -/
structure BoD.ok (b : BoD) : Prop where
  time : b.time ≤ 1099511627776
  nonce : b.nonce ≤ 4294967295
  chain : b.chain ≤ 65535
  em : b.em.length = 32
  num : b.num ≤ 1099511627776
  level : b.level ≤ 255
  load : b.load.length ≤ 300
theorem pcheck_ok {b : BoD} (h : b.ok) : FnV Try.prog G0 72 [b.v] (nI .i64 0) := by
  have c1 := in_fn b.time 1099511627776
  have c2 := in_fn b.nonce 4294967295
  have c3 := in_fn b.chain 65535
  have c4 := in_fn b.num 1099511627776
  have c5 := in_fn b.level 255
  rw [decide_eq_true h.time] at c1
  rw [decide_eq_true h.nonce] at c2
  rw [decide_eq_true h.chain] at c3
  rw [decide_eq_true h.num] at c4
  rw [decide_eq_true h.level] at c5
  obtain ⟨i35, i36, i37⟩ := boD_ix h.em
  unfold BoD.v
  refine fn_of_vwp Γok Try.func72 (by kernel_rfl) rfl (by simp [Try.ntmps72]) (wpv_ok Γok (by kernel_rfl) _ _ _ ?_); conv => whnf
  refine ⟨_, ret_of_fn G0ok (c1) (by first | rfl | simp only [noHs, noH, nI, bI, Bool.and_self, Bool.and_true, Bool.true_and, ]) (by first | rfl | simp only [noHs, noH, nI, bI, Bool.and_self, Bool.and_true, Bool.true_and, ]), ?_⟩; (conv => whnf); (try (refine ⟨by kernel_rfl, ?_⟩; conv => whnf))
  refine ⟨_, ret_of_fn G0ok (c2) (by first | rfl | simp only [noHs, noH, nI, bI, Bool.and_self, Bool.and_true, Bool.true_and, ]) (by first | rfl | simp only [noHs, noH, nI, bI, Bool.and_self, Bool.and_true, Bool.true_and, ]), ?_⟩; (conv => whnf); (try (refine ⟨by kernel_rfl, ?_⟩; conv => whnf))
  refine ⟨_, ret_of_fn G0ok (c3) (by first | rfl | simp only [noHs, noH, nI, bI, Bool.and_self, Bool.and_true, Bool.true_and, ]) (by first | rfl | simp only [noHs, noH, nI, bI, Bool.and_self, Bool.and_true, Bool.true_and, ]), ?_⟩; (conv => whnf); (try (refine ⟨by kernel_rfl, ?_⟩; conv => whnf))
  refine bindP_intro i35 ?_
  conv => whnf
  try (refine ⟨by kernel_rfl, ?_⟩; conv => whnf)
  refine ⟨_, ret_of_fn G0ok (c4) (by first | rfl | simp only [noHs, noH, nI, bI, Bool.and_self, Bool.and_true, Bool.true_and, ]) (by first | rfl | simp only [noHs, noH, nI, bI, Bool.and_self, Bool.and_true, Bool.true_and, ]), ?_⟩; (conv => whnf); (try (refine ⟨by kernel_rfl, ?_⟩; conv => whnf))
  refine bindP_intro i36 ?_
  conv => whnf
  try (refine ⟨by kernel_rfl, ?_⟩; conv => whnf)
  refine ⟨_, ret_of_fn G0ok (c5) (by first | rfl | simp only [noHs, noH, nI, bI, Bool.and_self, Bool.and_true, Bool.true_and, ]) (by first | rfl | simp only [noHs, noH, nI, bI, Bool.and_self, Bool.and_true, Bool.true_and, ]), ?_⟩; (conv => whnf); (try (refine ⟨by kernel_rfl, ?_⟩; conv => whnf))
  refine bindP_intro i37 ?_
  conv => whnf
  try (refine ⟨by kernel_rfl, ?_⟩; conv => whnf)
  rw [decide_eq_false (show ¬ ((b.load.length : Nat) : Int) > 300 by have := h.load; omega)]
  conv => whnf
  try (refine ⟨by kernel_rfl, ?_⟩; conv => whnf)
  exact ⟨_, rfl, rfl⟩
end Go.Proofs.Ytlecdiopokalgaa
