/- wide.Add by the engine. -/
import Derived.Test.YtidkdlaihmpjfaaDoorVLaw
import Derived.Test.YtidkdlaihmpjfaaDoorNum
import Derived.WalkKit
import Derived.WalkSpells
import Derived.WalkLawsBesides
import Derived.Laws.Externs
namespace Go.Proofs.YtidkdlaihmpjfaaDoor
set_option linter.unusedVariables false
set_option linter.unusedSimpArgs false
set_option linter.unusedSectionVars false
open Go.ChangeShapes Go.WideShapes Go.ChangeAt Go.RowKit Go.Joins
set_option maxRecDepth 10000
theorem fn_calls {P : Program} {G : Globs} {g : FuncId} {fn : Func} {code : Code} (hf : P.funcs[g]? = some fn) (hname : (fn.name == "runtime.NumGoroutine") = false) (hb : fn.body = some code) {us : List Value} {r : Value} {d : VV}
    (h : ∀ w, Calls P g us.toArray w fun e w' => e = .returned r ∧ w = w') (hd : ∀ E, VR E d r) : FnV P G g (us.map .v) d := by
  intro w A args _ ha
  have h1 : args.toList = us := VRs_v ha
  obtain rfl : args = us.toArray := by rw [← h1]
  have hent : (callFunc g us.toArray).run P w = .ok (.enter g us.toArray) w := by
    have h1 : fn.name ≠ "runtime.NumGoroutine" := by simpa using hname
    simp [callFunc, hf, h1, hb]
  unfold FGoes
  rw [hent]
  refine Calls.mono (h w) fun e w' ⟨he, hw⟩ => ⟨r, he, hd _, ?_⟩
  subst hw
  exact Below.refl _ _
theorem fn_val {P : Program} {G : Globs} {g : FuncId} {us : List Value} {r : Value} {d : VV} (h : ∀ w, (callFunc g us.toArray).run P w = .ok (.value r) w) (hd : ∀ E, VR E d r) : FnV P G g (us.map .v) d := by
  intro w A args _ ha
  have h1 : args.toList = us := VRs_v ha
  obtain rfl : args = us.toArray := by rw [← h1]
  unfold FGoes
  rw [h w]
  exact ⟨hd _, Below.refl _ _⟩
theorem callAdd64 {x y c : Nat} (hc : c ≤ 1) (w : World) :
    (callFunc 81 #[.int .u64 x, .int .u64 y, .int .u64 c]).run Tryd.prog w = .ok (.value (.tuple #[.int .u64 (acc x y c), .int .u64 (car x y c)])) w := by
  rw [run_callFunc_extern Tryd.func81 (by kernel_rfl) (by kernel_rfl) (by kernel_rfl) (e := add64Entry) (by kernel_rfl), run_add64 x y c (by omega) (by omega) (by omega) (by omega)]
  simp only [Result.andThen, acc, car, B64]
  congr 5 <;> omega
theorem add64_fn {x y c : Nat} (hc : c ≤ 1) : FnV Tryd.prog G0 81 [nI .u64 x, nI .u64 y, nI .u64 c] (.tup [nI .u64 (acc x y c), nI .u64 (car x y c)]) :=
  fn_val (us := [.int .u64 x, .int .u64 y, .int .u64 c]) (callAdd64 hc) (fun E => by simp [VR, VRs, nI])
noncomputable def uV (n : Nat) : VV := .agg (words [lim n 0, lim n 1, lim n 2, lim n 3])
theorem uV_val4 {a b c d : Nat} (ha : a < B64) (hb : b < B64) (hc : c < B64) (hd : d < B64) : uV (val4 a b c d) = .agg (words [a, b, c, d]) := by
  obtain ⟨h0, h1, h2, h3⟩ := lim_val4 ha hb hc hd
  simp only [uV, h0, h1, h2, h3]
theorem add_fn4 (a0 a1 a2 a3 b0 b1 b2 b3 c1 c2 c3 : Nat) (h1 : car a0 b0 0 = c1) (h2 : car a1 b1 c1 = c2) (h3 : car a2 b2 c2 = c3) (k1 : c1 ≤ 1) (k2 : c2 ≤ 1) (k3 : c3 ≤ 1) :
    FnV Tryd.prog G0 58 [.agg (words [a0, a1, a2, a3]), .agg (words [b0, b1, b2, b3])]
      (.tup [.agg (words [acc a0 b0 0, acc a1 b1 c1, acc a2 b2 c2, acc a3 b3 c3]), bI (((car a3 b3 c3 : Nat) : Int) == 1)]) := by
  refine fn_of_vwp Γok Tryd.func58 (by kernel_rfl) rfl (by simp [Tryd.ntmps58]) (wpv_ok Γok (by kernel_rfl) _ _ _ ?_); conv => whnf
  refine vloop_unroll ?_
  refine wpv_ok Γok (by kernel_rfl) _ _ _ ?_; conv => whnf
  refine ⟨_, ret_of_fn G0ok (add64_fn (x := a0) (y := b0) (c := 0) (by omega)) (by rfl) rfl, ?_⟩; conv => whnf
  refine ⟨by kernel_rfl, ?_⟩
  rw [h1]
  conv => whnf
  refine vloop_unroll ?_
  refine wpv_ok Γok (by kernel_rfl) _ _ _ ?_; conv => whnf
  rw [ws_i64 (by omega) (by omega)]
  conv => whnf
  refine ⟨_, ret_of_fn G0ok (add64_fn (x := a1) (y := b1) k1) (by rfl) rfl, ?_⟩; conv => whnf
  refine ⟨by kernel_rfl, ?_⟩
  rw [h2]
  conv => whnf
  refine vloop_unroll ?_
  refine wpv_ok Γok (by kernel_rfl) _ _ _ ?_; conv => whnf
  rw [ws_i64 (by omega) (by omega)]
  conv => whnf
  refine ⟨_, ret_of_fn G0ok (add64_fn (x := a2) (y := b2) k2) (by rfl) rfl, ?_⟩; conv => whnf
  refine ⟨by kernel_rfl, ?_⟩
  rw [h3]
  conv => whnf
  refine vloop_unroll ?_
  refine wpv_ok Γok (by kernel_rfl) _ _ _ ?_; conv => whnf
  rw [ws_i64 (by omega) (by omega)]
  conv => whnf
  refine ⟨_, ret_of_fn G0ok (add64_fn (x := a3) (y := b3) k3) (by rfl) rfl, ?_⟩; conv => whnf
  refine ⟨by kernel_rfl, ?_⟩
  conv => whnf
  refine vloop_unroll ?_
  refine wpv_ok Γok (by kernel_rfl) _ _ _ ?_; conv => whnf
  rw [ws_i64 (by omega) (by omega)]
  conv => whnf
  exact ⟨_, rfl, rfl⟩
theorem add_fn {a b : Nat} (ha : a < T256) (hb : b < T256) : FnV Tryd.prog G0 58 [uV a, uV b] (.tup [uV (addS a b), bI (addO a b)]) := by
  obtain ⟨a0, a1, a2, a3, k0, k1, k2, k3, rfl⟩ := limbs ha
  obtain ⟨b0, b1, b2, b3, m0, m1, m2, m3, rfl⟩ := limbs hb
  have q1 := car_le k0 m0 (c := 0) (by omega)
  have q2 := car_le k1 m1 q1
  have q3 := car_le k2 m2 q2
  have q4 := car_le k3 m3 q3
  obtain ⟨e1, e2⟩ := add_val4 (acc_lt a0 b0 0) (acc_lt a1 b1 _) (acc_lt a2 b2 _) (acc_lt a3 b3 _) q4 (acc_car _ _ _) (acc_car _ _ _) (acc_car _ _ _) (acc_car _ _ _)
  rw [e1, e2, ← beq_one, uV_val4 k0 k1 k2 k3, uV_val4 m0 m1 m2 m3, uV_val4 (acc_lt _ _ _) (acc_lt _ _ _) (acc_lt _ _ _) (acc_lt _ _ _)]
  exact add_fn4 a0 a1 a2 a3 b0 b1 b2 b3 _ _ _ rfl rfl rfl q1 q2 q3
end Go.Proofs.YtidkdlaihmpjfaaDoor
