/- wide.Sub by the engine. -/
import Derived.Test.YtidkdlaihmpjfaaDoorVWide
import Derived.WalkKit
import Derived.WalkSpells
import Derived.WalkLawsBesides
import Derived.Laws.Externs
namespace Go.Proofs.YtidkdlaihmpjfaaDoor
set_option linter.unusedVariables false
set_option linter.unusedSimpArgs false
set_option linter.unusedSectionVars false
open Go.ChangeShapes Go.WideShapes Go.ChangeAt Go.RowKit Go.Joins
set_option maxRecDepth 10000
def sub64Ent : Array Value → Sem Value := fun args => do
  let (x, y, b) ← Extern.MathBitsCarry.three "Sub64" args
  pure (Extern.MathBitsCarry.pair ((x + Extern.MathBitsCarry.m64 - y - b) % Extern.MathBitsCarry.m64) (if x < y + b then 1 else 0))
theorem runSub64 (x y b : Nat) (hb : b ≤ 1) (w : World) :
    (sub64Ent #[.int .u64 x, .int .u64 y, .int .u64 b]).run Tryd.prog w = .ok (.tuple #[.int .u64 (dif x y b), .int .u64 (bor x y b)]) w := by
  have : b = 0 ∨ b = 1 := by omega
  rcases this with rfl | rfl <;> rfl
theorem callSub64 {x y b : Nat} (hb : b ≤ 1) (w : World) :
    (callFunc 67 #[.int .u64 x, .int .u64 y, .int .u64 b]).run Tryd.prog w = .ok (.value (.tuple #[.int .u64 (dif x y b), .int .u64 (bor x y b)])) w := by
  rw [run_callFunc_extern Tryd.func67 (by kernel_rfl) (by kernel_rfl) (by kernel_rfl) (e := sub64Ent) (by kernel_rfl), runSub64 x y b hb]
  rfl
theorem sub64_fn {x y c : Nat} (hc : c ≤ 1) : FnV Tryd.prog G0 67 [nI .u64 x, nI .u64 y, nI .u64 c] (.tup [nI .u64 (dif x y c), nI .u64 (bor x y c)]) :=
  fn_val (us := [.int .u64 x, .int .u64 y, .int .u64 c]) (callSub64 hc) (fun E => by simp [VR, VRs, nI])
theorem sub_fn4 (a0 a1 a2 a3 b0 b1 b2 b3 c1 c2 c3 : Nat) (h1 : bor a0 b0 0 = c1) (h2 : bor a1 b1 c1 = c2) (h3 : bor a2 b2 c2 = c3) (k1 : c1 ≤ 1) (k2 : c2 ≤ 1) (k3 : c3 ≤ 1) :
    FnV Tryd.prog G0 36 [.agg (words [a0, a1, a2, a3]), .agg (words [b0, b1, b2, b3])]
      (.tup [.agg (words [dif a0 b0 0, dif a1 b1 c1, dif a2 b2 c2, dif a3 b3 c3]), bI (((bor a3 b3 c3 : Nat) : Int) == 1)]) := by
  refine fn_of_vwp Γok Tryd.func36 (by kernel_rfl) rfl (by simp [Tryd.ntmps36]) (wpv_ok Γok (by kernel_rfl) _ _ _ ?_); conv => whnf
  refine vloop_unroll ?_
  refine wpv_ok Γok (by kernel_rfl) _ _ _ ?_; conv => whnf
  refine ⟨_, ret_of_fn G0ok (sub64_fn (x := a0) (y := b0) (c := 0) (by omega)) (by rfl) rfl, ?_⟩; conv => whnf
  refine ⟨by kernel_rfl, ?_⟩
  rw [h1]
  conv => whnf
  refine vloop_unroll ?_
  refine wpv_ok Γok (by kernel_rfl) _ _ _ ?_; conv => whnf
  rw [ws_i64 (by omega) (by omega)]
  conv => whnf
  refine ⟨_, ret_of_fn G0ok (sub64_fn (x := a1) (y := b1) k1) (by rfl) rfl, ?_⟩; conv => whnf
  refine ⟨by kernel_rfl, ?_⟩
  rw [h2]
  conv => whnf
  refine vloop_unroll ?_
  refine wpv_ok Γok (by kernel_rfl) _ _ _ ?_; conv => whnf
  rw [ws_i64 (by omega) (by omega)]
  conv => whnf
  refine ⟨_, ret_of_fn G0ok (sub64_fn (x := a2) (y := b2) k2) (by rfl) rfl, ?_⟩; conv => whnf
  refine ⟨by kernel_rfl, ?_⟩
  rw [h3]
  conv => whnf
  refine vloop_unroll ?_
  refine wpv_ok Γok (by kernel_rfl) _ _ _ ?_; conv => whnf
  rw [ws_i64 (by omega) (by omega)]
  conv => whnf
  refine ⟨_, ret_of_fn G0ok (sub64_fn (x := a3) (y := b3) k3) (by rfl) rfl, ?_⟩; conv => whnf
  refine ⟨by kernel_rfl, ?_⟩
  conv => whnf
  refine vloop_unroll ?_
  refine wpv_ok Γok (by kernel_rfl) _ _ _ ?_; conv => whnf
  rw [ws_i64 (by omega) (by omega)]
  conv => whnf
  exact ⟨_, rfl, rfl⟩
theorem sub_fn {a b : Nat} (ha : a < T256) (hb : b < T256) : FnV Tryd.prog G0 36 [uV a, uV b] (.tup [uV (subS a b), bI (subO a b)]) := by
  obtain ⟨a0, a1, a2, a3, k0, k1, k2, k3, rfl⟩ := limbs ha
  obtain ⟨b0, b1, b2, b3, m0, m1, m2, m3, rfl⟩ := limbs hb
  have q1 := bor_le a0 b0 0
  have q2 := bor_le a1 b1 (bor a0 b0 0)
  have q3 := bor_le a2 b2 (bor a1 b1 (bor a0 b0 0))
  obtain ⟨e1, e2⟩ := sub_val4 k0 k1 k2 k3 m0 m1 m2 m3
  rw [e1, e2, ← beq_one, uV_val4 k0 k1 k2 k3, uV_val4 m0 m1 m2 m3, uV_val4 (dif_lt _ _ _) (dif_lt _ _ _) (dif_lt _ _ _) (dif_lt _ _ _)]
  exact sub_fn4 a0 a1 a2 a3 b0 b1 b2 b3 _ _ _ rfl rfl rfl q1 q2 q3
end Go.Proofs.YtidkdlaihmpjfaaDoor
