/- The contracts of math/bits.Add64 and Sub64, wide.Add and wide.Sub: sums and differences of numbers below 2^256, and what goes over or under. -/
import Derived.Test.YtmfgldfldejgcaaRows
import Derived.Test.YtmfgldfldejgcaaNum
import Derived.WalkKit
import Derived.WalkSpells
import Derived.WalkLawsBesides
import Derived.Laws.Externs
namespace Go.Proofs.Ytmfgldfldejgcaa
set_option linter.unusedVariables false
set_option linter.unusedSimpArgs false
open Go.RowKit

theorem call_add64 {x y c : Nat} (hc : c ≤ 1) (w : World) :
    (callFunc 31 #[.int .u64 x, .int .u64 y, .int .u64 c]).run Try.prog w = .ok (.value (.tuple #[.int .u64 (acc x y c), .int .u64 (car x y c)])) w := by
  rw [run_callFunc_extern Try.func31 (by kernel_rfl) (by kernel_rfl) (by kernel_rfl) (e := add64Entry) (by kernel_rfl), run_add64 x y c (by omega) (by omega) (by omega) (by omega)]
  simp only [Result.andThen, acc, car, B64]
  congr 5 <;> omega

-- math/bits.Sub64
def sub64Entry : Array Value → Sem Value := fun args => do
  let (x, y, b) ← Extern.MathBitsCarry.three "Sub64" args
  pure (Extern.MathBitsCarry.pair ((x + Extern.MathBitsCarry.m64 - y - b) % Extern.MathBitsCarry.m64) (if x < y + b then 1 else 0))
theorem run_sub64 (x y b : Nat) (hb : b ≤ 1) (w : World) :
    (sub64Entry #[.int .u64 x, .int .u64 y, .int .u64 b]).run Try.prog w = .ok (.tuple #[.int .u64 (dif x y b), .int .u64 (bor x y b)]) w := by
  have : b = 0 ∨ b = 1 := by omega
  rcases this with rfl | rfl <;> rfl
theorem call_sub64 {x y b : Nat} (hb : b ≤ 1) (w : World) :
    (callFunc 32 #[.int .u64 x, .int .u64 y, .int .u64 b]).run Try.prog w = .ok (.value (.tuple #[.int .u64 (dif x y b), .int .u64 (bor x y b)])) w := by
  rw [run_callFunc_extern Try.func32 (by kernel_rfl) (by kernel_rfl) (by kernel_rfl) (e := sub64Entry) (by kernel_rfl), run_sub64 x y b hb]
  rfl

set_option maxHeartbeats 1000000 in
theorem add_walk (a0 a1 a2 a3 b0 b1 b2 b3 s0 s1 s2 s3 c1 c2 c3 c4 : Nat) (w : World)
    (h0 : ∀ w, (callFunc 31 #[.int .u64 a0, .int .u64 b0, .int .u64 0]).run Try.prog w = .ok (.value (.tuple #[.int .u64 s0, .int .u64 c1])) w)
    (h1 : ∀ w, (callFunc 31 #[.int .u64 a1, .int .u64 b1, .int .u64 c1]).run Try.prog w = .ok (.value (.tuple #[.int .u64 s1, .int .u64 c2])) w)
    (h2 : ∀ w, (callFunc 31 #[.int .u64 a2, .int .u64 b2, .int .u64 c2]).run Try.prog w = .ok (.value (.tuple #[.int .u64 s2, .int .u64 c3])) w)
    (h3 : ∀ w, (callFunc 31 #[.int .u64 a3, .int .u64 b3, .int .u64 c3]).run Try.prog w = .ok (.value (.tuple #[.int .u64 s3, .int .u64 c4])) w) :
    Calls Try.prog 19 #[.agg #[.int .u64 a0, .int .u64 a1, .int .u64 a2, .int .u64 a3], .agg #[.int .u64 b0, .int .u64 b1, .int .u64 b2, .int .u64 b3]] w
      fun e w' => e = .returned (.tuple #[.agg #[.int .u64 s0, .int .u64 s1, .int .u64 s2, .int .u64 s3], .bool ((c4 : Int) == 1)]) ∧ Below w.heap.size w w' := by
  go_enter Try.func19, Try.ntmps19
  go_wp2
  refine wp_loop_rounds 5 ?_
  rw [rounds_succ]
  go_wp2
  go_region
  go_wp2
  rw [rounds_succ]
  go_wp2
  go_region
  go_wp2
  rw [rounds_succ]
  go_wp2
  go_region
  go_wp2
  rw [rounds_succ]
  go_wp2
  go_region
  go_wp2
  rw [rounds_succ]
  go_wp2
  refine bodyPost_ret (v := .tuple #[.agg #[.int .u64 s0, .int .u64 s1, .int .u64 s2, .int .u64 s3], .bool ((c4 : Int) == 1)]) (by simp [results, Try.results19, go_sem]) rfl ⟨rfl, ?_⟩
  repeat (first | exact Below.refl _ _ | refine Below.drew ?_ | refine Below.alloc ?_ (by simp <;> omega) _ | refine Below.setCell ?_ (by simp) _)

theorem add_calls {a b : Nat} (ha : a < T256) (hb : b < T256) (w : World) :
    Calls Try.prog 19 #[u256 a, u256 b] w fun e w' => e = .returned (.tuple #[u256 (addS a b), .bool (addO a b)]) ∧ Below w.heap.size w w' := by
  obtain ⟨a0, a1, a2, a3, k0, k1, k2, k3, rfl⟩ := limbs ha
  obtain ⟨b0, b1, b2, b3, m0, m1, m2, m3, rfl⟩ := limbs hb
  have q1 := car_le k0 m0 (c := 0) (by omega)
  have q2 := car_le k1 m1 q1
  have q3 := car_le k2 m2 q2
  have q4 := car_le k3 m3 q3
  obtain ⟨e1, e2⟩ := add_val4 (acc_lt a0 b0 0) (acc_lt a1 b1 _) (acc_lt a2 b2 _) (acc_lt a3 b3 _) q4 (acc_car _ _ _) (acc_car _ _ _) (acc_car _ _ _) (acc_car _ _ _)
  rw [e1, e2, u256_val4 k0 k1 k2 k3, u256_val4 m0 m1 m2 m3, u256_val4 (acc_lt _ _ _) (acc_lt _ _ _) (acc_lt _ _ _) (acc_lt _ _ _)]
  refine (add_walk a0 a1 a2 a3 b0 b1 b2 b3 _ _ _ _ _ _ _ _ w (call_add64 (c := 0) (by omega)) (call_add64 q1) (call_add64 q2) (call_add64 q3)).mono ?_
  rintro e w' ⟨rfl, h⟩
  exact ⟨by rw [beq_one], h⟩

set_option maxHeartbeats 1000000 in
theorem sub_walk (a0 a1 a2 a3 b0 b1 b2 b3 s0 s1 s2 s3 c1 c2 c3 c4 : Nat) (w : World)
    (h0 : ∀ w, (callFunc 32 #[.int .u64 a0, .int .u64 b0, .int .u64 0]).run Try.prog w = .ok (.value (.tuple #[.int .u64 s0, .int .u64 c1])) w)
    (h1 : ∀ w, (callFunc 32 #[.int .u64 a1, .int .u64 b1, .int .u64 c1]).run Try.prog w = .ok (.value (.tuple #[.int .u64 s1, .int .u64 c2])) w)
    (h2 : ∀ w, (callFunc 32 #[.int .u64 a2, .int .u64 b2, .int .u64 c2]).run Try.prog w = .ok (.value (.tuple #[.int .u64 s2, .int .u64 c3])) w)
    (h3 : ∀ w, (callFunc 32 #[.int .u64 a3, .int .u64 b3, .int .u64 c3]).run Try.prog w = .ok (.value (.tuple #[.int .u64 s3, .int .u64 c4])) w) :
    Calls Try.prog 21 #[.agg #[.int .u64 a0, .int .u64 a1, .int .u64 a2, .int .u64 a3], .agg #[.int .u64 b0, .int .u64 b1, .int .u64 b2, .int .u64 b3]] w
      fun e w' => e = .returned (.tuple #[.agg #[.int .u64 s0, .int .u64 s1, .int .u64 s2, .int .u64 s3], .bool ((c4 : Int) == 1)]) ∧ Below w.heap.size w w' := by
  go_enter Try.func21, Try.ntmps21
  go_wp2
  refine wp_loop_rounds 5 ?_
  rw [rounds_succ]
  go_wp2
  go_region
  go_wp2
  rw [rounds_succ]
  go_wp2
  go_region
  go_wp2
  rw [rounds_succ]
  go_wp2
  go_region
  go_wp2
  rw [rounds_succ]
  go_wp2
  go_region
  go_wp2
  rw [rounds_succ]
  go_wp2
  refine bodyPost_ret (v := .tuple #[.agg #[.int .u64 s0, .int .u64 s1, .int .u64 s2, .int .u64 s3], .bool ((c4 : Int) == 1)]) (by simp [results, Try.results21, go_sem]) rfl ⟨rfl, ?_⟩
  repeat (first | exact Below.refl _ _ | refine Below.drew ?_ | refine Below.alloc ?_ (by simp <;> omega) _ | refine Below.setCell ?_ (by simp) _)

theorem sub_calls {a b : Nat} (ha : a < T256) (hb : b < T256) (w : World) :
    Calls Try.prog 21 #[u256 a, u256 b] w fun e w' => e = .returned (.tuple #[u256 (subS a b), .bool (subO a b)]) ∧ Below w.heap.size w w' := by
  obtain ⟨a0, a1, a2, a3, k0, k1, k2, k3, rfl⟩ := limbs ha
  obtain ⟨b0, b1, b2, b3, m0, m1, m2, m3, rfl⟩ := limbs hb
  have q1 := bor_le a0 b0 0
  have q2 := bor_le a1 b1 (bor a0 b0 0)
  have q3 := bor_le a2 b2 (bor a1 b1 (bor a0 b0 0))
  obtain ⟨e1, e2⟩ := sub_val4 k0 k1 k2 k3 m0 m1 m2 m3
  rw [e1, e2, u256_val4 k0 k1 k2 k3, u256_val4 m0 m1 m2 m3, u256_val4 (dif_lt _ _ _) (dif_lt _ _ _) (dif_lt _ _ _) (dif_lt _ _ _)]
  refine (sub_walk a0 a1 a2 a3 b0 b1 b2 b3 _ _ _ _ _ _ _ _ w (call_sub64 (b := 0) (by omega)) (call_sub64 q1) (call_sub64 q2) (call_sub64 q3)).mono ?_
  rintro e w' ⟨rfl, h⟩
  exact ⟨by rw [beq_one], h⟩

end Go.Proofs.Ytmfgldfldejgcaa
