/- wideTells: one and one are two. And the law of '==' on numbers. -/
import Derived.Test.YtmfgldfldejgcaaRows
import Derived.Test.YtmfgldfldejgcaaNum
import Derived.Test.YtmfgldfldejgcaaAdd
import Derived.Test.YtmfgldfldejgcaaMem
import Derived.WalkKit
import Derived.WalkSpells
import Derived.WalkLawsBesides
namespace Go.Proofs.Ytmfgldfldejgcaa
set_option linter.unusedVariables false
set_option linter.unusedSimpArgs false
open Go.RowKit

theorem lim_inj {a b : Nat} (ha : a < T256) (hb : b < T256) (h0 : lim a 0 = lim b 0) (h1 : lim a 1 = lim b 1) (h2 : lim a 2 = lim b 2) (h3 : lim a 3 = lim b 3) : a = b := by
  rw [← val4_lim ha, ← val4_lim hb, h0, h1, h2, h3]

theorem equalIn_four (a0 a1 a2 a3 b0 b1 b2 b3 : Int) (w : World) : (Op.equalIn 10000 32 (.agg #[.int .u64 a0, .int .u64 a1, .int .u64 a2, .int .u64 a3]) (.agg #[.int .u64 b0, .int .u64 b1, .int .u64 b2, .int .u64 b3])).run Try.prog w = .ok (((a0 == b0 && a1 == b1) && a2 == b2) && a3 == b3) w := by
  have u3 := Try.underlying30
  have ia := Try.isAgg30
  have z3 := Try.sizeOf30
  rw [show (10000 : Nat) = 9999 + 1 from rfl, Op.equalIn]
  simp only [Sem.run_bind, run_underlying Try.underlying32, Result.andThen_ok]
  simp only [Std.Legacy.Range.forIn_eq_forIn_range', Std.Legacy.Range.size, Nat.sub_zero, Nat.add_sub_cancel, Nat.div_one, List.range'_succ, List.range'_zero, List.forIn_cons, List.forIn_nil]
  go_simp
  by_cases h1 : a0 = b0 <;> by_cases h2 : a1 = b1 <;> by_cases h3 : a2 = b2 <;> by_cases h4 : a3 = b3 <;> simp [h1, h2, h3, h4]

theorem cast_beq (a b : Nat) : ((a : Int) == (b : Int)) = (a == b) := by
  rw [Bool.eq_iff_iff]; simp only [beq_iff_eq]; omega
/-- '==' on two numbers: whether they are the same. -/
theorem equalIn_u256 {a b : Nat} (ha : a < T256) (hb : b < T256) (w : World) : (Op.equalIn 10000 32 (u256 a) (u256 b)).run Try.prog w = .ok (a == b) w := by
  have key : (a == b) = (((lim a 0 == lim b 0 && lim a 1 == lim b 1) && lim a 2 == lim b 2) && lim a 3 == lim b 3) := by
    rw [Bool.eq_iff_iff]
    simp only [beq_iff_eq, Bool.and_eq_true]
    exact ⟨fun h => by subst h; simp, fun ⟨⟨⟨h0, h1⟩, h2⟩, h3⟩ => lim_inj ha hb h0 h1 h2 h3⟩
  rw [key]
  unfold u256
  rw [equalIn_four]
  simp only [cast_beq]
theorem u256_lit (n : Nat) (h : n < B64) : Value.agg #[.int .u64 (n : Int), .int .u64 0, .int .u64 0, .int .u64 0] = u256 n := by
  have := u256_val4 (a := n) (b := 0) (c := 0) (d := 0) h (by decide) (by decide) (by decide)
  rw [show val4 n 0 0 0 = n by unfold val4; omega] at this
  rw [this]; rfl

theorem equalIn_lit {a : Nat} (ha : a < T256) (n : Nat) (hn : n < B64) (w : World) :
    (Op.equalIn 10000 32 (u256 a) (.agg #[.int .u64 (OfNat.ofNat n), .int .u64 0, .int .u64 0, .int .u64 0])).run Try.prog w = .ok (a == n) w := by
  have := equalIn_u256 ha (show n < T256 by have := val4_lt hn (show 0 < B64 by decide) (show 0 < B64 by decide) (show 0 < B64 by decide); simpa [val4] using this) w
  rw [← u256_lit n hn] at this
  exact this
set_option maxHeartbeats 200000 in
theorem tells (w : World) :
    Calls Try.prog 20 #[] w fun e w' => e = .returned (.bool true) ∧ Below w.heap.size w w' := by
  have q := fun w => equalIn_lit (a := addS 1 1) (addS_lt _ _) 2 (by decide) w
  have e1 : (addS 1 1 == 2) = true := by rw [addS_def]; decide
  have e2 : addO 1 1 = false := by rw [addO_def]; decide
  have M := Mem.begin w
  have F : True := trivial
  go_enter Try.func20, Try.ntmps20
  go_wp2_with (go_at_call 19; refine (add_calls (a := 1) (b := 1) (by decide) (by decide) _).mono ?_; rintro e w' ⟨rfl, hb⟩; have M := Mem.call (by (repeat (first | with_reducible exact M | with_reducible apply Mem.drew | with_reducible apply Mem.alloc | with_reducible apply Mem.allocAny))) hb; clear F; have F := M.cells; simp only [World.size_alloc, World.size_drew, Cells, cellsFrom, Value.cells, List.toList_toArray, Nat.zero_add, Nat.reduceAdd, List.setIfInBounds_toArray, List.set_cons_zero, List.set_cons_succ, List.cons_append, List.nil_append, and_true] at F; clear hb)
  go_outline
  go_goals
  go_ret
  exact ⟨rfl, by exact Mem.below (L := _) (by (repeat (first | with_reducible exact M | with_reducible apply Mem.drew | with_reducible apply Mem.alloc | with_reducible apply Mem.allocAny)))⟩
end Go.Proofs.Ytmfgldfldejgcaa
