/- The contract of wide.Ten: a power of ten. -/
import Derived.Test.YtmfgldfldejgcaaRows
import Derived.Test.YtmfgldfldejgcaaNum
import Derived.Test.YtmfgldfldejgcaaMul
import Derived.Test.YtmfgldfldejgcaaMem
import Derived.WalkKit
import Derived.WalkSpells
import Derived.WalkLawsBesides
namespace Go.Proofs.Ytmfgldfldejgcaa
set_option linter.unusedVariables false
set_option linter.unusedSimpArgs false
open Go.RowKit

theorem ten_ex : ∃ f : Nat → Nat, ∀ k, f k = 10 ^ k := ⟨_, fun _ => rfl⟩
noncomputable def ten : Nat → Nat := Classical.choose ten_ex
theorem ten_def (k : Nat) : ten k = 10 ^ k := Classical.choose_spec ten_ex k
theorem ten_lt {k : Nat} (h : k < 78) : ten k < T256 := by
  rw [ten_def]
  exact Nat.lt_of_le_of_lt (Nat.pow_le_pow_right (by decide) (show k ≤ 77 by omega)) (by decide)
theorem ten_succ {k : Nat} (h : k + 1 < 78) : mulL (ten k) 10 = ten (k + 1) := by
  have := ten_lt h
  rw [mulL_def, ten_def, ← Nat.pow_succ, ← ten_def (k + 1), Nat.mod_eq_of_lt this]

set_option maxHeartbeats 2000000 in
theorem ten_ok (n : Nat) (hn : n < 78) (w : World) :
    Calls Try.prog 27 #[.int .i64 n] w fun e w' => e = .returned (.tuple #[u256 (ten n), .int .i64 0]) ∧ Below w.heap.size w w' := by
  have M := Mem.begin w
  have F : True := trivial
  have g1 : decide ((n : Int) < 0) = false := by simp
  have g2 : decide (78 ≤ (n : Int)) = false := by simp; omega
  have g3 : (n : Int) < 78 := by omega
  have HM := Lib.hid (fun a (h : a < T256) w => (show Calls Try.prog 26 #[u256 a, .agg #[.int .u64 10, .int .u64 0, .int .u64 0, .int .u64 0]] w _ from mul_calls (a := a) (b := 10) h (by decide) w))
  have z0 := ten_def 0
  go_enter Try.func27, Try.ntmps27
  go_wp2
  go_loopw [14] (fun i wr => ∃ k : Nat, k ≤ n ∧ i = .int .i64 k ∧ Mem w.heap.size w wr [(w.heap.size + 1, (u256 (ten k)).cells, 32), (w.heap.size, (u256 0).cells, 32)]) (fun i _ => n - (intOf i).toNat)
  case atStart =>
    refine ⟨0, by omega, rfl, Mem.cast (by (repeat (first | with_reducible exact M | with_reducible apply Mem.drew | with_reducible apply Mem.alloc | with_reducible apply Mem.allocAny))) ?_⟩
    simp only [World.size_alloc, ten_def]
    rfl
  case round =>
    obtain ⟨k, hk, rfl, hM⟩ := hrel
    clear M F
    have M := hM
    clear hM
    have F := M.cells; simp only [World.size_alloc, World.size_drew, Cells, cellsFrom, Value.cells, List.toList_toArray, Nat.zero_add, Nat.reduceAdd, List.setIfInBounds_toArray, List.set_cons_zero, List.set_cons_succ, List.cons_append, List.nil_append, and_true] at F
    by_cases hlt : k < n
    · have ek := Lib.hid (ten_succ (k := k) (by omega))
      have hkt := ten_lt (k := k) (by omega)
      go_wp2_with (go_at_call 26; (with_reducible refine (HM.out _ hkt _).mono ?_); rintro e w' ⟨rfl, hb⟩; have M := Mem.call (by (repeat (first | with_reducible exact M | with_reducible apply Mem.drew | with_reducible apply Mem.alloc | with_reducible apply Mem.allocAny))) hb; clear F; have F := M.cells; simp only [World.size_alloc, World.size_drew, Cells, cellsFrom, Value.cells, List.toList_toArray, Nat.zero_add, Nat.reduceAdd, List.setIfInBounds_toArray, List.set_cons_zero, List.set_cons_succ, List.cons_append, List.nil_append, and_true] at F; clear hb; have D := M.dist; simp only [Dist, DistFrom, and_true, World.size_alloc, World.size_drew, World.size_setCell] at D)
      go_roundw
      case rel =>
        refine ⟨k + 1, by omega, by go_num, Mem.cast (by ((repeat (first | with_reducible exact M | with_reducible apply Mem.drew | with_reducible apply Mem.alloc | with_reducible apply Mem.setCellU | with_reducible apply Mem.allocAny)) <;> simp [updL, D])) ?_⟩
        rw [ek.out]
        simp [updL, D]
        rfl
      case measure => simp [intOf]; omega
    · obtain rfl : n = k := by omega
      have D := M.dist; simp only [Dist, DistFrom, and_true, World.size_alloc, World.size_drew, World.size_setCell] at D
      go_wp2
      exact bodyPost_ret (v := .tuple #[u256 (ten n), .int .i64 0]) (by simp [results, Try.results27, go_sem, F, D]) rfl ⟨rfl, by exact Mem.below (L := _) (by ((repeat (first | with_reducible exact M | with_reducible apply Mem.drew | with_reducible apply Mem.alloc | with_reducible apply Mem.setCellU | with_reducible apply Mem.allocAny)) <;> simp [updL, D]))⟩

set_option maxHeartbeats 2000000 in
theorem ten_bad (n : Int) (hn : n < 0 ∨ 78 ≤ n) (w : World) :
    Calls Try.prog 27 #[.int .i64 n] w fun e w' => e = .returned (.tuple #[u256 0, .int .i64 6]) ∧ Below w.heap.size w w' := by
  have M := Mem.begin w
  by_cases g : n < 0
  · have g1 : decide (n < 0) = true := by simp; omega
    clear hn
    go_enter Try.func27, Try.ntmps27
    go_wp2
    exact bodyPost_ret (v := .tuple #[u256 0, .int .i64 6]) (by simp [results, Try.results27, go_sem, lim]) rfl ⟨rfl, by exact Mem.below (L := _) (by (repeat (first | with_reducible exact M | with_reducible apply Mem.drew | with_reducible apply Mem.alloc | with_reducible apply Mem.allocAny)))⟩
  · have g1 : decide (n < 0) = false := by simp; omega
    have g2 : decide (78 ≤ n) = true := by simp; omega
    clear hn
    go_enter Try.func27, Try.ntmps27
    go_wp2
    exact bodyPost_ret (v := .tuple #[u256 0, .int .i64 6]) (by simp [results, Try.results27, go_sem, lim]) rfl ⟨rfl, by exact Mem.below (L := _) (by (repeat (first | with_reducible exact M | with_reducible apply Mem.drew | with_reducible apply Mem.alloc | with_reducible apply Mem.allocAny)))⟩
end Go.Proofs.Ytmfgldfldejgcaa
