/- TenTimes: a power of ten so often as another is one. -/
import Derived.Test.YtmfgldfldejgcaaRaw
import Derived.Test.YtmfgldfldejgcaaTells
import Derived.Test.YtmfgldfldejgcaaMul
import Derived.Test.YtmfgldfldejgcaaTen
import Derived.Test.YtmfgldfldejgcaaLawKit
namespace Go.Proofs.Ytmfgldfldejgcaa
set_option linter.unusedVariables false
set_option linter.unusedSimpArgs false
open Go.RowKit Go.ChangeShapes Go.WideShapes Go.ChangeAt

theorem ten_add (i j : Nat) : ten i * ten j = ten (i + j) := by simp only [ten_def, Nat.pow_add]
theorem ten_pos (k : Nat) : 0 < ten k := by rw [ten_def]; exact Nat.pow_pos (by decide)
set_option maxHeartbeats 4000000 in
theorem walkTenTimes (n m : Int) (hn : -9223372036854775808 ≤ n ∧ n ≤ 9223372036854775807) (hm : -9223372036854775808 ≤ m ∧ m ≤ 9223372036854775807) (w : World) :
    Calls Try.prog 11 #[.int .i64 n, .int .i64 m] w fun e w' => e = .returned (.bool true) ∧ Below w.heap.size w w' := by
  obtain ⟨hn1, hn2⟩ := hn
  obtain ⟨hm1, hm2⟩ := hm
  obtain ⟨i, hi, hi2⟩ : ∃ i : Nat, n % 78 = i ∧ i < 78 := ⟨(n % 78).toNat, by omega, by omega⟩
  obtain ⟨j, hj, hj2⟩ : ∃ j : Nat, m % (78 - (i : Int)) = j ∧ i + j < 78 := by
    have h0 := Int.emod_nonneg m (show (78 - (i : Int)) ≠ 0 by omega)
    have h1 := Int.emod_lt_of_pos m (show 0 < (78 - (i : Int)) by omega)
    exact ⟨(m % (78 - (i : Int))).toNat, by omega, by omega⟩
  have HP := Lib.hid (fun w => (show Calls Try.prog 15 #[.int .i64 n, .int .i64 78] w (fun e w' => e = .returned (.int .i64 i) ∧ w = w') from hi ▸ picked_calls n 78 (by omega) (by omega) hn1 hn2 w))
  have HQ := Lib.hid (fun w => (show Calls Try.prog 15 #[.int .i64 m, .int .i64 (78 - (i : Int))] w (fun e w' => e = .returned (.int .i64 j) ∧ w = w') from hj ▸ picked_calls m (78 - (i : Int)) (by omega) (by omega) hm1 hm2 w))
  have HT := Lib.hid (fun w => (show Calls Try.prog 27 #[.int .i64 ((i : Int) + (j : Int))] w _ from by have := ten_ok (i + j) hj2 w; rwa [Int.natCast_add] at this))
  have q := fun x y hx hy w => equalIn_u256 (a := x) (b := y) hx hy w
  clear hi hj
  have ti := ten_lt hi2
  have tj := ten_lt (k := j) (by omega)
  have tij := ten_lt hj2
  have q1 := fun w => equalIn_u256 (mulL_lt (ten i) (ten j)) tij w
  have q2 := fun w => equalIn_lit (mulH_lt ti tj) 0 (by decide) w
  have q3 := fun w => equalIn_lit tij 0 (by decide) w
  have e1 : (mulL (ten i) (ten j) == ten (i + j)) = true := by rw [mulL_def, ten_add, Nat.mod_eq_of_lt tij]; simp
  have e2 : (mulH (ten i) (ten j) == 0) = true := by rw [mulH_def, ten_add, Nat.div_eq_of_lt tij]; simp
  have e3 : (ten (i + j) == 0) = false := by have := ten_pos (i + j); simp; omega
  have M := Mem.begin w
  have F : True := trivial
  go_enter Try.func11, Try.ntmps11
  go_wp2_with first | (go_at_call 15; (with_reducible refine (HP.out _).mono ?_); rintro e w' ⟨rfl, rfl⟩) | (go_at_call 15; (with_reducible refine (HQ.out _).mono ?_); rintro e w' ⟨rfl, rfl⟩) | (go_at_call 27; (with_reducible refine (HT.out _).mono ?_); rintro e w' ⟨rfl, hb⟩; have M := Mem.call (by (repeat (first | with_reducible exact M | with_reducible apply Mem.drew | with_reducible apply Mem.alloc | with_reducible apply Mem.allocAny))) hb; clear F; have F := M.cells; simp only [World.size_alloc, World.size_drew, Cells, cellsFrom, Value.cells, List.toList_toArray, Nat.zero_add, Nat.reduceAdd, List.setIfInBounds_toArray, List.set_cons_zero, List.set_cons_succ, List.cons_append, List.nil_append, and_true] at F; clear hb) | (go_at_call 27; (with_reducible refine (ten_ok _ (by omega) _).mono ?_); rintro e w' ⟨rfl, hb⟩; have M := Mem.call (by (repeat (first | with_reducible exact M | with_reducible apply Mem.drew | with_reducible apply Mem.alloc | with_reducible apply Mem.allocAny))) hb; clear F; have F := M.cells; simp only [World.size_alloc, World.size_drew, Cells, cellsFrom, Value.cells, List.toList_toArray, Nat.zero_add, Nat.reduceAdd, List.setIfInBounds_toArray, List.set_cons_zero, List.set_cons_succ, List.cons_append, List.nil_append, and_true] at F; clear hb) | (go_at_call 27; (with_reducible refine (ten_bad _ (by omega) _).mono ?_); rintro e w' ⟨rfl, hb⟩; have M := Mem.call (by (repeat (first | with_reducible exact M | with_reducible apply Mem.drew | with_reducible apply Mem.alloc | with_reducible apply Mem.allocAny))) hb; clear F; have F := M.cells; simp only [World.size_alloc, World.size_drew, Cells, cellsFrom, Value.cells, List.toList_toArray, Nat.zero_add, Nat.reduceAdd, List.setIfInBounds_toArray, List.set_cons_zero, List.set_cons_succ, List.cons_append, List.nil_append, and_true] at F; clear hb) | (go_at_call 26; (with_reducible refine (mul_calls ti tj _).mono ?_); rintro e w' ⟨rfl, hb⟩; have M := Mem.call (by (repeat (first | with_reducible exact M | with_reducible apply Mem.drew | with_reducible apply Mem.alloc | with_reducible apply Mem.allocAny))) hb; clear F; have F := M.cells; simp only [World.size_alloc, World.size_drew, Cells, cellsFrom, Value.cells, List.toList_toArray, Nat.zero_add, Nat.reduceAdd, List.setIfInBounds_toArray, List.set_cons_zero, List.set_cons_succ, List.cons_append, List.nil_append, and_true] at F; clear hb)
  go_ret
  exact ⟨rfl, by exact Mem.below (L := _) (by (repeat (first | with_reducible exact M | with_reducible apply Mem.drew | with_reducible apply Mem.alloc | with_reducible apply Mem.allocAny)))⟩

namespace lawTenTimes
set_option linter.unusedVariables false
set_option maxRecDepth 100000 in
theorem lifted (os : Os) (started : os.Started) (H : Type) (enc : TypeId × Value → H) :
    ReturnsInHanded {} Try.checked os 11 .any (Rows.tenTimesSpec.pre6 enc Try.prog Try.f11 Rows.tenTimesRow.domain false) (Rows.tenTimesSpec.post enc Try.prog Try.f11 false true false false) := by
  refine returnsInHanded_of_change (C := Try.checked) rowOwn started (by kernel_rfl) Try.func11
    (ChangeSpec.witness6 (enc := enc) (C := Try.checked) false ⟨#[], #[.int .i64 0, .int .i64 0], []⟩ 8 (by kernel_rfl) (by kernel_rfl) (by kernel_rfl) (by kernel_rfl)) ?_
  intro W base args ds gs before hval0 hW hcnd _
  have hval : ∀ (j : Nat) t v, Try.f11.params[j]? = some t → args[j]? = some v → Value.okWide Try.prog W .any base t v := hval0
  have hW' := hW
  obtain ⟨p, q, hA0, hV, rfl, hfz, hnd⟩ := hW
  have hA : DataW.TrodAll enc Try.prog W 0 (fun _ => true) true Try.f11.params.toList args.toList ds p := hA0
  rw [Try.params11] at hA hval
  obtain ⟨v0, vs0, d0, ds0, p0, q0, hargs, rfl, rfl, h0, r0⟩ := trodAll_cons hA
  obtain ⟨v1, vs1, d1, ds1, p1, q1, rfl, rfl, rfl, h1, r1⟩ := trodAll_cons r0
  obtain ⟨rfl, rfl, rfl⟩ := trodAll_nil r1
  obtain rfl : args = #[v0, v1] := by cases args; simp_all
  obtain ⟨rfl, rfl⟩ := trodVars_none hV
  obtain ⟨a0, rfl, rfl, rfl, w0⟩ := open_int Try.underlying3 (hval 0 3 v0 rfl rfl) h0
  obtain ⟨a1, rfl, rfl, rfl, w1⟩ := open_int Try.underlying3 (hval 1 3 v1 rfl rfl) h1
  clear hA0 hval0
  refine (walkTenTimes a0 a1 (bounds_i64 w0) (bounds_i64 w1) W).mono fun e W' ⟨he, bel⟩ => ?_
  subst he
  exact ⟨_, rfl, _, _, _, [], _, [], hW', trodAll_mk1 (shut_bool Try.underlying4 _), (trodAll_cons_mk (shut_int Try.underlying3 w0) (trodAll_cons_mk (shut_int Try.underlying3 w1) trodAll_mk0)), rfl, bel.frame _, fun h => by cases h⟩
theorem over : Rows.tenTimesRow.holds Try.pinned (OpenSpec.ofChange Rows.tenTimesSpec) :=
  OpenClaim.holds_of_wide 11 Try.f11 rfl rfl rfl rfl rfl rfl rfl ⟨rfl, rfl, rfl, rfl, rfl⟩ rfl rfl rfl rfl rfl (by kernel_rfl) Try.func11 (by kernel_rfl)
    (of_decide_eq_true (by kernel_rfl)) (by unfold Func.isWrapper; first | (rw [if_pos (by decide +kernel)]; kernel_rfl) | (rw [if_neg (by decide +kernel)]; exact ⟨rfl, rfl⟩))
    (fun os started H enc _ => lifted os started H enc)
theorem proved : Rows.TenTimesSaid := over
end lawTenTimes

end Go.Proofs.Ytmfgldfldejgcaa
