/- OrderSubs: one number is smaller than another just if taking that away goes under. -/
import Derived.Test.YtmfgldfldejgcaaRaw
import Derived.Test.YtmfgldfldejgcaaTells
import Derived.Test.YtmfgldfldejgcaaCmp
import Derived.Test.YtmfgldfldejgcaaLawKit
namespace Go.Proofs.Ytmfgldfldejgcaa
set_option linter.unusedVariables false
set_option linter.unusedSimpArgs false
open Go.RowKit Go.ChangeShapes Go.WideShapes Go.ChangeAt

theorem subO_cmp (a b : Nat) : subO a b = decide (cmpN a b < 0) := by
  rw [subO_def, decide_eq_decide, cmpN_neg]
theorem subS_zero {a b : Nat} (ha : a < T256) (hb : b < T256) : (subS a b == 0) = (cmpN a b == 0) := by
  rw [Bool.eq_iff_iff, beq_iff_eq, beq_iff_eq, cmpN_zero]
  rw [subS_def]
  rw [T256_lit] at *
  omega
theorem cmpN_wrap (a b : Nat) : cmpN b a = wrap64 (-cmpN a b) := by
  rw [cmpN_swap]
  have : -1 ≤ cmpN a b ∧ cmpN a b ≤ 1 := by rw [cmpN_def]; split <;> (try split) <;> omega
  unfold wrap64; omega

set_option maxHeartbeats 1000000 in
theorem walkOrderSubs {k0 a0 b0 k1 a1 b1 : Int} {s0 s1 : ByteArray} (v0 v1 : Value) (h0 : RawV v0 k0 a0 b0 s0) (h1 : RawV v1 k1 a1 b1 s1) (w : World) :
    Calls Try.prog 6 #[v0, v1] w fun e w' => e = .returned (.bool true) ∧ Below w.heap.size w w' := by
  have H0 := h0
  obtain ⟨rfl, h0⟩ := h0
  clear h0
  have H1 := h1
  obtain ⟨rfl, h1⟩ := h1
  clear h1
  have M := Mem.begin w
  have F : True := trivial

  go_enter Try.func6, Try.ntmps6
  go_wp2_with fail
  refine wp_join [.val (.agg #[.int .i64 k0, .int .i64 a0, .int .i64 b0, .string s0]), .val (u256 (rawNum k0 a0 b0)), .val (.agg #[.int .i64 k1, .int .i64 a1, .int .i64 b1, .string s1]), .val (u256 (rawNum k1 a1 b1)), .new 32 (u256 0).cells, .new 32 (u256 0).cells, .put 4 (u256 (rawNum k0 a0 b0)).cells, .put 5 (u256 (rawNum k1 a1 b1)).cells] (by kernel_rfl) (by kernel_rfl) ?_ ?_
  · simp only [Obls, List.zip_cons_cons, List.zip_nil_right, finL, List.setIfInBounds_toArray, List.set_cons_zero, List.set_cons_succ]
    refine ⟨?_, ?_, ?_, ?_, ?_, ?_, ?_, ?_, trivial⟩
    any_goals (intro w1 hb; have hc := (bcell hb).1; clear hb; go_simp; first | exact And.intro rfl (Below.refl _ _) | (exact number_calls (by assumption) _))
    any_goals (intro r w1; kernel_rfl)
    any_goals (exact put_row rfl (by kernel_rfl) (by simp [Value.cells, Value.oneCell']))
  · intro ρ w1 hb hf hd
    have M := Mem.join (by (repeat (first | with_reducible exact M | with_reducible apply Mem.drew | with_reducible apply Mem.alloc | with_reducible apply Mem.allocAny))) hb hf hd
    clear F hb hf hd
    simp only [finL, List.setIfInBounds_toArray, List.set_cons_zero, List.set_cons_succ, Nat.zero_add, Nat.reduceAdd]
    simp only [joined, content, Nat.zero_add, Nat.reduceAdd, Nat.reduceEqDiff, if_true, if_false, List.cons_append, List.nil_append, World.size_alloc, World.size_drew] at M
    generalize ρ 4 = q0 at *
    generalize ρ 5 = q1 at *
    clear H0 H1
    have F := M.cells; simp only [World.size_alloc, World.size_drew, Cells, cellsFrom, Value.cells, List.toList_toArray, Nat.zero_add, Nat.reduceAdd, List.setIfInBounds_toArray, List.set_cons_zero, List.set_cons_succ, List.cons_append, List.nil_append, and_true] at F
    have T0 := rawNum_lt k0 a0 b0
    generalize rawNum k0 a0 b0 = n0 at *
    have T1 := rawNum_lt k1 a1 b1
    generalize rawNum k1 a1 b1 = n1 at *

    have q := fun w => equalIn_lit (subS_lt n0 n1) 0 (by decide) w
    have e1 := subO_cmp n0 n1
    have e2 := subS_zero T0 T1
    have e3 : (cmpN n1 n0 == wrap64 (-cmpN n0 n1)) = true := by rw [cmpN_wrap n0 n1]; simp
    have e4 : (cmpN 1 0 == 1) = true := by rw [cmpN_gt (by decide)]; rfl
    go_wp2_with first | (go_at_call 21; refine (sub_calls (by assumption) (by assumption) _).mono ?_; rintro e w' ⟨rfl, hb⟩; have M := Mem.call (by (repeat (first | with_reducible exact M | with_reducible apply Mem.drew | with_reducible apply Mem.alloc | with_reducible apply Mem.allocAny))) hb; clear F; have F := M.cells; simp only [World.size_alloc, World.size_drew, Cells, cellsFrom, Value.cells, List.toList_toArray, Nat.zero_add, Nat.reduceAdd, List.setIfInBounds_toArray, List.set_cons_zero, List.set_cons_succ, List.cons_append, List.nil_append, and_true] at F; clear hb) | (go_at_call 20; refine (tells _).mono ?_; rintro e w' ⟨rfl, hb⟩; have M := Mem.call (by (repeat (first | with_reducible exact M | with_reducible apply Mem.drew | with_reducible apply Mem.alloc | with_reducible apply Mem.allocAny))) hb; clear F; have F := M.cells; simp only [World.size_alloc, World.size_drew, Cells, cellsFrom, Value.cells, List.toList_toArray, Nat.zero_add, Nat.reduceAdd, List.setIfInBounds_toArray, List.set_cons_zero, List.set_cons_succ, List.cons_append, List.nil_append, and_true] at F; clear hb) | (go_at_call 22; (with_reducible refine (cmp_calls T0 T1 _).mono ?_); rintro e w' ⟨rfl, hb⟩; have M := Mem.call (by (repeat (first | with_reducible exact M | with_reducible apply Mem.drew | with_reducible apply Mem.alloc | with_reducible apply Mem.allocAny))) hb; clear F; have F := M.cells; simp only [World.size_alloc, World.size_drew, Cells, cellsFrom, Value.cells, List.toList_toArray, Nat.zero_add, Nat.reduceAdd, List.setIfInBounds_toArray, List.set_cons_zero, List.set_cons_succ, List.cons_append, List.nil_append, and_true] at F; clear hb) | (go_at_call 22; (with_reducible refine (cmp_calls T1 T0 _).mono ?_); rintro e w' ⟨rfl, hb⟩; have M := Mem.call (by (repeat (first | with_reducible exact M | with_reducible apply Mem.drew | with_reducible apply Mem.alloc | with_reducible apply Mem.allocAny))) hb; clear F; have F := M.cells; simp only [World.size_alloc, World.size_drew, Cells, cellsFrom, Value.cells, List.toList_toArray, Nat.zero_add, Nat.reduceAdd, List.setIfInBounds_toArray, List.set_cons_zero, List.set_cons_succ, List.cons_append, List.nil_append, and_true] at F; clear hb) | (go_at_call 22; refine (cmp_calls (a := 1) (b := 0) (by decide) (by decide) _).mono ?_; rintro e w' ⟨rfl, hb⟩; have M := Mem.call (by (repeat (first | with_reducible exact M | with_reducible apply Mem.drew | with_reducible apply Mem.alloc | with_reducible apply Mem.allocAny))) hb; clear F; have F := M.cells; simp only [World.size_alloc, World.size_drew, Cells, cellsFrom, Value.cells, List.toList_toArray, Nat.zero_add, Nat.reduceAdd, List.setIfInBounds_toArray, List.set_cons_zero, List.set_cons_succ, List.cons_append, List.nil_append, and_true] at F; clear hb)
    go_goals
    go_ret
    exact ⟨rfl, by exact Mem.below (L := _) (by (repeat (first | with_reducible exact M | with_reducible apply Mem.drew | with_reducible apply Mem.alloc | with_reducible apply Mem.allocAny)))⟩

namespace lawOrderSubs
set_option linter.unusedVariables false
set_option maxRecDepth 100000 in
theorem lifted (os : Os) (started : os.Started) (H : Type) (enc : TypeId × Value → H) :
    ReturnsInHanded {} Try.checked os 6 .any (Rows.orderSubsSpec.pre6 enc Try.prog Try.f6 Rows.orderSubsRow.domain false) (Rows.orderSubsSpec.post enc Try.prog Try.f6 false true false false) := by
  refine returnsInHanded_of_change (C := Try.checked) rowOwn started (by kernel_rfl) Try.func6
    (ChangeSpec.witness6 (enc := enc) (C := Try.checked) false ⟨#[], #[.agg #[.int .i64 0, .int .i64 0, .int .i64 0, .string ByteArray.empty], .agg #[.int .i64 0, .int .i64 0, .int .i64 0, .string ByteArray.empty]], []⟩ 8 (by kernel_rfl) (by kernel_rfl) (by kernel_rfl) (by kernel_rfl)) ?_
  intro W base args ds gs before hval0 hW hcnd _
  have hval : ∀ (j : Nat) t v, Try.f6.params[j]? = some t → args[j]? = some v → Value.okWide Try.prog W .any base t v := hval0
  have hW' := hW
  obtain ⟨p, q, hA0, hV, rfl, hfz, hnd⟩ := hW
  have hA : DataW.TrodAll enc Try.prog W 0 (fun _ => true) true Try.f6.params.toList args.toList ds p := hA0
  rw [Try.params6] at hA hval
  obtain ⟨v0, vs0, d0, ds0, p0, q0, hargs, rfl, rfl, h0, r0⟩ := trodAll_cons hA
  obtain ⟨v1, vs1, d1, ds1, p1, q1, rfl, rfl, rfl, h1, r1⟩ := trodAll_cons r0
  obtain ⟨rfl, rfl, rfl⟩ := trodAll_nil r1
  obtain rfl : args = #[v0, v1] := by cases args; simp_all
  obtain ⟨rfl, rfl⟩ := trodVars_none hV
  have k0 := h0
  have lt0 : ∀ x ∈ p0, x.block < W.heap.size := by obtain ⟨m, hm⟩ := k0; exact DataW.trod_lt m _ _ _ hm
  obtain ⟨_, _, _, _, u0⟩ := raw_open (hval 0 29 v0 rfl rfl) h0
  have k1 := h1
  have lt1 : ∀ x ∈ p1, x.block < W.heap.size := by obtain ⟨m, hm⟩ := k1; exact DataW.trod_lt m _ _ _ hm
  obtain ⟨_, _, _, _, u1⟩ := raw_open (hval 1 29 v1 rfl rfl) h1
  clear hA0 hval0
  refine (walkOrderSubs _ _ u0 u1 W).mono fun e W' ⟨he, bel⟩ => ?_
  subst he
  exact ⟨_, rfl, _, _, _, [], _, [], hW', trodAll_mk1 (shut_bool Try.underlying4 _), (trodAll_cons_mk (Below.trod rowLaid (by kernel_rfl) (of_decide_eq_true (by kernel_rfl)) k0 bel lt0) (trodAll_cons_mk (Below.trod rowLaid (by kernel_rfl) (of_decide_eq_true (by kernel_rfl)) k1 bel lt1) trodAll_mk0)), rfl, bel.frame _, fun h => by cases h⟩
theorem over : Rows.orderSubsRow.holds Try.pinned (OpenSpec.ofChange Rows.orderSubsSpec) :=
  OpenClaim.holds_of_wide 6 Try.f6 rfl rfl rfl rfl rfl rfl rfl ⟨rfl, rfl, rfl, rfl, rfl⟩ rfl rfl rfl rfl rfl (by kernel_rfl) Try.func6 (by kernel_rfl)
    (of_decide_eq_true (by kernel_rfl)) (by unfold Func.isWrapper; first | (rw [if_pos (by decide +kernel)]; kernel_rfl) | (rw [if_neg (by decide +kernel)]; exact ⟨rfl, rfl⟩))
    (fun os started H enc _ => lifted os started H enc)
theorem proved : Rows.OrderSubsSaid := over
end lawOrderSubs

end Go.Proofs.Ytmfgldfldejgcaa
