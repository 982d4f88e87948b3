/- DivBack: what is divided comes back from the quotient and the rest; by nought nothing is divided. -/
import Derived.Test.YtmfgldfldejgcaaRaw
import Derived.Test.YtmfgldfldejgcaaTells
import Derived.Test.YtmfgldfldejgcaaMul
import Derived.Test.YtmfgldfldejgcaaDiv
import Derived.Test.YtmfgldfldejgcaaLawKit
namespace Go.Proofs.Ytmfgldfldejgcaa
set_option linter.unusedVariables false
set_option linter.unusedSimpArgs false
open Go.RowKit Go.ChangeShapes Go.WideShapes Go.ChangeAt

set_option maxHeartbeats 2000000 in
theorem walkDivBack {k0 a0 b0 k1 a1 b1 : Int} {s0 s1 : ByteArray} (v0 v1 : Value) (h0 : RawV v0 k0 a0 b0 s0) (h1 : RawV v1 k1 a1 b1 s1) (w : World) :
    Calls Try.prog 12 #[v0, v1] w fun e w' => e = .returned (.bool true) ∧ Below w.heap.size w w' := by
  have H0 := h0
  obtain ⟨rfl, h0⟩ := h0
  clear h0
  have H1 := h1
  obtain ⟨rfl, h1⟩ := h1
  clear h1
  have M := Mem.begin w
  have F : True := trivial

  go_enter Try.func12, Try.ntmps12
  go_wp2_with fail
  refine wp_join [.val (.agg #[.int .i64 k0, .int .i64 a0, .int .i64 b0, .string s0]), .val (u256 (rawNum k0 a0 b0)), .val (.agg #[.int .i64 k1, .int .i64 a1, .int .i64 b1, .string s1]), .val (u256 (rawNum k1 a1 b1)), .new 32 (u256 0).cells, .new 32 (u256 0).cells, .put 4 (u256 (rawNum k0 a0 b0)).cells, .put 5 (u256 (rawNum k1 a1 b1)).cells] (by kernel_rfl) (by kernel_rfl) rfl ?_ ?_
  · simp only [Obls, List.zip_cons_cons, List.zip_nil_right, finL, List.setIfInBounds_toArray, List.set_cons_zero, List.set_cons_succ]
    refine ⟨?_, ?_, ?_, ?_, ?_, ?_, ?_, ?_, trivial⟩
    any_goals (intro w1 hb; have hc := (ExB.cells hb).1; clear hb; go_simp; first | exact And.intro rfl (Below.refl _ _) | (exact number_calls (by assumption) _))
    any_goals (intro r w1; kernel_rfl)
    any_goals (exact put_row rfl (by kernel_rfl) (by simp [Value.cells, Value.oneCell']))
  · intro ρ w1 hb hf hd
    have M := Mem.join (by (repeat (first | with_reducible exact M | with_reducible apply Mem.drew | with_reducible apply Mem.alloc | with_reducible apply Mem.allocAny))) hb hf hd
    clear F hb hf hd
    simp only [finL, List.setIfInBounds_toArray, List.set_cons_zero, List.set_cons_succ, Nat.zero_add, Nat.reduceAdd]
    simp only [joined, content, Nat.zero_add, Nat.reduceAdd, Nat.reduceEqDiff, if_true, if_false, List.cons_append, List.nil_append, World.size_alloc, World.size_drew] at M
    generalize ρ 4 = q0 at *
    generalize ρ 5 = q1 at *
    clear H0 H1
    have M := M.take 2
    simp only [List.take_succ_cons, List.take_zero] at M
    have F := M.cells; simp only [World.size_alloc, World.size_drew, Cells, cellsFrom, Value.cells, List.toList_toArray, Nat.zero_add, Nat.reduceAdd, List.setIfInBounds_toArray, List.set_cons_zero, List.set_cons_succ, List.cons_append, List.nil_append, and_true] at F
    have T0 := rawNum_lt k0 a0 b0
    generalize rawNum k0 a0 b0 = n0 at *
    have T1 := rawNum_lt k1 a1 b1
    generalize rawNum k1 a1 b1 = n1 at *

    rcases Nat.eq_zero_or_pos n1 with h0 | hpos
    · have q1 := fun w => equalIn_lit T1 0 (by decide) w
      have q0 : (n1 == 0) = true := by simp [h0]
      have HZ := Lib.hid (fun w => (show Calls Try.prog 28 #[u256 n0, u256 n1] w _ from by rw [h0]; exact div_zero n0 T0 w))
      clear h0
      go_wp2_with (go_at_call 28; (with_reducible refine (HZ.out _).mono ?_); rintro e w' ⟨rfl, hb⟩; have M := Mem.call (by (repeat (first | with_reducible exact M | with_reducible apply Mem.drew | with_reducible apply Mem.alloc | with_reducible apply Mem.allocAny))) hb; clear F; have F := M.cells; simp only [World.size_alloc, World.size_drew, Cells, cellsFrom, Value.cells, List.toList_toArray, Nat.zero_add, Nat.reduceAdd, List.setIfInBounds_toArray, List.set_cons_zero, List.set_cons_succ, List.cons_append, List.nil_append, and_true] at F; clear hb)
      go_goals
      go_ret
      exact ⟨rfl, by exact Mem.below (L := _) (by (repeat (first | with_reducible exact M | with_reducible apply Mem.drew | with_reducible apply Mem.alloc | with_reducible apply Mem.allocAny)))⟩
    · have q1 := fun w => equalIn_lit T1 0 (by decide) w
      have q0 : (n1 == 0) = false := by simp; omega
      have hd : divN n0 n1 * n1 + modN n0 n1 = n0 := by rw [divN_def, modN_def, Nat.mul_comm]; exact Nat.div_add_mod _ _
      have hr : modN n0 n1 < n1 := by rw [modN_def]; exact Nat.mod_lt _ hpos
      have td := divN_lt n1 T0
      have tm := modN_lt n1 T0
      have HD := Lib.hid (fun w => div_pos n0 n1 T0 T1 hpos w)
      generalize divN n0 n1 = d at *
      generalize modN n0 n1 = r at *
      have q2 := fun w => equalIn_lit (mulH_lt td T1) 0 (by decide) w
      have q3 := fun w => equalIn_u256 (addS_lt (mulL d n1) r) T0 w
      have hm : d * n1 < T256 := by omega
      have e1 : (mulH d n1 == 0) = true := by rw [mulH_def, Nat.div_eq_of_lt hm]; simp
      have e2 : mulL d n1 = d * n1 := by rw [mulL_def, Nat.mod_eq_of_lt hm]
      have e3 : (addS (mulL d n1) r == n0) = true := by rw [e2, addS_def, hd, Nat.mod_eq_of_lt T0]; simp
      have e4 : addO (mulL d n1) r = false := by rw [e2, addO_def, hd]; simp; exact T0
      have e5 : cmpN r n1 = -1 := cmpN_lt hr
      have tl := mulL_lt d n1
      clear e2
      go_wp2_with first | (go_at_call 28; (with_reducible refine (HD.out _).mono ?_); rintro e w' ⟨rfl, hb⟩; have M := Mem.call (by (repeat (first | with_reducible exact M | with_reducible apply Mem.drew | with_reducible apply Mem.alloc | with_reducible apply Mem.allocAny))) hb; clear F; have F := M.cells; simp only [World.size_alloc, World.size_drew, Cells, cellsFrom, Value.cells, List.toList_toArray, Nat.zero_add, Nat.reduceAdd, List.setIfInBounds_toArray, List.set_cons_zero, List.set_cons_succ, List.cons_append, List.nil_append, and_true] at F; clear hb) | (go_at_call 20; refine (tells _).mono ?_; rintro e w' ⟨rfl, hb⟩; have M := Mem.call (by (repeat (first | with_reducible exact M | with_reducible apply Mem.drew | with_reducible apply Mem.alloc | with_reducible apply Mem.allocAny))) hb; clear F; have F := M.cells; simp only [World.size_alloc, World.size_drew, Cells, cellsFrom, Value.cells, List.toList_toArray, Nat.zero_add, Nat.reduceAdd, List.setIfInBounds_toArray, List.set_cons_zero, List.set_cons_succ, List.cons_append, List.nil_append, and_true] at F; clear hb) | (go_at_call 26; (with_reducible refine (mul_calls td T1 _).mono ?_); rintro e w' ⟨rfl, hb⟩; have M := Mem.call (by (repeat (first | with_reducible exact M | with_reducible apply Mem.drew | with_reducible apply Mem.alloc | with_reducible apply Mem.allocAny))) hb; clear F; have F := M.cells; simp only [World.size_alloc, World.size_drew, Cells, cellsFrom, Value.cells, List.toList_toArray, Nat.zero_add, Nat.reduceAdd, List.setIfInBounds_toArray, List.set_cons_zero, List.set_cons_succ, List.cons_append, List.nil_append, and_true] at F; clear hb) | (go_at_call 19; (with_reducible refine (add_calls tl tm _).mono ?_); rintro e w' ⟨rfl, hb⟩; have M := Mem.call (by (repeat (first | with_reducible exact M | with_reducible apply Mem.drew | with_reducible apply Mem.alloc | with_reducible apply Mem.allocAny))) hb; clear F; have F := M.cells; simp only [World.size_alloc, World.size_drew, Cells, cellsFrom, Value.cells, List.toList_toArray, Nat.zero_add, Nat.reduceAdd, List.setIfInBounds_toArray, List.set_cons_zero, List.set_cons_succ, List.cons_append, List.nil_append, and_true] at F; clear hb) | (go_at_call 22; (with_reducible refine (cmp_calls tm T1 _).mono ?_); rintro e w' ⟨rfl, hb⟩; have M := Mem.call (by (repeat (first | with_reducible exact M | with_reducible apply Mem.drew | with_reducible apply Mem.alloc | with_reducible apply Mem.allocAny))) hb; clear F; have F := M.cells; simp only [World.size_alloc, World.size_drew, Cells, cellsFrom, Value.cells, List.toList_toArray, Nat.zero_add, Nat.reduceAdd, List.setIfInBounds_toArray, List.set_cons_zero, List.set_cons_succ, List.cons_append, List.nil_append, and_true] at F; clear hb)
      go_goals
      go_ret
      exact ⟨rfl, by exact Mem.below (L := _) (by (repeat (first | with_reducible exact M | with_reducible apply Mem.drew | with_reducible apply Mem.alloc | with_reducible apply Mem.allocAny)))⟩

namespace lawDivBack
set_option linter.unusedVariables false
set_option maxRecDepth 100000 in
theorem lifted (os : Os) (started : os.Started) (H : Type) (enc : TypeId × Value → H) :
    ReturnsInHanded {} Try.checked os 12 .any (Rows.divBackSpec.pre6 enc Try.prog Try.f12 Rows.divBackRow.domain false) (Rows.divBackSpec.post enc Try.prog Try.f12 false true false false) := by
  refine returnsInHanded_of_change (C := Try.checked) rowOwn started (by kernel_rfl) Try.func12
    (ChangeSpec.witness6 (enc := enc) (C := Try.checked) false ⟨#[], #[.agg #[.int .i64 0, .int .i64 0, .int .i64 0, .string ByteArray.empty], .agg #[.int .i64 0, .int .i64 0, .int .i64 0, .string ByteArray.empty]], []⟩ 8 (by kernel_rfl) (by kernel_rfl) (by kernel_rfl) (by kernel_rfl)) ?_
  intro W base args ds gs before hval0 hW hcnd _
  have hval : ∀ (j : Nat) t v, Try.f12.params[j]? = some t → args[j]? = some v → Value.okWide Try.prog W .any base t v := hval0
  have hW' := hW
  obtain ⟨p, q, hA0, hV, rfl, hfz, hnd⟩ := hW
  have hA : DataW.TrodAll enc Try.prog W 0 (fun _ => true) true Try.f12.params.toList args.toList ds p := hA0
  rw [Try.params12] at hA hval
  obtain ⟨v0, vs0, d0, ds0, p0, q0, hargs, rfl, rfl, h0, r0⟩ := trodAll_cons hA
  obtain ⟨v1, vs1, d1, ds1, p1, q1, rfl, rfl, rfl, h1, r1⟩ := trodAll_cons r0
  obtain ⟨rfl, rfl, rfl⟩ := trodAll_nil r1
  obtain rfl : args = #[v0, v1] := by cases args; simp_all
  obtain ⟨rfl, rfl⟩ := trodVars_none hV
  have k0 := h0
  have lt0 : ∀ x ∈ p0, x.block < W.heap.size := by obtain ⟨m, hm⟩ := k0; exact DataW.trod_lt m _ _ _ hm
  obtain ⟨_, _, _, _, u0⟩ := raw_open (hval 0 29 v0 rfl rfl) h0
  have k1 := h1
  have lt1 : ∀ x ∈ p1, x.block < W.heap.size := by obtain ⟨m, hm⟩ := k1; exact DataW.trod_lt m _ _ _ hm
  obtain ⟨_, _, _, _, u1⟩ := raw_open (hval 1 29 v1 rfl rfl) h1
  clear hA0 hval0
  refine (walkDivBack _ _ u0 u1 W).mono fun e W' ⟨he, bel⟩ => ?_
  subst he
  exact ⟨_, rfl, _, _, _, [], _, [], hW', trodAll_mk1 (shut_bool Try.underlying4 _), (trodAll_cons_mk (Below.trod rowLaid (by kernel_rfl) (of_decide_eq_true (by kernel_rfl)) k0 bel lt0) (trodAll_cons_mk (Below.trod rowLaid (by kernel_rfl) (of_decide_eq_true (by kernel_rfl)) k1 bel lt1) trodAll_mk0)), rfl, bel.frame _, fun h => by cases h⟩
theorem over : Rows.divBackRow.holds Try.pinned (OpenSpec.ofChange Rows.divBackSpec) :=
  OpenClaim.holds_of_wide 12 Try.f12 rfl rfl rfl rfl rfl rfl rfl ⟨rfl, rfl, rfl, rfl, rfl⟩ rfl rfl rfl rfl rfl (by kernel_rfl) Try.func12 (by kernel_rfl)
    (of_decide_eq_true (by kernel_rfl)) (by unfold Func.isWrapper; first | (rw [if_pos (by decide +kernel)]; kernel_rfl) | (rw [if_neg (by decide +kernel)]; exact ⟨rfl, rfl⟩))
    (fun os started H enc _ => lifted os started H enc)
theorem proved : Rows.DivBackSaid := over
end lawDivBack

end Go.Proofs.Ytmfgldfldejgcaa
