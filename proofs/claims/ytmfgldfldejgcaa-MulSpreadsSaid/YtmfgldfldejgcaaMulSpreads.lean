/- MulSpreads: a sum is taken so often as its parts are, in all 512 bits. -/
import Derived.Test.YtmfgldfldejgcaaRaw
import Derived.Test.YtmfgldfldejgcaaTells
import Derived.Test.YtmfgldfldejgcaaMul
import Derived.Test.YtmfgldfldejgcaaLawKit
namespace Go.Proofs.Ytmfgldfldejgcaa
set_option linter.unusedVariables false
set_option linter.unusedSimpArgs false
open Go.RowKit Go.ChangeShapes Go.WideShapes Go.ChangeAt

theorem spread_low (a b c : Nat) : mulL (addS a b) c = addS (mulL a c) (mulL b c) := by
  simp only [mulL_def, addS_def]
  rw [Nat.mod_mul_mod, Nat.add_mul, ← Nat.add_mod]
theorem spread_high {a b c : Nat} (ha : a < T256) (hb : b < T256) (hc : c < T256) :
    (if addO a b = true then addS (mulH (addS a b) c) c else mulH (addS a b) c) = (if addO (mulL a c) (mulL b c) = true then addS (addS (mulH a c) (mulH b c)) 1 else addS (mulH a c) (mulH b c)) := by
  have hs : addS a b * c + (if addO a b = true then T256 * c else 0) = a * c + b * c := by
    rw [← Nat.add_mul]
    have : addS a b + (if addO a b = true then T256 else 0) = a + b := by
      rw [addS_def, addO_def]
      simp only [decide_eq_true_eq]
      split <;> (rw [T256_lit] at *; omega)
    rw [← this, Nat.add_mul]
    split <;> simp
  have hlt : mulH (addS a b) c < T256 := mulH_lt (addS_lt a b) hc
  simp only [mulH_def, mulL_def] at *
  rw [addO_def (a * c % T256)]
  simp only [addS_def (_ / _), addS_def ((_ / _ + _ / _) % _), decide_eq_true_eq]
  generalize addO a b = o at *
  generalize addS a b = s at *
  generalize s * c = r at *
  generalize a * c = p at *
  generalize b * c = q at *
  rw [T256_lit] at *
  cases o
  · simp only [Bool.false_eq_true, if_false] at *
    split <;> omega
  · simp only [if_true] at *
    split <;> omega

set_option maxHeartbeats 4000000 in
theorem walkMulSpreads {k0 a0 b0 k1 a1 b1 k2 a2 b2 : Int} {s0 s1 s2 : ByteArray} (v0 v1 v2 : Value) (h0 : RawV v0 k0 a0 b0 s0) (h1 : RawV v1 k1 a1 b1 s1) (h2 : RawV v2 k2 a2 b2 s2) (w : World) :
    Calls Try.prog 9 #[v0, v1, v2] w fun e w' => e = .returned (.bool true) ∧ Below w.heap.size w w' := by
  have H0 := h0
  obtain ⟨rfl, h0⟩ := h0
  clear h0
  have H1 := h1
  obtain ⟨rfl, h1⟩ := h1
  clear h1
  have H2 := h2
  obtain ⟨rfl, h2⟩ := h2
  clear h2
  have M := Mem.begin w
  have F : True := trivial

  go_enter Try.func9, Try.ntmps9
  go_wp2_with fail
  refine wp_join [.val (.agg #[.int .i64 k0, .int .i64 a0, .int .i64 b0, .string s0]), .val (u256 (rawNum k0 a0 b0)), .val (.agg #[.int .i64 k1, .int .i64 a1, .int .i64 b1, .string s1]), .val (u256 (rawNum k1 a1 b1)), .val (.agg #[.int .i64 k2, .int .i64 a2, .int .i64 b2, .string s2]), .val (u256 (rawNum k2 a2 b2)), .new 32 (u256 0).cells, .new 32 (u256 0).cells, .new 32 (u256 0).cells, .put 6 (u256 (rawNum k0 a0 b0)).cells, .put 7 (u256 (rawNum k1 a1 b1)).cells, .put 8 (u256 (rawNum k2 a2 b2)).cells] (by kernel_rfl) (by kernel_rfl) rfl ?_ ?_
  · simp only [Obls, List.zip_cons_cons, List.zip_nil_right, finL, List.setIfInBounds_toArray, List.set_cons_zero, List.set_cons_succ]
    refine ⟨?_, ?_, ?_, ?_, ?_, ?_, ?_, ?_, ?_, ?_, ?_, ?_, trivial⟩
    any_goals (intro w1 hb; have hc := (ExB.cells hb).1; clear hb; go_simp; first | exact And.intro rfl (Below.refl _ _) | (exact number_calls (by assumption) _))
    any_goals (intro r w1; kernel_rfl)
    any_goals (exact put_row rfl (by kernel_rfl) (by simp [Value.cells, Value.oneCell']))
  · intro ρ w1 hb hf hd
    have M := Mem.join (by (repeat (first | with_reducible exact M | with_reducible apply Mem.drew | with_reducible apply Mem.alloc | with_reducible apply Mem.allocAny))) hb hf hd
    clear F hb hf hd
    simp only [finL, List.setIfInBounds_toArray, List.set_cons_zero, List.set_cons_succ, Nat.zero_add, Nat.reduceAdd]
    simp only [joined, content, Nat.zero_add, Nat.reduceAdd, Nat.reduceEqDiff, if_true, if_false, List.cons_append, List.nil_append, World.size_alloc, World.size_drew] at M
    generalize ρ 6 = q0 at *
    generalize ρ 7 = q1 at *
    generalize ρ 8 = q2 at *
    clear H0 H1 H2
    have M := M.take 3
    simp only [List.take_succ_cons, List.take_zero] at M
    have F := M.cells; simp only [World.size_alloc, World.size_drew, Cells, cellsFrom, Value.cells, List.toList_toArray, Nat.zero_add, Nat.reduceAdd, List.setIfInBounds_toArray, List.set_cons_zero, List.set_cons_succ, List.cons_append, List.nil_append, and_true] at F
    have T0 := rawNum_lt k0 a0 b0
    generalize rawNum k0 a0 b0 = n0 at *
    have T1 := rawNum_lt k1 a1 b1
    generalize rawNum k1 a1 b1 = n1 at *
    have T2 := rawNum_lt k2 a2 b2
    generalize rawNum k2 a2 b2 = n2 at *

    have t1 : 1 < T256 := by decide
    have hs := addS_lt n0 n1
    have b1 := mulH_lt hs T2
    have b2 := mulH_lt T0 T2
    have b3 := mulH_lt T1 T2
    have HA := Lib.hid (fun a (h : a < T256) w => (show Calls Try.prog 19 #[u256 a, .agg #[.int .u64 1, .int .u64 0, .int .u64 0, .int .u64 0]] w _ from add_calls (a := a) (b := 1) h t1 w))
    have HL := Lib.hid (spread_low n0 n1 n2)
    have HH := Lib.hid (spread_high T0 T1 T2)
    clear t1
    cases hO : addO n0 n1 <;> cases hC : addO (mulL n0 n2) (mulL n1 n2)
    all_goals
      have HX := HH.out
      rw [hO, hC] at HX
      simp only [Bool.false_eq_true, if_false, if_true] at HX
    all_goals
      have E := beq_iff_eq.2 HX
      have E2 := beq_iff_eq.2 HL.out
      have hadd := addS_lt
      have hml := mulL_lt
      have q := fun x y hx hy w => equalIn_u256 (a := x) (b := y) hx hy w
      clear HX HH HL
      go_wp2_with first | (go_at_call 19; (with_reducible refine (add_calls b1 T2 _).mono ?_); rintro e w' ⟨rfl, hb⟩; have M := Mem.call (by (repeat (first | with_reducible exact M | with_reducible apply Mem.drew | with_reducible apply Mem.alloc | with_reducible apply Mem.allocAny))) hb; clear F; have F := M.cells; simp only [World.size_alloc, World.size_drew, Cells, cellsFrom, Value.cells, List.toList_toArray, Nat.zero_add, Nat.reduceAdd, List.setIfInBounds_toArray, List.set_cons_zero, List.set_cons_succ, List.cons_append, List.nil_append, and_true] at F; clear hb; have D := M.dist; simp only [Dist, DistFrom, and_true, World.size_alloc, World.size_drew, World.size_setCell] at D) | (go_at_call 19; (with_reducible refine (HA.out _ (addS_lt _ _) _).mono ?_); rintro e w' ⟨rfl, hb⟩; have M := Mem.call (by (repeat (first | with_reducible exact M | with_reducible apply Mem.drew | with_reducible apply Mem.alloc | with_reducible apply Mem.allocAny))) hb; clear F; have F := M.cells; simp only [World.size_alloc, World.size_drew, Cells, cellsFrom, Value.cells, List.toList_toArray, Nat.zero_add, Nat.reduceAdd, List.setIfInBounds_toArray, List.set_cons_zero, List.set_cons_succ, List.cons_append, List.nil_append, and_true] at F; clear hb; have D := M.dist; simp only [Dist, DistFrom, and_true, World.size_alloc, World.size_drew, World.size_setCell] at D) | (go_at_call 26; (with_reducible refine (mul_calls (by first | assumption | exact mulL_lt _ _ | exact addS_lt _ _) (by first | assumption | exact mulL_lt _ _ | exact addS_lt _ _) _).mono ?_); rintro e w' ⟨rfl, hb⟩; have M := Mem.call (by (repeat (first | with_reducible exact M | with_reducible apply Mem.drew | with_reducible apply Mem.alloc | with_reducible apply Mem.allocAny))) hb; clear F; have F := M.cells; simp only [World.size_alloc, World.size_drew, Cells, cellsFrom, Value.cells, List.toList_toArray, Nat.zero_add, Nat.reduceAdd, List.setIfInBounds_toArray, List.set_cons_zero, List.set_cons_succ, List.cons_append, List.nil_append, and_true] at F; clear hb) | (go_at_call 19; (with_reducible refine (add_calls (by first | assumption | exact mulL_lt _ _ | exact addS_lt _ _) (by first | assumption | exact mulL_lt _ _ | exact addS_lt _ _) _).mono ?_); rintro e w' ⟨rfl, hb⟩; have M := Mem.call (by (repeat (first | with_reducible exact M | with_reducible apply Mem.drew | with_reducible apply Mem.alloc | with_reducible apply Mem.allocAny))) hb; clear F; have F := M.cells; simp only [World.size_alloc, World.size_drew, Cells, cellsFrom, Value.cells, List.toList_toArray, Nat.zero_add, Nat.reduceAdd, List.setIfInBounds_toArray, List.set_cons_zero, List.set_cons_succ, List.cons_append, List.nil_append, and_true] at F; clear hb) | (go_at_call 20; (with_reducible refine (tells _).mono ?_); rintro e w' ⟨rfl, hb⟩; have M := Mem.call (by (repeat (first | with_reducible exact M | with_reducible apply Mem.drew | with_reducible apply Mem.alloc | with_reducible apply Mem.allocAny))) hb; clear F; have F := M.cells; simp only [World.size_alloc, World.size_drew, Cells, cellsFrom, Value.cells, List.toList_toArray, Nat.zero_add, Nat.reduceAdd, List.setIfInBounds_toArray, List.set_cons_zero, List.set_cons_succ, List.cons_append, List.nil_append, and_true] at F; clear hb) | (go_at_call 26; (with_reducible refine (mul_calls (by first | assumption | exact mulL_lt _ _ | exact addS_lt _ _) (by first | assumption | exact mulL_lt _ _ | exact addS_lt _ _) _).mono ?_); rintro e w' ⟨rfl, hb⟩; have M := Mem.call (by ((repeat (first | with_reducible exact M | with_reducible apply Mem.drew | with_reducible apply Mem.alloc | with_reducible apply Mem.setCellU | with_reducible apply Mem.allocAny)) <;> simp [updL, D])) hb; (try simp [updL, D] at M); clear F D; have F := M.cells; simp only [World.size_alloc, World.size_drew, Cells, cellsFrom, Value.cells, List.toList_toArray, Nat.zero_add, Nat.reduceAdd, List.setIfInBounds_toArray, List.set_cons_zero, List.set_cons_succ, List.cons_append, List.nil_append, and_true] at F; clear hb) | (go_at_call 19; (with_reducible refine (add_calls (by first | assumption | exact mulL_lt _ _ | exact addS_lt _ _) (by first | assumption | exact mulL_lt _ _ | exact addS_lt _ _) _).mono ?_); rintro e w' ⟨rfl, hb⟩; have M := Mem.call (by ((repeat (first | with_reducible exact M | with_reducible apply Mem.drew | with_reducible apply Mem.alloc | with_reducible apply Mem.setCellU | with_reducible apply Mem.allocAny)) <;> simp [updL, D])) hb; (try simp [updL, D] at M); clear F D; have F := M.cells; simp only [World.size_alloc, World.size_drew, Cells, cellsFrom, Value.cells, List.toList_toArray, Nat.zero_add, Nat.reduceAdd, List.setIfInBounds_toArray, List.set_cons_zero, List.set_cons_succ, List.cons_append, List.nil_append, and_true] at F; clear hb) | (go_at_call 20; (with_reducible refine (tells _).mono ?_); rintro e w' ⟨rfl, hb⟩; have M := Mem.call (by ((repeat (first | with_reducible exact M | with_reducible apply Mem.drew | with_reducible apply Mem.alloc | with_reducible apply Mem.setCellU | with_reducible apply Mem.allocAny)) <;> simp [updL, D])) hb; (try simp [updL, D] at M); clear F D; have F := M.cells; simp only [World.size_alloc, World.size_drew, Cells, cellsFrom, Value.cells, List.toList_toArray, Nat.zero_add, Nat.reduceAdd, List.setIfInBounds_toArray, List.set_cons_zero, List.set_cons_succ, List.cons_append, List.nil_append, and_true] at F; clear hb)
      go_ret
      exact ⟨rfl, by exact Mem.below (L := _) (by (repeat (first | with_reducible exact M | with_reducible apply Mem.drew | with_reducible apply Mem.alloc | with_reducible apply Mem.allocAny)))⟩

namespace lawMulSpreads
set_option linter.unusedVariables false
set_option maxRecDepth 100000 in
theorem lifted (os : Os) (started : os.Started) (H : Type) (enc : TypeId × Value → H) :
    ReturnsInHanded {} Try.checked os 9 .any (Rows.mulSpreadsSpec.pre6 enc Try.prog Try.f9 Rows.mulSpreadsRow.domain false) (Rows.mulSpreadsSpec.post enc Try.prog Try.f9 false true false false) := by
  refine returnsInHanded_of_change (C := Try.checked) rowOwn started (by kernel_rfl) Try.func9
    (ChangeSpec.witness6 (enc := enc) (C := Try.checked) false ⟨#[], #[.agg #[.int .i64 0, .int .i64 0, .int .i64 0, .string ByteArray.empty], .agg #[.int .i64 0, .int .i64 0, .int .i64 0, .string ByteArray.empty], .agg #[.int .i64 0, .int .i64 0, .int .i64 0, .string ByteArray.empty]], []⟩ 8 (by kernel_rfl) (by kernel_rfl) (by kernel_rfl) (by kernel_rfl)) ?_
  intro W base args ds gs before hval0 hW hcnd _
  have hval : ∀ (j : Nat) t v, Try.f9.params[j]? = some t → args[j]? = some v → Value.okWide Try.prog W .any base t v := hval0
  have hW' := hW
  obtain ⟨p, q, hA0, hV, rfl, hfz, hnd⟩ := hW
  have hA : DataW.TrodAll enc Try.prog W 0 (fun _ => true) true Try.f9.params.toList args.toList ds p := hA0
  rw [Try.params9] at hA hval
  obtain ⟨v0, vs0, d0, ds0, p0, q0, hargs, rfl, rfl, h0, r0⟩ := trodAll_cons hA
  obtain ⟨v1, vs1, d1, ds1, p1, q1, rfl, rfl, rfl, h1, r1⟩ := trodAll_cons r0
  obtain ⟨v2, vs2, d2, ds2, p2, q2, rfl, rfl, rfl, h2, r2⟩ := trodAll_cons r1
  obtain ⟨rfl, rfl, rfl⟩ := trodAll_nil r2
  obtain rfl : args = #[v0, v1, v2] := by cases args; simp_all
  obtain ⟨rfl, rfl⟩ := trodVars_none hV
  have k0 := h0
  have lt0 : ∀ x ∈ p0, x.block < W.heap.size := by obtain ⟨m, hm⟩ := k0; exact DataW.trod_lt m _ _ _ hm
  obtain ⟨_, _, _, _, u0⟩ := raw_open (hval 0 29 v0 rfl rfl) h0
  have k1 := h1
  have lt1 : ∀ x ∈ p1, x.block < W.heap.size := by obtain ⟨m, hm⟩ := k1; exact DataW.trod_lt m _ _ _ hm
  obtain ⟨_, _, _, _, u1⟩ := raw_open (hval 1 29 v1 rfl rfl) h1
  have k2 := h2
  have lt2 : ∀ x ∈ p2, x.block < W.heap.size := by obtain ⟨m, hm⟩ := k2; exact DataW.trod_lt m _ _ _ hm
  obtain ⟨_, _, _, _, u2⟩ := raw_open (hval 2 29 v2 rfl rfl) h2
  clear hA0 hval0
  refine (walkMulSpreads _ _ _ u0 u1 u2 W).mono fun e W' ⟨he, bel⟩ => ?_
  subst he
  exact ⟨_, rfl, _, _, _, [], _, [], hW', trodAll_mk1 (shut_bool Try.underlying4 _), (trodAll_cons_mk (Below.trod rowLaid (by kernel_rfl) (of_decide_eq_true (by kernel_rfl)) k0 bel lt0) (trodAll_cons_mk (Below.trod rowLaid (by kernel_rfl) (of_decide_eq_true (by kernel_rfl)) k1 bel lt1) (trodAll_cons_mk (Below.trod rowLaid (by kernel_rfl) (of_decide_eq_true (by kernel_rfl)) k2 bel lt2) trodAll_mk0))), rfl, bel.frame _, fun h => by cases h⟩
theorem over : Rows.mulSpreadsRow.holds Try.pinned (OpenSpec.ofChange Rows.mulSpreadsSpec) :=
  OpenClaim.holds_of_wide 9 Try.f9 rfl rfl rfl rfl rfl rfl rfl ⟨rfl, rfl, rfl, rfl, rfl⟩ rfl rfl rfl rfl rfl (by kernel_rfl) Try.func9 (by kernel_rfl)
    (of_decide_eq_true (by kernel_rfl)) (by unfold Func.isWrapper; first | (rw [if_pos (by decide +kernel)]; kernel_rfl) | (rw [if_neg (by decide +kernel)]; exact ⟨rfl, rfl⟩))
    (fun os started H enc _ => lifted os started H enc)
theorem proved : Rows.MulSpreadsSaid := over
end lawMulSpreads

end Go.Proofs.Ytmfgldfldejgcaa
