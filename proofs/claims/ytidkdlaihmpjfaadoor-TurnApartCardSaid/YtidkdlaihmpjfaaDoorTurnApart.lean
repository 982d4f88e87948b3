/- TurnApart: two sponges that differ differ still when they are turned. -/
import Derived.Test.YtidkdlaihmpjfaaDoorVTurnInj
import Derived.Test.YtidkdlaihmpjfaaDoorVKecE
import Derived.Test.YtidkdlaihmpjfaaDoorVGlob
import Derived.Test.YtidkdlaihmpjfaaDoorPicked
import Derived.Test.YtidkdlaihmpjfaaDoorVEq
import Derived.Test.YtidkdlaihmpjfaaDoorCards
import Derived.Test.YtidkdlaihmpjfaaDoorTie
import Derived.SevenTiedAt
import Derived.OpenShut
namespace Go.Proofs.YtidkdlaihmpjfaaDoor
set_option linter.unusedVariables false
set_option linter.unusedSimpArgs false
set_option linter.unusedSectionVars false
open Go.ChangeShapes Go.WideShapes Go.ChangeAt Go.RowKit Go.Joins
set_option maxRecDepth 10000
theorem eq_w25 {l m : List Nat} (hl : l.length = 25) (hm : m.length = 25) : EqAgg Tryd.prog .eql 23 (words l) (words m) (decide (l = m)) := by
  have h := eqAgg_ints (k := .u64) Γok (t := 23) (e := 22) Tryd.underlying23 rfl rfl rfl Tryd.underlying22 (by kernel_rfl) (l.map fun (x : Nat) => (x : Int)) (m.map fun (x : Nat) => (x : Int)) (by simpa using hl) (by simpa using hm)
  rw [← words_map, ← words_map] at h
  rw [show decide (l = m) = decide (l.map (fun (x : Nat) => (x : Int)) = m.map fun (x : Nat) => (x : Int)) from decide_eq_decide.2 (map_cast_eq l m).symm]
  exact h
theorem ne_w25 {l m : List Nat} (hl : l.length = 25) (hm : m.length = 25) : EqAgg Tryd.prog .neq 23 (words l) (words m) (!decide (l = m)) := by
  have h := eqAgg_ints_ne (k := .u64) Γok (t := 23) (e := 22) Tryd.underlying23 rfl rfl rfl Tryd.underlying22 (by kernel_rfl) (l.map fun (x : Nat) => (x : Int)) (m.map fun (x : Nat) => (x : Int)) (by simpa using hl) (by simpa using hm)
  rw [← words_map, ← words_map] at h
  rw [show decide (l = m) = decide (l.map (fun (x : Nat) => (x : Int)) = m.map fun (x : Nat) => (x : Int)) from decide_eq_decide.2 (map_cast_eq l m).symm]
  exact h
theorem turn_zero : turnS (zB 25) ≠ zB 25 := by
  have h := eTurn_eq (zB 25) (fun t => decide (t = zB 25))
  have h2 : eTurn (zB 25) (fun t => decide (t = zB 25)) = false := by kernel_rfl
  exact of_decide_eq_false (h.symm.trans h2)
theorem fnTurnApart (a : List Nat) (at' by' : Int) (hl : a.length = 25) (hb : ∀ x ∈ a, x < 2 ^ 64) (_ : I64 at') (_ : I64 by') : FnV Tryd.prog G0 3 [.agg (words a), nI .i64 at', nI .i64 by'] (bI true) := by
  have ha : L64 a 25 := ⟨hl, hb⟩
  have pk := picked_fn at' 25 (by decide) (by decide)
  obtain ⟨k, hk, lk⟩ : ∃ k : Nat, at' % 25 = (k : Int) ∧ k < 25 := ⟨(at' % 25).toNat, by omega, by omega⟩
  rw [hk] at pk
  clear hk
  obtain ⟨v, hv, lv⟩ : ∃ v : Nat, wS .u64 by' = (v : Int) ∧ W64 v := ⟨(by' % 18446744073709551616).toNat, by rw [ws_u64]; omega, by unfold W64; omega⟩
  have hc : L64 (a.set k (xo (a.getD k 0) v)) 25 := L64_set ha _ (xo_lt (L64_get ha _) lv)
  have hx := u64_xor (L64_get ha k) lv
  rw [← xo_def] at hx
  refine gen_ex (a.set k (xo (a.getD k 0) v)) fun b eb => ?_
  rw [← eb] at hc
  have ta := turn_fn ha
  have tb := turn_fn hc
  have z25 : L64 (zB 25) 25 := ⟨by decide, fun x hx => by rw [List.eq_of_mem_replicate hx]; unfold W64; decide⟩
  have tz := turn_fn z25
  have e1 := eq_w25 (turnS_ok ha).1 (turnS_ok hc).1
  have e2 := eq_w25 ha.1 hc.1
  have e3 := ne_w25 (turnS_ok z25).1 z25.1
  rw [decide_eq_false turn_zero] at e3
  have lb : (words b).length = 25 := by rw [words_length]; exact hc.1
  have la : (words a).length = 25 := by rw [words_length]; exact hl
  have hd : decide (turnS a = turnS b) = decide (a = b) := decide_eq_decide.2 ⟨fun h => turnS_inj ha hc h, fun h => by rw [h]⟩
  rw [hd] at e1
  refine fn_of_vwp Γok Tryd.func3 (by kernel_rfl) rfl (by simp [Tryd.ntmps3]) (wpv_ok Γok (by kernel_rfl) _ _ _ ?_); conv => whnf
  refine bindP_intro (load_agg rfl rfl la) ?_
  conv => whnf
  try (refine ⟨by kernel_rfl, ?_⟩; conv => whnf)
  refine onlyIf_intro (by rw [la]; rfl) ?_
  conv => whnf
  try (refine ⟨by kernel_rfl, ?_⟩; conv => whnf)
  refine ⟨_, ret_of_fn G0ok (pk) (by first | rfl | simp only [noHs, noH, nI, bI, Bool.and_self, Bool.and_true, Bool.true_and, words_noHs]) (by first | rfl | simp only [noHs, noH, nI, bI, Bool.and_self, Bool.and_true, Bool.true_and, words_noHs]), ?_⟩; (conv => whnf); (try (refine ⟨by kernel_rfl, ?_⟩; conv => whnf))
  refine bindP_intro (if_pos (inB_ok (by omega) (by omega))) ?_; conv => whnf
  refine bindP_intro (words_ix (i := k) (by dsimp only; omega) (by omega)) ?_
  conv => whnf
  try (refine ⟨by kernel_rfl, ?_⟩; conv => whnf)
  rw [hv, hx]
  conv => whnf
  try (refine ⟨by kernel_rfl, ?_⟩; conv => whnf)
  refine bindP_intro (if_pos (inB_ok (by omega) (by omega))) ?_; conv => whnf
  refine onlyIf_intro ?_ ?_
  · simp [words_length, hl]
    omega
  conv => whnf
  try (refine ⟨by kernel_rfl, ?_⟩; conv => whnf)
  rw [splice_words (i := k) (by dsimp only; omega) (by omega), ← eb]
  conv => whnf
  try (refine ⟨by kernel_rfl, ?_⟩; conv => whnf)
  refine bindP_intro (load_agg rfl rfl la) ?_
  conv => whnf
  try (refine ⟨by kernel_rfl, ?_⟩; conv => whnf)
  refine ⟨_, ret_of_fn G0ok (ta) (by first | rfl | simp only [noHs, noH, nI, bI, Bool.and_self, Bool.and_true, Bool.true_and, words_noHs]) (by first | rfl | simp only [noHs, noH, nI, bI, Bool.and_self, Bool.and_true, Bool.true_and, words_noHs]), ?_⟩; (conv => whnf); (try (refine ⟨by kernel_rfl, ?_⟩; conv => whnf))
  refine bindP_intro (load_agg rfl rfl lb) ?_
  conv => whnf
  try (refine ⟨by kernel_rfl, ?_⟩; conv => whnf)
  refine ⟨_, ret_of_fn G0ok (tb) (by first | rfl | simp only [noHs, noH, nI, bI, Bool.and_self, Bool.and_true, Bool.true_and, words_noHs]) (by first | rfl | simp only [noHs, noH, nI, bI, Bool.and_self, Bool.and_true, Bool.true_and, words_noHs]), ?_⟩; (conv => whnf); (try (refine ⟨by kernel_rfl, ?_⟩; conv => whnf))
  refine ⟨_, e1, ?_⟩
  conv => whnf
  try (refine ⟨by kernel_rfl, ?_⟩; conv => whnf)
  refine bindP_intro (load_agg rfl rfl la) ?_
  conv => whnf
  try (refine ⟨by kernel_rfl, ?_⟩; conv => whnf)
  refine bindP_intro (load_agg rfl rfl lb) ?_
  conv => whnf
  try (refine ⟨by kernel_rfl, ?_⟩; conv => whnf)
  refine ⟨_, e2, ?_⟩
  conv => whnf
  try (refine ⟨by kernel_rfl, ?_⟩; conv => whnf)
  refine gen_ex (decide (a = b)) fun q eq => ?_
  rw [← eq]
  clear eq
  cases q
  · conv => whnf
    try (refine ⟨by kernel_rfl, ?_⟩; conv => whnf)
    refine ⟨_, ret_of_fn G0ok (tz) (by first | rfl | simp only [noHs, noH, nI, bI, Bool.and_self, Bool.and_true, Bool.true_and, words_noHs]) (by first | rfl | simp only [noHs, noH, nI, bI, Bool.and_self, Bool.and_true, Bool.true_and, words_noHs]), ?_⟩; (conv => whnf); (try (refine ⟨by kernel_rfl, ?_⟩; conv => whnf))
    refine ⟨_, e3, ?_⟩
    conv => whnf
    try (refine ⟨by kernel_rfl, ?_⟩; conv => whnf)
    exact ⟨_, rfl, rfl⟩
  · conv => whnf
    try (refine ⟨by kernel_rfl, ?_⟩; conv => whnf)
    refine ⟨_, ret_of_fn G0ok (tz) (by first | rfl | simp only [noHs, noH, nI, bI, Bool.and_self, Bool.and_true, Bool.true_and, words_noHs]) (by first | rfl | simp only [noHs, noH, nI, bI, Bool.and_self, Bool.and_true, Bool.true_and, words_noHs]), ?_⟩; (conv => whnf); (try (refine ⟨by kernel_rfl, ?_⟩; conv => whnf))
    refine ⟨_, e3, ?_⟩
    conv => whnf
    try (refine ⟨by kernel_rfl, ?_⟩; conv => whnf)
    exact ⟨_, rfl, rfl⟩
namespace lawTurnApart
set_option linter.unusedVariables false
set_option maxRecDepth 100000 in
theorem lifted (os : Os) (started : os.Started) (H : Type) (enc : TypeId × Value → H) :
    ReturnsInHanded {} Tryd.checked os 3 .any (fun w args => (Rows.turnApartSpec.pre enc Tryd.prog Tryd.f3 [] false w args ∧ laidMetH Tryd.prog laidL w) ∧ sizedMet enc Tryd.prog Tryd.f3 (OpenSpec.ofChange Rows.turnApartSpec) false w args)
      (Rows.turnApartSpec.post enc Tryd.prog Tryd.f3 false true false false) := by
  refine returnsInHanded_of_change_and (C := Tryd.checked) (X := fun w _ => laidMetH Tryd.prog laidL w) (fun _ _ _ hh h => h.of_heap hh) rowOwn started (by kernel_rfl) Tryd.func3
    (ChangeSpec.witness_shaped (enc := enc) (C := Tryd.checked) (os := os) (X := fun w _ => laidMetH Tryd.prog laidL w) false (World.doorLaid Tryd.prog 400 os) #[.agg #[.int .u64 0, .int .u64 0, .int .u64 0, .int .u64 0, .int .u64 0, .int .u64 0, .int .u64 0, .int .u64 0, .int .u64 0, .int .u64 0, .int .u64 0, .int .u64 0, .int .u64 0, .int .u64 0, .int .u64 0, .int .u64 0, .int .u64 0, .int .u64 0, .int .u64 0, .int .u64 0, .int .u64 0, .int .u64 0, .int .u64 0, .int .u64 0, .int .u64 0], .int .i64 0, .int .i64 0] 8 rfl (World.shaped_of_RefB (by kernel_rfl) (by kernel_rfl)) (by kernel_rfl) (by kernel_rfl) (by kernel_rfl) (door_met os _)) ?_
  intro W base args ds gs before hval0 hW _ _ hL _
  have hval : ∀ (j : Nat) t v, Tryd.f3.params[j]? = some t → args[j]? = some v → Value.okWide Tryd.prog W .any base t v := hval0
  have hW' := hW
  obtain ⟨p, q, hA0, hV, rfl, hfz, hnd⟩ := hW
  have hA : DataW.TrodAll enc Tryd.prog W 0 (fun _ => true) true Tryd.f3.params.toList args.toList ds p := hA0
  rw [Tryd.params3] at hA hval
  obtain ⟨v0, vs0, d0, ds0, p0, q0, hargs, rfl, rfl, h0, r0⟩ := trodAll_cons hA
  obtain ⟨v1, vs1, d1, ds1, p1, q1, rfl, rfl, rfl, h1, r1⟩ := trodAll_cons r0
  obtain ⟨v2, vs2, d2, ds2, p2, q2, rfl, rfl, rfl, h2, r2⟩ := trodAll_cons r1
  obtain ⟨rfl, rfl, rfl⟩ := trodAll_nil r2
  obtain rfl : args = #[v0, v1, v2] := by cases args; simp_all
  obtain ⟨rfl, rfl⟩ := trodVars_none hV
  have k0 := h0
  have lt0 : ∀ x ∈ p0, x.block < W.heap.size := by obtain ⟨m, hm⟩ := k0; exact DataW.trod_lt m _ _ _ hm
  obtain ⟨a0, l0, w0, u0⟩ := words_open Tryd.underlying23 Tryd.underlying22 (by kernel_rfl) (by kernel_rfl) (hval 0 23 v0 rfl rfl) h0
  obtain ⟨a1, rfl, rfl, rfl, w1⟩ := open_int Tryd.underlying3 (hval 1 3 v1 rfl rfl) h1
  obtain ⟨a2, rfl, rfl, rfl, w2⟩ := open_int Tryd.underlying3 (hval 2 3 v2 rfl rfl) h2
  clear hA0 hval0
  refine (calls_of_fn Tryd.func3 (by kernel_rfl) rfl (fnTurnApart a0 a1 a2 l0 w0 (bounds_i64 w1) (bounds_i64 w2)) (hG_laid hL) (VRs.cons (u0 _) (VRs.cons rfl (VRs.cons rfl VRs.snoc_nil)))).mono fun e W' ⟨he, bel⟩ => ?_
  subst he
  exact ⟨_, rfl, _, _, _, [], _, [], hW', trodAll_mk1 (shut_bool Tryd.underlying4 _), (trodAll_cons_mk (Below.trod rowLaid (by kernel_rfl) (of_decide_eq_true (by kernel_rfl)) k0 bel lt0) (trodAll_cons_mk (shut_int Tryd.underlying3 w1) (trodAll_cons_mk (shut_int Tryd.underlying3 w2) trodAll_mk0))), rfl, bel.frame _, fun h => by cases h⟩
theorem over : Rows.turnApartRow.holds Tryd.pinned (OpenSpec.ofChange Rows.turnApartSpec) :=
  OpenClaim.holds_of_wide 3 Tryd.f3 rfl rfl rfl rfl rfl rfl rfl ⟨rfl, rfl, rfl, rfl, rfl⟩ rfl rfl rfl rfl rfl (by kernel_rfl) Tryd.func3 (by kernel_rfl)
    (of_decide_eq_true (by kernel_rfl)) (by unfold Func.isWrapper; first | (rw [if_pos (by decide +kernel)]; kernel_rfl) | (rw [if_neg (by decide +kernel)]; exact ⟨rfl, rfl⟩))
    (fun os started H enc _ => lifted os started H enc)
theorem proved : Rows.TurnApartCardSaid :=
  Claim7.holds_tied_plain_at .later [] [.data, .data] true _ _
    over (fun _ h => by cases h) (by kernel_rfl) (fun _ h => by cases h) turnApart_row_tie rfl ⟨rfl, rfl⟩ (by kernel_rfl) rfl
    (fun f fn hf hfn => by
      obtain rfl : f = 3 := Option.some.inj ((show Tryd.prog.funcNamed "bascule/basculekeep.TurnApart" = some 3 by kernel_rfl).symm.trans hf) |>.symm
      obtain rfl : fn = Tryd.f3 := (Option.some.inj (Tryd.func3.symm.trans hfn)).symm
      exact ⟨by kernel_rfl, fun j t ht => by
        rw [Tryd.params3] at ht
        have hm : t ∈ [23, 3, 3] := by simpa using Array.mem_of_getElem? ht
        have hall : ([23, 3, 3].all fun u => !Tryd.prog.wantsStandIn u) = true := by kernel_rfl
        exact (show Tryd.prog.wantsStandIn t = false by simpa using List.all_eq_true.1 hall t hm)⟩)
    (by kernel_rfl)
end lawTurnApart

end Go.Proofs.YtidkdlaihmpjfaaDoor
