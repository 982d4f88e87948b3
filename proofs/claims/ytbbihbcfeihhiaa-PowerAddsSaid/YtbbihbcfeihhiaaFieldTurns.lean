/- FieldTurns: it does not matter which comes first, in sums and products. -/
import Derived.Test.YtbbihbcfeihhiaaVRing
namespace Go.Proofs.Ytbbihbcfeihhiaa
set_option linter.unusedVariables false
set_option linter.unusedSimpArgs false
set_option linter.unusedSectionVars false
open Go.ChangeShapes Go.WideShapes Go.ChangeAt Go.RowKit Go.Joins
set_option maxRecDepth 10000
theorem uV_lits {n : Nat} (h : n < B64) : uV n = .agg (words [n, 0, 0, 0]) := congrArg VV.agg (uC_lit h)
theorem addM_comm (m a b : Nat) : addM m a b = addM m b a := by rw [addM_def, addM_def, Nat.add_comm]
theorem mulM_comm (m a b : Nat) : mulM m a b = mulM m b a := by rw [mulM_def, mulM_def, Nat.mul_comm]
theorem ftells_fn : FnV Try.prog G0 24 [] (bI true) := by
  have h := mul_by (a := 2) (b := 2) (m := 5) (by decide) (by decide) (by decide)
  rw [show mulM 5 2 2 = 4 from by rw [mulM_def], uV_lits (n := 2) (by decide), uV_lits (n := 5) (by decide)] at h
  have e := eq_uC (a := 4) (b := 4) (by decide) (by decide)
  have e' := e
  rw [uC_lit (n := 4) (by decide)] at e
  rw [uV_lits (n := 4) (by decide)] at h
  refine fn_of_vwp Γok Try.func24 (by kernel_rfl) rfl (by simp [Try.ntmps24]) (wpv_ok Γok (by kernel_rfl) _ _ _ ?_); conv => whnf
  refine ⟨_, ret_of_fn G0ok (h) (by first | rfl | simp only [noHs, noH, nI, bI, Bool.and_self, Bool.and_true, Bool.true_and, ]) (by first | rfl | simp only [noHs, noH, nI, bI, Bool.and_self, Bool.and_true, Bool.true_and, ]), ?_⟩; (conv => whnf); (try (refine ⟨by kernel_rfl, ?_⟩; conv => whnf))
  refine ⟨_, e, ?_⟩
  rw [decide_eq_true rfl]
  conv => whnf
  try (refine ⟨by kernel_rfl, ?_⟩; conv => whnf)
  exact ⟨_, rfl, rfl⟩
theorem oneR_pos (n : Nat) : 0 < oneR n := by unfold oneR; split <;> omega
theorem oneR_lt {n : Nat} (h : n < T256) : oneR n < T256 := by unfold oneR; rw [T256_lit] at *; split <;> omega
theorem fnFieldTurns (m x y : RawD) (_ : m.ok) (_ : x.ok) (_ : y.ok) : FnV Try.prog G0 5 [m.v, x.v, y.v] (bI true) := by
  obtain ⟨fl, hr⟩ := ring2_fn m x y
  have hp := oneR_pos (rawN m)
  have hl := oneR_lt (rawN_lt m)
  have hX : modN (rawN x) (oneR (rawN m)) < oneR (rawN m) := by rw [modN_def]; exact Nat.mod_lt _ hp
  have hY : modN (rawN y) (oneR (rawN m)) < oneR (rawN m) := by rw [modN_def]; exact Nat.mod_lt _ hp
  refine gen_ex (modN (rawN x) (oneR (rawN m))) fun X eX => ?_
  refine gen_ex (modN (rawN y) (oneR (rawN m))) fun Y eY => ?_
  rw [← eX] at hr hX
  rw [← eY] at hr hY
  clear eX eY
  refine gen_ex (oneR (rawN m)) fun N eN => ?_
  rw [← eN] at hr hX hY hp hl
  clear eN
  have a1 := add_by hX hY hl
  have a2 := add_by hY hX hl
  have m1 := mul_by hX hY hl
  have m2 := mul_by hY hX hl
  rw [addM_comm N Y X] at a2
  rw [mulM_comm N Y X] at m2
  have la := addM_lt (a := X) (b := Y) hp
  have lm := mulM_lt (a := X) (b := Y) hp
  refine gen_ex (addM N X Y) fun A eA => ?_
  refine gen_ex (mulM N X Y) fun P eP => ?_
  rw [← eA] at a1 a2 la
  rw [← eP] at m1 m2 lm
  clear eA eP
  have c1 := cmp_fn (a := A) (b := N) (by omega) hl
  have c2 := cmp_fn (a := P) (b := N) (by omega) hl
  rw [cmpN_lt la] at c1
  rw [cmpN_lt lm] at c2
  have e1 := eq_uC (a := A) (b := A) (by omega) (by omega)
  have e2 := eq_uC (a := P) (b := P) (by omega) (by omega)
  unfold RawD.v RawD.cells at *
  refine fn_of_vwp Γok Try.func5 (by kernel_rfl) rfl (by simp [Try.ntmps5]) (wpv_ok Γok (by kernel_rfl) _ _ _ ?_); conv => whnf
  refine .read 2 ([nI .i64 x.k, nI .i64 x.a, nI .i64 x.b, .v (.string x.s)] ++ [nI .i64 y.k, nI .i64 y.a, nI .i64 y.b, .v (.string y.s)]) rfl rfl (by rfl) (by rfl) ?_
  conv => whnf
  try (refine ⟨by kernel_rfl, ?_⟩; conv => whnf)
  refine ⟨_, ret_of_fn G0ok (hr) (by first | rfl | simp only [noHs, noH, nI, bI, Bool.and_self, Bool.and_true, Bool.true_and, words_noHs]) (by first | rfl | simp only [noHs, noH, nI, bI, Bool.and_self, Bool.and_true, Bool.true_and, words_noHs]), ?_⟩; (conv => whnf); (try (refine ⟨by kernel_rfl, ?_⟩; conv => whnf))
  refine ⟨_, ret_of_fn G0ok (a1) (by first | rfl | simp only [noHs, noH, nI, bI, Bool.and_self, Bool.and_true, Bool.true_and, ]) (by first | rfl | simp only [noHs, noH, nI, bI, Bool.and_self, Bool.and_true, Bool.true_and, ]), ?_⟩; (conv => whnf); (try (refine ⟨by kernel_rfl, ?_⟩; conv => whnf))
  refine ⟨_, ret_of_fn G0ok (a2) (by first | rfl | simp only [noHs, noH, nI, bI, Bool.and_self, Bool.and_true, Bool.true_and, ]) (by first | rfl | simp only [noHs, noH, nI, bI, Bool.and_self, Bool.and_true, Bool.true_and, ]), ?_⟩; (conv => whnf); (try (refine ⟨by kernel_rfl, ?_⟩; conv => whnf))
  refine ⟨_, ret_of_fn G0ok (m1) (by first | rfl | simp only [noHs, noH, nI, bI, Bool.and_self, Bool.and_true, Bool.true_and, ]) (by first | rfl | simp only [noHs, noH, nI, bI, Bool.and_self, Bool.and_true, Bool.true_and, ]), ?_⟩; (conv => whnf); (try (refine ⟨by kernel_rfl, ?_⟩; conv => whnf))
  refine ⟨_, ret_of_fn G0ok (m2) (by first | rfl | simp only [noHs, noH, nI, bI, Bool.and_self, Bool.and_true, Bool.true_and, ]) (by first | rfl | simp only [noHs, noH, nI, bI, Bool.and_self, Bool.and_true, Bool.true_and, ]), ?_⟩; (conv => whnf); (try (refine ⟨by kernel_rfl, ?_⟩; conv => whnf))
  refine ⟨_, ret_of_fn G0ok (ftells_fn) (by first | rfl | simp only [noHs, noH, nI, bI, Bool.and_self, Bool.and_true, Bool.true_and, ]) (by first | rfl | simp only [noHs, noH, nI, bI, Bool.and_self, Bool.and_true, Bool.true_and, ]), ?_⟩; (conv => whnf); (try (refine ⟨by kernel_rfl, ?_⟩; conv => whnf))
  refine ⟨_, e1, ?_⟩
  rw [decide_eq_true rfl]
  conv => whnf
  try (refine ⟨by kernel_rfl, ?_⟩; conv => whnf)
  refine ⟨_, e2, ?_⟩
  rw [decide_eq_true rfl]
  conv => whnf
  try (refine ⟨by kernel_rfl, ?_⟩; conv => whnf)
  refine ⟨_, ret_of_fn G0ok (c1) (by first | rfl | simp only [noHs, noH, nI, bI, Bool.and_self, Bool.and_true, Bool.true_and, ]) (by first | rfl | simp only [noHs, noH, nI, bI, Bool.and_self, Bool.and_true, Bool.true_and, ]), ?_⟩; (conv => whnf); (try (refine ⟨by kernel_rfl, ?_⟩; conv => whnf))
  refine ⟨_, ret_of_fn G0ok (c2) (by first | rfl | simp only [noHs, noH, nI, bI, Bool.and_self, Bool.and_true, Bool.true_and, ]) (by first | rfl | simp only [noHs, noH, nI, bI, Bool.and_self, Bool.and_true, Bool.true_and, ]), ?_⟩; (conv => whnf); (try (refine ⟨by kernel_rfl, ?_⟩; conv => whnf))
  exact ⟨_, rfl, rfl⟩
namespace lawFieldTurns
set_option linter.unusedVariables false
set_option maxRecDepth 100000 in
theorem lifted (os : Os) (started : os.Started) (H : Type) (enc : TypeId × Value → H) :
    ReturnsInHanded {} Try.checked os 5 .any (Rows.fieldTurnsSpec.pre6 enc Try.prog Try.f5 Rows.fieldTurnsRow.domain false) (Rows.fieldTurnsSpec.post enc Try.prog Try.f5 false true false false) := by
  refine returnsInHanded_of_change (C := Try.checked) rowOwn started (by kernel_rfl) Try.func5
    (ChangeSpec.witness6 (enc := enc) (C := Try.checked) false ⟨#[], #[.agg #[.int .i64 0, .int .i64 0, .int .i64 0, .string ByteArray.empty], .agg #[.int .i64 0, .int .i64 0, .int .i64 0, .string ByteArray.empty], .agg #[.int .i64 0, .int .i64 0, .int .i64 0, .string ByteArray.empty]], []⟩ 8 (by kernel_rfl) (by kernel_rfl) (by kernel_rfl) (by kernel_rfl)) ?_
  intro W base args ds gs before hval0 hW hcnd _
  have hval : ∀ (j : Nat) t v, Try.f5.params[j]? = some t → args[j]? = some v → Value.okWide Try.prog W .any base t v := hval0
  have hW' := hW
  obtain ⟨p, q, hA0, hV, rfl, hfz, hnd⟩ := hW
  have hA : DataW.TrodAll enc Try.prog W 0 (fun _ => true) true Try.f5.params.toList args.toList ds p := hA0
  rw [Try.params5] at hA hval
  obtain ⟨v0, vs0, d0, ds0, p0, q0, hargs, rfl, rfl, h0, r0⟩ := trodAll_cons hA
  obtain ⟨v1, vs1, d1, ds1, p1, q1, rfl, rfl, rfl, h1, r1⟩ := trodAll_cons r0
  obtain ⟨v2, vs2, d2, ds2, p2, q2, rfl, rfl, rfl, h2, r2⟩ := trodAll_cons r1
  obtain ⟨rfl, rfl, rfl⟩ := trodAll_nil r2
  obtain rfl : args = #[v0, v1, v2] := by cases args; simp_all
  obtain ⟨rfl, rfl⟩ := trodVars_none hV
  have k0 := h0
  have lt0 : ∀ x ∈ p0, x.block < W.heap.size := by obtain ⟨m, hm⟩ := k0; exact DataW.trod_lt m _ _ _ hm
  obtain ⟨a0, w0, u0⟩ := raw_open (hval 0 23 v0 rfl rfl) h0
  have k1 := h1
  have lt1 : ∀ x ∈ p1, x.block < W.heap.size := by obtain ⟨m, hm⟩ := k1; exact DataW.trod_lt m _ _ _ hm
  obtain ⟨a1, w1, u1⟩ := raw_open (hval 1 23 v1 rfl rfl) h1
  have k2 := h2
  have lt2 : ∀ x ∈ p2, x.block < W.heap.size := by obtain ⟨m, hm⟩ := k2; exact DataW.trod_lt m _ _ _ hm
  obtain ⟨a2, w2, u2⟩ := raw_open (hval 2 23 v2 rfl rfl) h2
  clear hA0 hval0
  refine (calls_of_fn Try.func5 (by kernel_rfl) rfl (fnFieldTurns a0 a1 a2 w0 w1 w2) (fun _ _ h => by cases h) (VRs.cons (u0 _) (VRs.cons (u1 _) (VRs.cons (u2 _) VRs.snoc_nil)))).mono fun e W' ⟨he, bel⟩ => ?_
  subst he
  exact ⟨_, rfl, _, _, _, [], _, [], hW', trodAll_mk1 (shut_bool Try.underlying4 _), (trodAll_cons_mk (Below.trod rowLaid (by kernel_rfl) (of_decide_eq_true (by kernel_rfl)) k0 bel lt0) (trodAll_cons_mk (Below.trod rowLaid (by kernel_rfl) (of_decide_eq_true (by kernel_rfl)) k1 bel lt1) (trodAll_cons_mk (Below.trod rowLaid (by kernel_rfl) (of_decide_eq_true (by kernel_rfl)) k2 bel lt2) trodAll_mk0))), rfl, bel.frame _, fun h => by cases h⟩
theorem over : Rows.fieldTurnsRow.holds Try.pinned (OpenSpec.ofChange Rows.fieldTurnsSpec) :=
  OpenClaim.holds_of_wide 5 Try.f5 rfl rfl rfl rfl rfl rfl rfl ⟨rfl, rfl, rfl, rfl, rfl⟩ rfl rfl rfl rfl rfl (by kernel_rfl) Try.func5 (by kernel_rfl)
    (of_decide_eq_true (by kernel_rfl)) (by unfold Func.isWrapper; first | (rw [if_pos (by decide +kernel)]; kernel_rfl) | (rw [if_neg (by decide +kernel)]; exact ⟨rfl, rfl⟩))
    (fun os started H enc _ => lifted os started H enc)
theorem proved : Rows.FieldTurnsSaid := over
end lawFieldTurns

end Go.Proofs.Ytbbihbcfeihhiaa
