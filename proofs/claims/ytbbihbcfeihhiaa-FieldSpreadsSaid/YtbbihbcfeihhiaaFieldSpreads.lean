/- FieldSpreads: a sum is taken so often as its parts are; what is taken away comes back. -/
import Derived.Test.YtbbihbcfeihhiaaVRing3
import Derived.Test.YtbbihbcfeihhiaaFieldTurns
namespace Go.Proofs.Ytbbihbcfeihhiaa
set_option linter.unusedVariables false
set_option linter.unusedSimpArgs false
set_option linter.unusedSectionVars false
open Go.ChangeShapes Go.WideShapes Go.ChangeAt Go.RowKit Go.Joins
set_option maxRecDepth 10000
theorem mul_spreads (m a b c : Nat) : mulM m (addM m a b) c = addM m (mulM m a c) (mulM m b c) := by
  rw [mulM_def, mulM_def, mulM_def, addM_def, addM_def, Nat.mul_mod, Nat.mod_mod, ← Nat.mul_mod, Nat.add_mul, ← Nat.add_mod]
theorem sub_back {m a b : Nat} (ha : a < m) (hb : b < m) : addM m (subM m a b) b = a := by
  rw [addM_def, subM_def, Nat.mod_add_mod, show a + (m - b) + b = a + m by omega, Nat.add_mod_right, Nat.mod_eq_of_lt ha]
theorem fnFieldSpreads (m x y z : RawD) (_ : m.ok) (_ : x.ok) (_ : y.ok) (_ : z.ok) : FnV Try.prog G0 7 [m.v, x.v, y.v, z.v] (bI true) := by
  obtain ⟨fl, hr⟩ := ring3_fn m x y z
  have hp := oneR_pos (rawN m)
  have hl := oneR_lt (rawN_lt m)
  have hX : modN (rawN x) (oneR (rawN m)) < oneR (rawN m) := by rw [modN_def]; exact Nat.mod_lt _ hp
  have hY : modN (rawN y) (oneR (rawN m)) < oneR (rawN m) := by rw [modN_def]; exact Nat.mod_lt _ hp
  have hZ : modN (rawN z) (oneR (rawN m)) < oneR (rawN m) := by rw [modN_def]; exact Nat.mod_lt _ hp
  refine gen_ex (modN (rawN x) (oneR (rawN m))) fun X eX => ?_
  refine gen_ex (modN (rawN y) (oneR (rawN m))) fun Y eY => ?_
  refine gen_ex (modN (rawN z) (oneR (rawN m))) fun Z eZ => ?_
  rw [← eX] at hr hX
  rw [← eY] at hr hY
  rw [← eZ] at hr hZ
  clear eX eY eZ
  refine gen_ex (oneR (rawN m)) fun N eN => ?_
  rw [← eN] at hr hX hY hZ hp hl
  clear eN
  have t1 := add_by hX hY hl
  have t2 := mul_by (addM_lt (a := X) (b := Y) hp) hZ hl
  rw [mul_spreads] at t2
  have t3 := mul_by hX hZ hl
  have t4 := mul_by hY hZ hl
  have t5 := add_by (mulM_lt (a := X) (b := Z) hp) (mulM_lt (a := Y) (b := Z) hp) hl
  have t6 := sub_by hX hY hl
  have t7 := add_by (subM_lt (a := X) (b := Y) hp) hY hl
  rw [sub_back hX hY] at t7
  have lq := addM_lt (a := mulM N X Z) (b := mulM N Y Z) hp
  refine gen_ex (addM N (mulM N X Z) (mulM N Y Z)) fun Q eQ => ?_
  rw [← eQ] at t2 t5 lq
  clear eQ
  refine gen_ex (addM N X Y) fun S eS => ?_
  rw [← eS] at t1 t2
  clear eS
  refine gen_ex (mulM N X Z) fun A eA => ?_
  refine gen_ex (mulM N Y Z) fun B eB => ?_
  refine gen_ex (subM N X Y) fun D eD => ?_
  rw [← eA] at t3 t5
  rw [← eB] at t4 t5
  rw [← eD] at t6 t7
  clear eA eB eD
  have e1 := eq_uC (a := Q) (b := Q) (by omega) (by omega)
  have e2 := eq_uC (a := X) (b := X) (by omega) (by omega)
  unfold RawD.v RawD.cells at *
  refine fn_of_vwp Γok Try.func7 (by kernel_rfl) rfl (by simp [Try.ntmps7]) (wpv_ok Γok (by kernel_rfl) _ _ _ ?_); conv => whnf
  refine .read 3 ([nI .i64 x.k, nI .i64 x.a, nI .i64 x.b, .v (.string x.s)] ++ ([nI .i64 y.k, nI .i64 y.a, nI .i64 y.b, .v (.string y.s)] ++ [nI .i64 z.k, nI .i64 z.a, nI .i64 z.b, .v (.string z.s)])) rfl rfl (by rfl) (by rfl) ?_
  conv => whnf
  try (refine ⟨by kernel_rfl, ?_⟩; conv => whnf)
  refine ⟨_, ret_of_fn G0ok (hr) (by first | rfl | simp only [noHs, noH, nI, bI, Bool.and_self, Bool.and_true, Bool.true_and, words_noHs]) (by first | rfl | simp only [noHs, noH, nI, bI, Bool.and_self, Bool.and_true, Bool.true_and, words_noHs]), ?_⟩; (conv => whnf); (try (refine ⟨by kernel_rfl, ?_⟩; conv => whnf))
  refine ⟨_, ret_of_fn G0ok (t1) (by first | rfl | simp only [noHs, noH, nI, bI, Bool.and_self, Bool.and_true, Bool.true_and, ]) (by first | rfl | simp only [noHs, noH, nI, bI, Bool.and_self, Bool.and_true, Bool.true_and, ]), ?_⟩; (conv => whnf); (try (refine ⟨by kernel_rfl, ?_⟩; conv => whnf))
  refine ⟨_, ret_of_fn G0ok (t2) (by first | rfl | simp only [noHs, noH, nI, bI, Bool.and_self, Bool.and_true, Bool.true_and, ]) (by first | rfl | simp only [noHs, noH, nI, bI, Bool.and_self, Bool.and_true, Bool.true_and, ]), ?_⟩; (conv => whnf); (try (refine ⟨by kernel_rfl, ?_⟩; conv => whnf))
  refine ⟨_, ret_of_fn G0ok (t3) (by first | rfl | simp only [noHs, noH, nI, bI, Bool.and_self, Bool.and_true, Bool.true_and, ]) (by first | rfl | simp only [noHs, noH, nI, bI, Bool.and_self, Bool.and_true, Bool.true_and, ]), ?_⟩; (conv => whnf); (try (refine ⟨by kernel_rfl, ?_⟩; conv => whnf))
  refine ⟨_, ret_of_fn G0ok (t4) (by first | rfl | simp only [noHs, noH, nI, bI, Bool.and_self, Bool.and_true, Bool.true_and, ]) (by first | rfl | simp only [noHs, noH, nI, bI, Bool.and_self, Bool.and_true, Bool.true_and, ]), ?_⟩; (conv => whnf); (try (refine ⟨by kernel_rfl, ?_⟩; conv => whnf))
  refine ⟨_, ret_of_fn G0ok (t5) (by first | rfl | simp only [noHs, noH, nI, bI, Bool.and_self, Bool.and_true, Bool.true_and, ]) (by first | rfl | simp only [noHs, noH, nI, bI, Bool.and_self, Bool.and_true, Bool.true_and, ]), ?_⟩; (conv => whnf); (try (refine ⟨by kernel_rfl, ?_⟩; conv => whnf))
  refine ⟨_, ret_of_fn G0ok (t6) (by first | rfl | simp only [noHs, noH, nI, bI, Bool.and_self, Bool.and_true, Bool.true_and, ]) (by first | rfl | simp only [noHs, noH, nI, bI, Bool.and_self, Bool.and_true, Bool.true_and, ]), ?_⟩; (conv => whnf); (try (refine ⟨by kernel_rfl, ?_⟩; conv => whnf))
  refine ⟨_, ret_of_fn G0ok (t7) (by first | rfl | simp only [noHs, noH, nI, bI, Bool.and_self, Bool.and_true, Bool.true_and, ]) (by first | rfl | simp only [noHs, noH, nI, bI, Bool.and_self, Bool.and_true, Bool.true_and, ]), ?_⟩; (conv => whnf); (try (refine ⟨by kernel_rfl, ?_⟩; conv => whnf))
  refine ⟨_, ret_of_fn G0ok (ftells_fn) (by first | rfl | simp only [noHs, noH, nI, bI, Bool.and_self, Bool.and_true, Bool.true_and, ]) (by first | rfl | simp only [noHs, noH, nI, bI, Bool.and_self, Bool.and_true, Bool.true_and, ]), ?_⟩; (conv => whnf); (try (refine ⟨by kernel_rfl, ?_⟩; conv => whnf))
  refine ⟨_, e1, ?_⟩
  rw [decide_eq_true rfl]
  conv => whnf
  try (refine ⟨by kernel_rfl, ?_⟩; conv => whnf)
  refine ⟨_, e2, ?_⟩
  rw [decide_eq_true rfl]
  conv => whnf
  try (refine ⟨by kernel_rfl, ?_⟩; conv => whnf)
  exact ⟨_, rfl, rfl⟩
namespace lawFieldSpreads
set_option linter.unusedVariables false
set_option maxRecDepth 100000 in
theorem lifted (os : Os) (started : os.Started) (H : Type) (enc : TypeId × Value → H) :
    ReturnsInHanded {} Try.checked os 7 .any (Rows.fieldSpreadsSpec.pre6 enc Try.prog Try.f7 Rows.fieldSpreadsRow.domain false) (Rows.fieldSpreadsSpec.post enc Try.prog Try.f7 false true false false) := by
  refine returnsInHanded_of_change (C := Try.checked) rowOwn started (by kernel_rfl) Try.func7
    (ChangeSpec.witness6 (enc := enc) (C := Try.checked) false ⟨#[], #[.agg #[.int .i64 0, .int .i64 0, .int .i64 0, .string ByteArray.empty], .agg #[.int .i64 0, .int .i64 0, .int .i64 0, .string ByteArray.empty], .agg #[.int .i64 0, .int .i64 0, .int .i64 0, .string ByteArray.empty], .agg #[.int .i64 0, .int .i64 0, .int .i64 0, .string ByteArray.empty]], []⟩ 8 (by kernel_rfl) (by kernel_rfl) (by kernel_rfl) (by kernel_rfl)) ?_
  intro W base args ds gs before hval0 hW hcnd _
  have hval : ∀ (j : Nat) t v, Try.f7.params[j]? = some t → args[j]? = some v → Value.okWide Try.prog W .any base t v := hval0
  have hW' := hW
  obtain ⟨p, q, hA0, hV, rfl, hfz, hnd⟩ := hW
  have hA : DataW.TrodAll enc Try.prog W 0 (fun _ => true) true Try.f7.params.toList args.toList ds p := hA0
  rw [Try.params7] at hA hval
  obtain ⟨v0, vs0, d0, ds0, p0, q0, hargs, rfl, rfl, h0, r0⟩ := trodAll_cons hA
  obtain ⟨v1, vs1, d1, ds1, p1, q1, rfl, rfl, rfl, h1, r1⟩ := trodAll_cons r0
  obtain ⟨v2, vs2, d2, ds2, p2, q2, rfl, rfl, rfl, h2, r2⟩ := trodAll_cons r1
  obtain ⟨v3, vs3, d3, ds3, p3, q3, rfl, rfl, rfl, h3, r3⟩ := trodAll_cons r2
  obtain ⟨rfl, rfl, rfl⟩ := trodAll_nil r3
  obtain rfl : args = #[v0, v1, v2, v3] := by cases args; simp_all
  obtain ⟨rfl, rfl⟩ := trodVars_none hV
  have k0 := h0
  have lt0 : ∀ x ∈ p0, x.block < W.heap.size := by obtain ⟨m, hm⟩ := k0; exact DataW.trod_lt m _ _ _ hm
  obtain ⟨a0, w0, u0⟩ := raw_open (hval 0 23 v0 rfl rfl) h0
  have k1 := h1
  have lt1 : ∀ x ∈ p1, x.block < W.heap.size := by obtain ⟨m, hm⟩ := k1; exact DataW.trod_lt m _ _ _ hm
  obtain ⟨a1, w1, u1⟩ := raw_open (hval 1 23 v1 rfl rfl) h1
  have k2 := h2
  have lt2 : ∀ x ∈ p2, x.block < W.heap.size := by obtain ⟨m, hm⟩ := k2; exact DataW.trod_lt m _ _ _ hm
  obtain ⟨a2, w2, u2⟩ := raw_open (hval 2 23 v2 rfl rfl) h2
  have k3 := h3
  have lt3 : ∀ x ∈ p3, x.block < W.heap.size := by obtain ⟨m, hm⟩ := k3; exact DataW.trod_lt m _ _ _ hm
  obtain ⟨a3, w3, u3⟩ := raw_open (hval 3 23 v3 rfl rfl) h3
  clear hA0 hval0
  refine (calls_of_fn Try.func7 (by kernel_rfl) rfl (fnFieldSpreads a0 a1 a2 a3 w0 w1 w2 w3) (fun _ _ h => by cases h) (VRs.cons (u0 _) (VRs.cons (u1 _) (VRs.cons (u2 _) (VRs.cons (u3 _) VRs.snoc_nil))))).mono fun e W' ⟨he, bel⟩ => ?_
  subst he
  exact ⟨_, rfl, _, _, _, [], _, [], hW', trodAll_mk1 (shut_bool Try.underlying4 _), (trodAll_cons_mk (Below.trod rowLaid (by kernel_rfl) (of_decide_eq_true (by kernel_rfl)) k0 bel lt0) (trodAll_cons_mk (Below.trod rowLaid (by kernel_rfl) (of_decide_eq_true (by kernel_rfl)) k1 bel lt1) (trodAll_cons_mk (Below.trod rowLaid (by kernel_rfl) (of_decide_eq_true (by kernel_rfl)) k2 bel lt2) (trodAll_cons_mk (Below.trod rowLaid (by kernel_rfl) (of_decide_eq_true (by kernel_rfl)) k3 bel lt3) trodAll_mk0)))), rfl, bel.frame _, fun h => by cases h⟩
theorem over : Rows.fieldSpreadsRow.holds Try.pinned (OpenSpec.ofChange Rows.fieldSpreadsSpec) :=
  OpenClaim.holds_of_wide 7 Try.f7 rfl rfl rfl rfl rfl rfl rfl ⟨rfl, rfl, rfl, rfl, rfl⟩ rfl rfl rfl rfl rfl (by kernel_rfl) Try.func7 (by kernel_rfl)
    (of_decide_eq_true (by kernel_rfl)) (by unfold Func.isWrapper; first | (rw [if_pos (by decide +kernel)]; kernel_rfl) | (rw [if_neg (by decide +kernel)]; exact ⟨rfl, rfl⟩))
    (fun os started H enc _ => lifted os started H enc)
theorem proved : Rows.FieldSpreadsSaid := over
end lawFieldSpreads

end Go.Proofs.Ytbbihbcfeihhiaa
