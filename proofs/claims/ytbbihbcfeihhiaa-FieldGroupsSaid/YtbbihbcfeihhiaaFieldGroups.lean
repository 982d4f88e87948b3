/- FieldGroups: three go together in any way, in sums and products. -/
import Derived.Test.YtbbihbcfeihhiaaVRing3
import Derived.Test.YtbbihbcfeihhiaaFieldTurns
namespace Go.Proofs.Ytbbihbcfeihhiaa
set_option linter.unusedVariables false
set_option linter.unusedSimpArgs false
set_option linter.unusedSectionVars false
open Go.ChangeShapes Go.WideShapes Go.ChangeAt Go.RowKit Go.Joins
set_option maxRecDepth 10000
theorem add_groups (m a b c : Nat) : addM m (addM m a b) c = addM m a (addM m b c) := by
  rw [addM_def, addM_def, addM_def, addM_def, Nat.mod_add_mod, Nat.add_mod_mod, Nat.add_assoc]
theorem mul_groups (m a b c : Nat) : mulM m (mulM m a b) c = mulM m a (mulM m b c) := by
  rw [mulM_def, mulM_def, mulM_def, mulM_def, Nat.mul_mod, Nat.mod_mod, ← Nat.mul_mod, Nat.mul_mod a, Nat.mod_mod, ← Nat.mul_mod, Nat.mul_assoc]
theorem three_fnH {g : FuncId} {fl : Bool} {X Y Z N p q r : Nat} (hr : r < T256)
    (h1 : FnV Try.prog G0 g [uV X, uV Y, uV N] (.tup [uV p, nI .i64 0])) (h2 : FnV Try.prog G0 g [uV p, uV Z, uV N] (.tup [uV r, nI .i64 0]))
    (h3 : FnV Try.prog G0 g [uV Y, uV Z, uV N] (.tup [uV q, nI .i64 0])) (h4 : FnV Try.prog G0 g [uV X, uV q, uV N] (.tup [uV r, nI .i64 0])) :
    FnH Try.prog G0 25 [.fn (.func g) [], .ptr 0 0, .ptr 1 0] [(0, some [.ds fl 3 (uC X ++ uC Y ++ uC Z)]), (1, some (uC N))] 2 (bI true) [(0, some [.ds fl 3 (uC X ++ uC Y ++ uC Z)]), (1, some (uC N))] 0 := by
  have e1 := eq_uC (a := r) (b := r) hr hr
  refine fnH_of_vwp Γok G0ok Try.func25 (by kernel_rfl) rfl (by simp [Try.ntmps25]) (wpv_ok Γok (by kernel_rfl) _ _ _ ?_); conv => whnf
  refine ⟨_, ret_of_fn G0ok (h1) (by first | rfl | simp only [noHs, noH, nI, bI, Bool.and_self, Bool.and_true, Bool.true_and, ]) (by first | rfl | simp only [noHs, noH, nI, bI, Bool.and_self, Bool.and_true, Bool.true_and, ]), ?_⟩; (conv => whnf); (try (refine ⟨by kernel_rfl, ?_⟩; conv => whnf))
  refine ⟨_, ret_of_fn G0ok (h2) (by first | rfl | simp only [noHs, noH, nI, bI, Bool.and_self, Bool.and_true, Bool.true_and, ]) (by first | rfl | simp only [noHs, noH, nI, bI, Bool.and_self, Bool.and_true, Bool.true_and, ]), ?_⟩; (conv => whnf); (try (refine ⟨by kernel_rfl, ?_⟩; conv => whnf))
  refine ⟨_, ret_of_fn G0ok (h3) (by first | rfl | simp only [noHs, noH, nI, bI, Bool.and_self, Bool.and_true, Bool.true_and, ]) (by first | rfl | simp only [noHs, noH, nI, bI, Bool.and_self, Bool.and_true, Bool.true_and, ]), ?_⟩; (conv => whnf); (try (refine ⟨by kernel_rfl, ?_⟩; conv => whnf))
  refine ⟨_, ret_of_fn G0ok (h4) (by first | rfl | simp only [noHs, noH, nI, bI, Bool.and_self, Bool.and_true, Bool.true_and, ]) (by first | rfl | simp only [noHs, noH, nI, bI, Bool.and_self, Bool.and_true, Bool.true_and, ]), ?_⟩; (conv => whnf); (try (refine ⟨by kernel_rfl, ?_⟩; conv => whnf))
  refine ⟨_, e1, ?_⟩
  rw [decide_eq_true rfl]
  conv => whnf
  try (refine ⟨by kernel_rfl, ?_⟩; conv => whnf)
  exact ⟨_, rfl, [(0, some 0), (1, some 1)], rfl, rfl, .same rfl, ⟨.inr ⟨_, _, rfl, rfl, convs_eq rfl (rfl)⟩, .inr ⟨_, _, rfl, rfl, convs_eq rfl (words_noHs _)⟩, trivial⟩⟩
theorem outH2 {u v : List VV} (hu : noHs u = true) (hv : noHs v = true) : outH 2 [(0, some u), (1, some v)] 2 :=
  ⟨⟨trivial, fun cs h => (Option.some.inj (show some u = some cs from h)) ▸ lowVs_noHs hu⟩, fun cs h => (Option.some.inj (show some v = some cs from h)) ▸ lowVs_noHs hv⟩
theorem fnFieldGroups (m x y z : RawD) (_ : m.ok) (_ : x.ok) (_ : y.ok) (_ : z.ok) : FnV Try.prog G0 6 [m.v, x.v, y.v, z.v] (bI true) := by
  obtain ⟨fl, hr⟩ := ring3_fn m x y z
  have hp := oneR_pos (rawN m)
  have hl := oneR_lt (rawN_lt m)
  have hX : modN (rawN x) (oneR (rawN m)) < oneR (rawN m) := by rw [modN_def]; exact Nat.mod_lt _ hp
  have hY : modN (rawN y) (oneR (rawN m)) < oneR (rawN m) := by rw [modN_def]; exact Nat.mod_lt _ hp
  have hZ : modN (rawN z) (oneR (rawN m)) < oneR (rawN m) := by rw [modN_def]; exact Nat.mod_lt _ hp
  refine gen_ex (modN (rawN x) (oneR (rawN m))) fun X eX => ?_
  refine gen_ex (modN (rawN y) (oneR (rawN m))) fun Y eY => ?_
  refine gen_ex (modN (rawN z) (oneR (rawN m))) fun Z eZ => ?_
  rw [← eX] at hr hX
  rw [← eY] at hr hY
  rw [← eZ] at hr hZ
  clear eX eY eZ
  refine gen_ex (oneR (rawN m)) fun N eN => ?_
  rw [← eN] at hr hX hY hZ hp hl
  clear eN
  have ra := addM_lt (a := addM N X Y) (b := Z) hp
  have rm := mulM_lt (a := mulM N X Y) (b := Z) hp
  have k1 := three_fnH (fl := fl) (r := addM N (addM N X Y) Z) (by omega) (add_by hX hY hl) (add_by (addM_lt hp) hZ hl) (add_by hY hZ hl) (by rw [add_groups]; exact add_by hX (addM_lt hp) hl)
  have k2 := three_fnH (fl := fl) (r := mulM N (mulM N X Y) Z) (by omega) (mul_by hX hY hl) (mul_by (mulM_lt hp) hZ hl) (mul_by hY hZ hl) (by rw [mul_groups]; exact mul_by hX (mulM_lt hp) hl)
  clear ra rm
  unfold RawD.v RawD.cells at *
  refine fn_of_vwp Γok Try.func6 (by kernel_rfl) rfl (by simp [Try.ntmps6]) (wpv_ok Γok (by kernel_rfl) _ _ _ ?_); conv => whnf
  refine .read 3 ([nI .i64 x.k, nI .i64 x.a, nI .i64 x.b, .v (.string x.s)] ++ ([nI .i64 y.k, nI .i64 y.a, nI .i64 y.b, .v (.string y.s)] ++ [nI .i64 z.k, nI .i64 z.a, nI .i64 z.b, .v (.string z.s)])) rfl rfl (by rfl) (by rfl) ?_
  conv => whnf
  try (refine ⟨by kernel_rfl, ?_⟩; conv => whnf)
  refine ⟨_, ret_of_fn G0ok (hr) (by first | rfl | simp only [noHs, noH, nI, bI, Bool.and_self, Bool.and_true, Bool.true_and, words_noHs]) (by first | rfl | simp only [noHs, noH, nI, bI, Bool.and_self, Bool.and_true, Bool.true_and, words_noHs]), ?_⟩; (conv => whnf); (try (refine ⟨by kernel_rfl, ?_⟩; conv => whnf))
  refine ⟨_, ret_of_fn G0ok (ftells_fn) (by first | rfl | simp only [noHs, noH, nI, bI, Bool.and_self, Bool.and_true, Bool.true_and, ]) (by first | rfl | simp only [noHs, noH, nI, bI, Bool.and_self, Bool.and_true, Bool.true_and, ]), ?_⟩; (conv => whnf); (try (refine ⟨by kernel_rfl, ?_⟩; conv => whnf))
  refine ⟨_, ret_fnH G0ok k1 [6, 5] rfl rfl rfl rfl rfl ⟨⟨trivial, _, rfl, rfl, rfl⟩, _, rfl, rfl, rfl⟩ (outH2 (by rfl) (words_noHs _)) rfl rfl (upd := [(6, some [.ds fl 3 (uC X ++ uC Y ++ uC Z)]), (5, some (uC N))]) (by rfl), ?_⟩
  conv => whnf
  try (refine ⟨by kernel_rfl, ?_⟩; conv => whnf)
  refine ⟨_, ret_fnH G0ok k2 [6, 5] rfl rfl rfl rfl rfl ⟨⟨trivial, _, rfl, rfl, rfl⟩, _, rfl, rfl, rfl⟩ (outH2 (by rfl) (words_noHs _)) rfl rfl (upd := [(6, some [.ds fl 3 (uC X ++ uC Y ++ uC Z)]), (5, some (uC N))]) (by rfl), ?_⟩
  conv => whnf
  try (refine ⟨by kernel_rfl, ?_⟩; conv => whnf)
  exact ⟨_, rfl, rfl⟩
namespace lawFieldGroups
set_option linter.unusedVariables false
set_option maxRecDepth 100000 in
theorem lifted (os : Os) (started : os.Started) (H : Type) (enc : TypeId × Value → H) :
    ReturnsInHanded {} Try.checked os 6 .any (Rows.fieldGroupsSpec.pre6 enc Try.prog Try.f6 Rows.fieldGroupsRow.domain false) (Rows.fieldGroupsSpec.post enc Try.prog Try.f6 false true false false) := by
  refine returnsInHanded_of_change (C := Try.checked) rowOwn started (by kernel_rfl) Try.func6
    (ChangeSpec.witness6 (enc := enc) (C := Try.checked) false ⟨#[], #[.agg #[.int .i64 0, .int .i64 0, .int .i64 0, .string ByteArray.empty], .agg #[.int .i64 0, .int .i64 0, .int .i64 0, .string ByteArray.empty], .agg #[.int .i64 0, .int .i64 0, .int .i64 0, .string ByteArray.empty], .agg #[.int .i64 0, .int .i64 0, .int .i64 0, .string ByteArray.empty]], []⟩ 8 (by kernel_rfl) (by kernel_rfl) (by kernel_rfl) (by kernel_rfl)) ?_
  intro W base args ds gs before hval0 hW hcnd _
  have hval : ∀ (j : Nat) t v, Try.f6.params[j]? = some t → args[j]? = some v → Value.okWide Try.prog W .any base t v := hval0
  have hW' := hW
  obtain ⟨p, q, hA0, hV, rfl, hfz, hnd⟩ := hW
  have hA : DataW.TrodAll enc Try.prog W 0 (fun _ => true) true Try.f6.params.toList args.toList ds p := hA0
  rw [Try.params6] at hA hval
  obtain ⟨v0, vs0, d0, ds0, p0, q0, hargs, rfl, rfl, h0, r0⟩ := trodAll_cons hA
  obtain ⟨v1, vs1, d1, ds1, p1, q1, rfl, rfl, rfl, h1, r1⟩ := trodAll_cons r0
  obtain ⟨v2, vs2, d2, ds2, p2, q2, rfl, rfl, rfl, h2, r2⟩ := trodAll_cons r1
  obtain ⟨v3, vs3, d3, ds3, p3, q3, rfl, rfl, rfl, h3, r3⟩ := trodAll_cons r2
  obtain ⟨rfl, rfl, rfl⟩ := trodAll_nil r3
  obtain rfl : args = #[v0, v1, v2, v3] := by cases args; simp_all
  obtain ⟨rfl, rfl⟩ := trodVars_none hV
  have k0 := h0
  have lt0 : ∀ x ∈ p0, x.block < W.heap.size := by obtain ⟨m, hm⟩ := k0; exact DataW.trod_lt m _ _ _ hm
  obtain ⟨a0, w0, u0⟩ := raw_open (hval 0 23 v0 rfl rfl) h0
  have k1 := h1
  have lt1 : ∀ x ∈ p1, x.block < W.heap.size := by obtain ⟨m, hm⟩ := k1; exact DataW.trod_lt m _ _ _ hm
  obtain ⟨a1, w1, u1⟩ := raw_open (hval 1 23 v1 rfl rfl) h1
  have k2 := h2
  have lt2 : ∀ x ∈ p2, x.block < W.heap.size := by obtain ⟨m, hm⟩ := k2; exact DataW.trod_lt m _ _ _ hm
  obtain ⟨a2, w2, u2⟩ := raw_open (hval 2 23 v2 rfl rfl) h2
  have k3 := h3
  have lt3 : ∀ x ∈ p3, x.block < W.heap.size := by obtain ⟨m, hm⟩ := k3; exact DataW.trod_lt m _ _ _ hm
  obtain ⟨a3, w3, u3⟩ := raw_open (hval 3 23 v3 rfl rfl) h3
  clear hA0 hval0
  refine (calls_of_fn Try.func6 (by kernel_rfl) rfl (fnFieldGroups a0 a1 a2 a3 w0 w1 w2 w3) (fun _ _ h => by cases h) (VRs.cons (u0 _) (VRs.cons (u1 _) (VRs.cons (u2 _) (VRs.cons (u3 _) VRs.snoc_nil))))).mono fun e W' ⟨he, bel⟩ => ?_
  subst he
  exact ⟨_, rfl, _, _, _, [], _, [], hW', trodAll_mk1 (shut_bool Try.underlying4 _), (trodAll_cons_mk (Below.trod rowLaid (by kernel_rfl) (of_decide_eq_true (by kernel_rfl)) k0 bel lt0) (trodAll_cons_mk (Below.trod rowLaid (by kernel_rfl) (of_decide_eq_true (by kernel_rfl)) k1 bel lt1) (trodAll_cons_mk (Below.trod rowLaid (by kernel_rfl) (of_decide_eq_true (by kernel_rfl)) k2 bel lt2) (trodAll_cons_mk (Below.trod rowLaid (by kernel_rfl) (of_decide_eq_true (by kernel_rfl)) k3 bel lt3) trodAll_mk0)))), rfl, bel.frame _, fun h => by cases h⟩
theorem over : Rows.fieldGroupsRow.holds Try.pinned (OpenSpec.ofChange Rows.fieldGroupsSpec) :=
  OpenClaim.holds_of_wide 6 Try.f6 rfl rfl rfl rfl rfl rfl rfl ⟨rfl, rfl, rfl, rfl, rfl⟩ rfl rfl rfl rfl rfl (by kernel_rfl) Try.func6 (by kernel_rfl)
    (of_decide_eq_true (by kernel_rfl)) (by unfold Func.isWrapper; first | (rw [if_pos (by decide +kernel)]; kernel_rfl) | (rw [if_neg (by decide +kernel)]; exact ⟨rfl, rfl⟩))
    (fun os started H enc _ => lifted os started H enc)
theorem proved : Rows.FieldGroupsSaid := over
end lawFieldGroups

end Go.Proofs.Ytbbihbcfeihhiaa
