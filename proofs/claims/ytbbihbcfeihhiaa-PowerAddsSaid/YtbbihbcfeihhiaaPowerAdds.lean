/- PowerAdds: a power of a sum is the product of the powers; the power of a product, too. -/
import Derived.Test.YtbbihbcfeihhiaaVPow
import Derived.Test.YtbbihbcfeihhiaaFieldTurns
namespace Go.Proofs.Ytbbihbcfeihhiaa
set_option linter.unusedVariables false
set_option linter.unusedSimpArgs false
set_option linter.unusedSectionVars false
open Go.ChangeShapes Go.WideShapes Go.ChangeAt Go.RowKit Go.Joins
set_option maxRecDepth 10000
theorem pow_sum (m a p q : Nat) : mulM m (powM m a p) (powM m a q) = powM m a (p + q) := by
  rw [mulM_def, powM_def, powM_def, powM_def, ← Nat.mul_mod, ← Nat.pow_add]
theorem pow_prod (m a b p : Nat) : mulM m (powM m a p) (powM m b p) = powM m (mulM m a b) p := by
  rw [mulM_def, mulM_def, powM_def, powM_def, powM_def, ← Nat.mul_mod, ← Nat.mul_pow, ← Nat.pow_mod]
theorem fnPowerAdds (m x y : RawD) (i j : Int) (_ : m.ok) (_ : x.ok) (_ : y.ok) (_ : I64 i) (_ : I64 j) : FnV Try.prog G0 8 [m.v, x.v, y.v, nI .i64 i, nI .i64 j] (bI true) := by
  obtain ⟨fl, hr⟩ := ring2_fn m x y
  have hp := oneR_pos (rawN m)
  have hl := oneR_lt (rawN_lt m)
  have hX : modN (rawN x) (oneR (rawN m)) < oneR (rawN m) := by rw [modN_def]; exact Nat.mod_lt _ hp
  have hY : modN (rawN y) (oneR (rawN m)) < oneR (rawN m) := by rw [modN_def]; exact Nat.mod_lt _ hp
  refine gen_ex (modN (rawN x) (oneR (rawN m))) fun X eX => ?_
  refine gen_ex (modN (rawN y) (oneR (rawN m))) fun Y eY => ?_
  rw [← eX] at hr hX
  rw [← eY] at hr hY
  clear eX eY
  refine gen_ex (oneR (rawN m)) fun N eN => ?_
  rw [← eN] at hr hX hY hp hl
  clear eN
  obtain ⟨I, hI, lI⟩ := u64_ex i
  obtain ⟨J, hJ, lJ⟩ := u64_ex j
  have lI2 : I / 2 < B64 := by omega
  have lJ2 : J / 2 < B64 := by omega
  have z0 : 0 < B64 := by decide
  have eP := uV_val4 lI lJ2 z0 z0
  have eQ := uV_val4 lJ lI2 z0 z0
  have lP : val4 I (J / 2) 0 0 < T256 := by rw [T256_lit]; unfold val4 B64 at *; omega
  have lQ : val4 J (I / 2) 0 0 < T256 := by rw [T256_lit]; unfold val4 B64 at *; omega
  have lS : val4 I (J / 2) 0 0 + val4 J (I / 2) 0 0 < T256 := by rw [T256_lit]; unfold val4 B64 at *; omega
  have sI : ((I : Int)).fdiv (2 ^ min (1 : Int).toNat IntKind.u64.bits) = ((I / 2 : Nat) : Int) := shr_val (k := .u64) (x := I) (n := 1) (by decide)
  have sJ : ((J : Int)).fdiv (2 ^ min (1 : Int).toNat IntKind.u64.bits) = ((J / 2 : Nat) : Int) := shr_val (k := .u64) (x := J) (n := 1) (by decide)
  refine gen_ex (val4 I (J / 2) 0 0) fun P hP => ?_
  refine gen_ex (val4 J (I / 2) 0 0) fun Q hQ => ?_
  rw [← hP] at eP lP lS
  rw [← hQ] at eQ lQ lS
  clear hP hQ lI2 lJ2 z0
  have ad := add_fn lP lQ
  rw [addS_def, addO_def, Nat.mod_eq_of_lt lS, eP, eQ] at ad
  have t1 := pow_fn hX lP hl
  have t2 := pow_fn hX lQ hl
  have t3 := mul_by (powM_lt (a := X) (e := P) hp) (powM_lt (a := X) (e := Q) hp) hl
  rw [pow_sum] at t3
  have t4 := pow_fn hX lS hl
  have t5 := mul_by hX hY hl
  have t6 := pow_fn (mulM_lt (a := X) (b := Y) hp) lP hl
  have t7 := pow_fn hY lP hl
  have t8 := mul_by (powM_lt (a := X) (e := P) hp) (powM_lt (a := Y) (e := P) hp) hl
  rw [pow_prod] at t8
  rw [eP] at t1 t6 t7
  rw [eQ] at t2
  have l1 := powM_lt (m := N) (a := X) (e := P + Q) hp
  have l2 := powM_lt (m := N) (a := mulM N X Y) (e := P) hp
  refine gen_ex (powM N X (P + Q)) fun A eA => ?_
  refine gen_ex (powM N (mulM N X Y) P) fun B eB => ?_
  rw [← eA] at t3 t4 l1
  rw [← eB] at t6 t8 l2
  clear eA eB
  refine gen_ex (powM N X P) fun C eC => ?_
  refine gen_ex (powM N X Q) fun D eD => ?_
  refine gen_ex (powM N Y P) fun E eE => ?_
  refine gen_ex (mulM N X Y) fun F eF => ?_
  refine gen_ex (P + Q) fun S eS => ?_
  rw [← eC] at t1 t3 t8
  rw [← eD] at t2 t3
  rw [← eE] at t7 t8
  rw [← eF] at t5 t6
  rw [← eS] at ad t4
  clear eC eD eE eF eS
  have e1 := eq_uC (a := A) (b := A) (by omega) (by omega)
  have e2 := eq_uC (a := B) (b := B) (by omega) (by omega)
  clear lS lP lQ eP eQ lI lJ
  unfold RawD.v RawD.cells at *
  refine fn_of_vwp Γok Try.func8 (by kernel_rfl) rfl (by simp [Try.ntmps8]) (wpv_ok Γok (by kernel_rfl) _ _ _ ?_); conv => whnf
  refine .read 2 ([nI .i64 x.k, nI .i64 x.a, nI .i64 x.b, .v (.string x.s)] ++ [nI .i64 y.k, nI .i64 y.a, nI .i64 y.b, .v (.string y.s)]) rfl rfl (by rfl) (by rfl) ?_
  conv => whnf
  try (refine ⟨by kernel_rfl, ?_⟩; conv => whnf)
  refine ⟨_, ret_of_fn G0ok (hr) (by first | rfl | simp only [noHs, noH, nI, bI, Bool.and_self, Bool.and_true, Bool.true_and, words_noHs]) (by first | rfl | simp only [noHs, noH, nI, bI, Bool.and_self, Bool.and_true, Bool.true_and, words_noHs]), ?_⟩; (conv => whnf); (try (refine ⟨by kernel_rfl, ?_⟩; conv => whnf))
  rw [hI, hJ, sI, sJ]
  conv => whnf
  try (refine ⟨by kernel_rfl, ?_⟩; conv => whnf)
  refine ⟨_, ret_of_fn G0ok (ad) (by first | rfl | simp only [noHs, noH, nI, bI, Bool.and_self, Bool.and_true, Bool.true_and, ]) (by first | rfl | simp only [noHs, noH, nI, bI, Bool.and_self, Bool.and_true, Bool.true_and, ]), ?_⟩; (conv => whnf); (try (refine ⟨by kernel_rfl, ?_⟩; conv => whnf))
  refine ⟨_, ret_of_fn G0ok (t1) (by first | rfl | simp only [noHs, noH, nI, bI, Bool.and_self, Bool.and_true, Bool.true_and, ]) (by first | rfl | simp only [noHs, noH, nI, bI, Bool.and_self, Bool.and_true, Bool.true_and, ]), ?_⟩; (conv => whnf); (try (refine ⟨by kernel_rfl, ?_⟩; conv => whnf))
  refine ⟨_, ret_of_fn G0ok (t2) (by first | rfl | simp only [noHs, noH, nI, bI, Bool.and_self, Bool.and_true, Bool.true_and, ]) (by first | rfl | simp only [noHs, noH, nI, bI, Bool.and_self, Bool.and_true, Bool.true_and, ]), ?_⟩; (conv => whnf); (try (refine ⟨by kernel_rfl, ?_⟩; conv => whnf))
  refine ⟨_, ret_of_fn G0ok (t3) (by first | rfl | simp only [noHs, noH, nI, bI, Bool.and_self, Bool.and_true, Bool.true_and, ]) (by first | rfl | simp only [noHs, noH, nI, bI, Bool.and_self, Bool.and_true, Bool.true_and, ]), ?_⟩; (conv => whnf); (try (refine ⟨by kernel_rfl, ?_⟩; conv => whnf))
  refine ⟨_, ret_of_fn G0ok (t4) (by first | rfl | simp only [noHs, noH, nI, bI, Bool.and_self, Bool.and_true, Bool.true_and, ]) (by first | rfl | simp only [noHs, noH, nI, bI, Bool.and_self, Bool.and_true, Bool.true_and, ]), ?_⟩; (conv => whnf); (try (refine ⟨by kernel_rfl, ?_⟩; conv => whnf))
  refine ⟨_, ret_of_fn G0ok (t5) (by first | rfl | simp only [noHs, noH, nI, bI, Bool.and_self, Bool.and_true, Bool.true_and, ]) (by first | rfl | simp only [noHs, noH, nI, bI, Bool.and_self, Bool.and_true, Bool.true_and, ]), ?_⟩; (conv => whnf); (try (refine ⟨by kernel_rfl, ?_⟩; conv => whnf))
  refine ⟨_, ret_of_fn G0ok (t6) (by first | rfl | simp only [noHs, noH, nI, bI, Bool.and_self, Bool.and_true, Bool.true_and, ]) (by first | rfl | simp only [noHs, noH, nI, bI, Bool.and_self, Bool.and_true, Bool.true_and, ]), ?_⟩; (conv => whnf); (try (refine ⟨by kernel_rfl, ?_⟩; conv => whnf))
  refine ⟨_, ret_of_fn G0ok (t7) (by first | rfl | simp only [noHs, noH, nI, bI, Bool.and_self, Bool.and_true, Bool.true_and, ]) (by first | rfl | simp only [noHs, noH, nI, bI, Bool.and_self, Bool.and_true, Bool.true_and, ]), ?_⟩; (conv => whnf); (try (refine ⟨by kernel_rfl, ?_⟩; conv => whnf))
  refine ⟨_, ret_of_fn G0ok (t8) (by first | rfl | simp only [noHs, noH, nI, bI, Bool.and_self, Bool.and_true, Bool.true_and, ]) (by first | rfl | simp only [noHs, noH, nI, bI, Bool.and_self, Bool.and_true, Bool.true_and, ]), ?_⟩; (conv => whnf); (try (refine ⟨by kernel_rfl, ?_⟩; conv => whnf))
  refine ⟨_, ret_of_fn G0ok (ftells_fn) (by first | rfl | simp only [noHs, noH, nI, bI, Bool.and_self, Bool.and_true, Bool.true_and, ]) (by first | rfl | simp only [noHs, noH, nI, bI, Bool.and_self, Bool.and_true, Bool.true_and, ]), ?_⟩; (conv => whnf); (try (refine ⟨by kernel_rfl, ?_⟩; conv => whnf))
  refine ⟨_, e1, ?_⟩
  rw [decide_eq_true rfl]
  conv => whnf
  try (refine ⟨by kernel_rfl, ?_⟩; conv => whnf)
  refine ⟨_, e2, ?_⟩
  rw [decide_eq_true rfl]
  conv => whnf
  try (refine ⟨by kernel_rfl, ?_⟩; conv => whnf)
  exact ⟨_, rfl, rfl⟩
namespace lawPowerAdds
set_option linter.unusedVariables false
set_option maxRecDepth 100000 in
theorem lifted (os : Os) (started : os.Started) (H : Type) (enc : TypeId × Value → H) :
    ReturnsInHanded {} Try.checked os 8 .any (Rows.powerAddsSpec.pre6 enc Try.prog Try.f8 Rows.powerAddsRow.domain false) (Rows.powerAddsSpec.post enc Try.prog Try.f8 false true false false) := by
  refine returnsInHanded_of_change (C := Try.checked) rowOwn started (by kernel_rfl) Try.func8
    (ChangeSpec.witness6 (enc := enc) (C := Try.checked) false ⟨#[], #[.agg #[.int .i64 0, .int .i64 0, .int .i64 0, .string ByteArray.empty], .agg #[.int .i64 0, .int .i64 0, .int .i64 0, .string ByteArray.empty], .agg #[.int .i64 0, .int .i64 0, .int .i64 0, .string ByteArray.empty], .int .i64 0, .int .i64 0], []⟩ 8 (by kernel_rfl) (by kernel_rfl) (by kernel_rfl) (by kernel_rfl)) ?_
  intro W base args ds gs before hval0 hW hcnd _
  have hval : ∀ (j : Nat) t v, Try.f8.params[j]? = some t → args[j]? = some v → Value.okWide Try.prog W .any base t v := hval0
  have hW' := hW
  obtain ⟨p, q, hA0, hV, rfl, hfz, hnd⟩ := hW
  have hA : DataW.TrodAll enc Try.prog W 0 (fun _ => true) true Try.f8.params.toList args.toList ds p := hA0
  rw [Try.params8] at hA hval
  obtain ⟨v0, vs0, d0, ds0, p0, q0, hargs, rfl, rfl, h0, r0⟩ := trodAll_cons hA
  obtain ⟨v1, vs1, d1, ds1, p1, q1, rfl, rfl, rfl, h1, r1⟩ := trodAll_cons r0
  obtain ⟨v2, vs2, d2, ds2, p2, q2, rfl, rfl, rfl, h2, r2⟩ := trodAll_cons r1
  obtain ⟨v3, vs3, d3, ds3, p3, q3, rfl, rfl, rfl, h3, r3⟩ := trodAll_cons r2
  obtain ⟨v4, vs4, d4, ds4, p4, q4, rfl, rfl, rfl, h4, r4⟩ := trodAll_cons r3
  obtain ⟨rfl, rfl, rfl⟩ := trodAll_nil r4
  obtain rfl : args = #[v0, v1, v2, v3, v4] := by cases args; simp_all
  obtain ⟨rfl, rfl⟩ := trodVars_none hV
  have k0 := h0
  have lt0 : ∀ x ∈ p0, x.block < W.heap.size := by obtain ⟨m, hm⟩ := k0; exact DataW.trod_lt m _ _ _ hm
  obtain ⟨a0, w0, u0⟩ := raw_open (hval 0 23 v0 rfl rfl) h0
  have k1 := h1
  have lt1 : ∀ x ∈ p1, x.block < W.heap.size := by obtain ⟨m, hm⟩ := k1; exact DataW.trod_lt m _ _ _ hm
  obtain ⟨a1, w1, u1⟩ := raw_open (hval 1 23 v1 rfl rfl) h1
  have k2 := h2
  have lt2 : ∀ x ∈ p2, x.block < W.heap.size := by obtain ⟨m, hm⟩ := k2; exact DataW.trod_lt m _ _ _ hm
  obtain ⟨a2, w2, u2⟩ := raw_open (hval 2 23 v2 rfl rfl) h2
  obtain ⟨a3, rfl, rfl, rfl, w3⟩ := open_int Try.underlying3 (hval 3 3 v3 rfl rfl) h3
  obtain ⟨a4, rfl, rfl, rfl, w4⟩ := open_int Try.underlying3 (hval 4 3 v4 rfl rfl) h4
  clear hA0 hval0
  refine (calls_of_fn Try.func8 (by kernel_rfl) rfl (fnPowerAdds a0 a1 a2 a3 a4 w0 w1 w2 (bounds_i64 w3) (bounds_i64 w4)) (fun _ _ h => by cases h) (VRs.cons (u0 _) (VRs.cons (u1 _) (VRs.cons (u2 _) (VRs.cons rfl (VRs.cons rfl VRs.snoc_nil)))))).mono fun e W' ⟨he, bel⟩ => ?_
  subst he
  exact ⟨_, rfl, _, _, _, [], _, [], hW', trodAll_mk1 (shut_bool Try.underlying4 _), (trodAll_cons_mk (Below.trod rowLaid (by kernel_rfl) (of_decide_eq_true (by kernel_rfl)) k0 bel lt0) (trodAll_cons_mk (Below.trod rowLaid (by kernel_rfl) (of_decide_eq_true (by kernel_rfl)) k1 bel lt1) (trodAll_cons_mk (Below.trod rowLaid (by kernel_rfl) (of_decide_eq_true (by kernel_rfl)) k2 bel lt2) (trodAll_cons_mk (shut_int Try.underlying3 w3) (trodAll_cons_mk (shut_int Try.underlying3 w4) trodAll_mk0))))), rfl, bel.frame _, fun h => by cases h⟩
theorem over : Rows.powerAddsRow.holds Try.pinned (OpenSpec.ofChange Rows.powerAddsSpec) :=
  OpenClaim.holds_of_wide 8 Try.f8 rfl rfl rfl rfl rfl rfl rfl ⟨rfl, rfl, rfl, rfl, rfl⟩ rfl rfl rfl rfl rfl (by kernel_rfl) Try.func8 (by kernel_rfl)
    (of_decide_eq_true (by kernel_rfl)) (by unfold Func.isWrapper; first | (rw [if_pos (by decide +kernel)]; kernel_rfl) | (rw [if_neg (by decide +kernel)]; exact ⟨rfl, rfl⟩))
    (fun os started H enc _ => lifted os started H enc)
theorem proved : Rows.PowerAddsSaid := over
end lawPowerAdds

end Go.Proofs.Ytbbihbcfeihhiaa
