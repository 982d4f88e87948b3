/- MultAdds: a point so often and so often is the point so often as both say; by numbers taken so often, too. -/
import Derived.Test.YtdicmddedcfhaaaVCurveT
import Derived.Test.YtdicmddedcfhaaaVRaw
namespace Go.Proofs.Ytdicmddedcfhaaa
set_option linter.unusedVariables false
set_option linter.unusedSimpArgs false
set_option linter.unusedSectionVars false
open Go.ChangeShapes Go.WideShapes Go.ChangeAt Go.RowKit Go.Joins
set_option maxRecDepth 10000
theorem fnMultAdds (n i : Int) (x y : RawD) (_ : I64 n) (_ : I64 i) (_ : x.ok) (_ : y.ok) : FnV Try.prog G0 11 [nI .i64 n, nI .i64 i, x.v, y.v] (bI true) := by
  obtain ⟨c, hc, cv⟩ := law_curve n
  obtain ⟨b1, b2, b3, b4, _⟩ := crv_bounds hc
  obtain ⟨l1, l2⟩ := crv_B64 hc
  have tT : B64 < T256 := by decide
  have pi := point_fn hc i
  refine gen_ex ((i % ((crv c).N : Int)).toNat) fun I eI => ?_
  rw [← eI] at pi
  clear eI
  have lX := rawN_lt x
  have lY := rawN_lt y
  have nx := number_fn x
  have ny := number_fn y
  refine gen_ex (rawN x) fun X eX => ?_
  refine gen_ex (rawN y) fun Y eY => ?_
  rw [← eX] at lX nx
  rw [← eY] at lY ny
  clear eX eY
  have d1 := div_pos lX (show (crv c).N < T256 by omega) (by omega)
  have d2 := div_pos lY (show (crv c).N < T256 by omega) (by omega)
  have la : modN X (crv c).N < (crv c).N := by rw [modN_def]; exact Nat.mod_lt _ (by omega)
  have lb : modN Y (crv c).N < (crv c).N := by rw [modN_def]; exact Nat.mod_lt _ (by omega)
  have h1 : (X * I + modN Y (crv c).N * I) % (crv c).N = (addM (crv c).N (modN X (crv c).N) (modN Y (crv c).N) * I) % (crv c).N := by
    rw [addM_def, modN_def, modN_def, Nat.mod_mul_mod, ← Nat.add_mul, Nat.mul_mod, Nat.mul_mod (X % (crv c).N + _) I, Nat.mod_add_mod]
  have h2 : (modN X (crv c).N * (modN Y (crv c).N * I)) % (crv c).N = (mulM (crv c).N (modN X (crv c).N) (modN Y (crv c).N) * I) % (crv c).N := by
    rw [mulM_def, Nat.mod_mul_mod, Nat.mul_assoc]
  have u := mult_gk hc I lX
  have v := mult_gk hc I (n := modN Y (crv c).N) (by omega)
  have w := add_gk hc (X * I) (modN Y (crv c).N * I)
  rw [gk_mod h1] at w
  have s := add_by la lb (show (crv c).N < T256 by omega)
  have t := mult_gk hc I (n := addM (crv c).N (modN X (crv c).N) (modN Y (crv c).N)) (Nat.lt_trans (addM_lt (by omega)) (by omega))
  have m := mul_by la lb (show (crv c).N < T256 by omega)
  have k := mult_gk hc I (n := mulM (crv c).N (modN X (crv c).N) (modN Y (crv c).N)) (Nat.lt_trans (mulM_lt (by omega)) (by omega))
  have l := mult_gk hc (modN Y (crv c).N * I) (n := modN X (crv c).N) (by omega)
  rw [gk_mod h2] at l
  have e1 := eq_pt_self (gk_lt hc (addM (crv c).N (modN X (crv c).N) (modN Y (crv c).N) * I))
  have e2 := eq_pt_self (gk_lt hc (mulM (crv c).N (modN X (crv c).N) (modN Y (crv c).N) * I))
  clear h1 h2 la lb
  refine gen_ex (addM (crv c).N (modN X (crv c).N) (modN Y (crv c).N)) fun S eS => ?_
  refine gen_ex (mulM (crv c).N (modN X (crv c).N) (modN Y (crv c).N)) fun M eM => ?_
  rw [← eS] at w s t e1
  rw [← eM] at m k l e2
  clear eS eM
  refine gen_ex (modN X (crv c).N) fun a ea => ?_
  refine gen_ex (modN Y (crv c).N) fun b eb => ?_
  rw [← ea] at d1 s m l
  rw [← eb] at d2 v w s m l
  clear ea eb
  refine gen_ex (gk c I) fun P1 e => ?_
  rw [← e] at pi u v t k
  clear e
  refine gen_ex (gk c (X * I)) fun P2 e => ?_
  rw [← e] at u w
  clear e
  refine gen_ex (gk c (b * I)) fun P3 e => ?_
  rw [← e] at v w l
  clear e
  refine gen_ex (gk c (S * I)) fun P4 e => ?_
  rw [← e] at w t e1
  clear e
  refine gen_ex (gk c (M * I)) fun P5 e => ?_
  rw [← e] at k l e2
  clear e
  unfold PtD.v PtD.cells at *
  unfold CvD.v CvD.cells RawD.v RawD.cells at *
  refine gen_ex (crv c) fun C eC => ?_
  rw [← eC] at cv pi d1 d2 u v w s t m k l
  clear eC
  refine fn_of_vwp Γok Try.func11 (by kernel_rfl) rfl (by simp [Try.ntmps11]) (wpv_ok Γok (by kernel_rfl) _ _ _ ?_); conv => whnf
  refine ⟨_, ret_of_fn G0ok (cv) (by first | rfl | simp only [noHs, noH, nI, bI, Bool.and_self, Bool.and_true, Bool.true_and, ]) (by first | rfl | simp only [noHs, noH, nI, bI, Bool.and_self, Bool.and_true, Bool.true_and, ]), ?_⟩; (conv => whnf); (try (refine ⟨by kernel_rfl, ?_⟩; conv => whnf))
  refine ⟨_, ret_of_fn G0ok (pi) (by first | rfl | simp only [noHs, noH, nI, bI, Bool.and_self, Bool.and_true, Bool.true_and, ]) (by first | rfl | simp only [noHs, noH, nI, bI, Bool.and_self, Bool.and_true, Bool.true_and, ]), ?_⟩; (conv => whnf); (try (refine ⟨by kernel_rfl, ?_⟩; conv => whnf))
  refine ⟨_, ret_of_fn G0ok (nx) (by first | rfl | simp only [noHs, noH, nI, bI, Bool.and_self, Bool.and_true, Bool.true_and, ]) (by first | rfl | simp only [noHs, noH, nI, bI, Bool.and_self, Bool.and_true, Bool.true_and, ]), ?_⟩; (conv => whnf); (try (refine ⟨by kernel_rfl, ?_⟩; conv => whnf))
  refine ⟨_, ret_of_fn G0ok (d1) (by first | rfl | simp only [noHs, noH, nI, bI, Bool.and_self, Bool.and_true, Bool.true_and, ]) (by first | rfl | simp only [noHs, noH, nI, bI, Bool.and_self, Bool.and_true, Bool.true_and, ]), ?_⟩; (conv => whnf); (try (refine ⟨by kernel_rfl, ?_⟩; conv => whnf))
  refine ⟨_, ret_of_fn G0ok (ny) (by first | rfl | simp only [noHs, noH, nI, bI, Bool.and_self, Bool.and_true, Bool.true_and, ]) (by first | rfl | simp only [noHs, noH, nI, bI, Bool.and_self, Bool.and_true, Bool.true_and, ]), ?_⟩; (conv => whnf); (try (refine ⟨by kernel_rfl, ?_⟩; conv => whnf))
  refine ⟨_, ret_of_fn G0ok (d2) (by first | rfl | simp only [noHs, noH, nI, bI, Bool.and_self, Bool.and_true, Bool.true_and, ]) (by first | rfl | simp only [noHs, noH, nI, bI, Bool.and_self, Bool.and_true, Bool.true_and, ]), ?_⟩; (conv => whnf); (try (refine ⟨by kernel_rfl, ?_⟩; conv => whnf))
  refine ⟨_, ret_of_fn G0ok (nx) (by first | rfl | simp only [noHs, noH, nI, bI, Bool.and_self, Bool.and_true, Bool.true_and, ]) (by first | rfl | simp only [noHs, noH, nI, bI, Bool.and_self, Bool.and_true, Bool.true_and, ]), ?_⟩; (conv => whnf); (try (refine ⟨by kernel_rfl, ?_⟩; conv => whnf))
  refine ⟨_, ret_of_fn G0ok (u) (by first | rfl | simp only [noHs, noH, nI, bI, Bool.and_self, Bool.and_true, Bool.true_and, ]) (by first | rfl | simp only [noHs, noH, nI, bI, Bool.and_self, Bool.and_true, Bool.true_and, ]), ?_⟩; (conv => whnf); (try (refine ⟨by kernel_rfl, ?_⟩; conv => whnf))
  refine ⟨_, ret_of_fn G0ok (v) (by first | rfl | simp only [noHs, noH, nI, bI, Bool.and_self, Bool.and_true, Bool.true_and, ]) (by first | rfl | simp only [noHs, noH, nI, bI, Bool.and_self, Bool.and_true, Bool.true_and, ]), ?_⟩; (conv => whnf); (try (refine ⟨by kernel_rfl, ?_⟩; conv => whnf))
  refine ⟨_, ret_of_fn G0ok (w) (by first | rfl | simp only [noHs, noH, nI, bI, Bool.and_self, Bool.and_true, Bool.true_and, ]) (by first | rfl | simp only [noHs, noH, nI, bI, Bool.and_self, Bool.and_true, Bool.true_and, ]), ?_⟩; (conv => whnf); (try (refine ⟨by kernel_rfl, ?_⟩; conv => whnf))
  refine ⟨_, ret_of_fn G0ok (s) (by first | rfl | simp only [noHs, noH, nI, bI, Bool.and_self, Bool.and_true, Bool.true_and, ]) (by first | rfl | simp only [noHs, noH, nI, bI, Bool.and_self, Bool.and_true, Bool.true_and, ]), ?_⟩; (conv => whnf); (try (refine ⟨by kernel_rfl, ?_⟩; conv => whnf))
  refine ⟨_, ret_of_fn G0ok (t) (by first | rfl | simp only [noHs, noH, nI, bI, Bool.and_self, Bool.and_true, Bool.true_and, ]) (by first | rfl | simp only [noHs, noH, nI, bI, Bool.and_self, Bool.and_true, Bool.true_and, ]), ?_⟩; (conv => whnf); (try (refine ⟨by kernel_rfl, ?_⟩; conv => whnf))
  refine ⟨_, ret_of_fn G0ok (m) (by first | rfl | simp only [noHs, noH, nI, bI, Bool.and_self, Bool.and_true, Bool.true_and, ]) (by first | rfl | simp only [noHs, noH, nI, bI, Bool.and_self, Bool.and_true, Bool.true_and, ]), ?_⟩; (conv => whnf); (try (refine ⟨by kernel_rfl, ?_⟩; conv => whnf))
  refine ⟨_, ret_of_fn G0ok (k) (by first | rfl | simp only [noHs, noH, nI, bI, Bool.and_self, Bool.and_true, Bool.true_and, ]) (by first | rfl | simp only [noHs, noH, nI, bI, Bool.and_self, Bool.and_true, Bool.true_and, ]), ?_⟩; (conv => whnf); (try (refine ⟨by kernel_rfl, ?_⟩; conv => whnf))
  refine ⟨_, ret_of_fn G0ok (l) (by first | rfl | simp only [noHs, noH, nI, bI, Bool.and_self, Bool.and_true, Bool.true_and, ]) (by first | rfl | simp only [noHs, noH, nI, bI, Bool.and_self, Bool.and_true, Bool.true_and, ]), ?_⟩; (conv => whnf); (try (refine ⟨by kernel_rfl, ?_⟩; conv => whnf))
  refine ⟨_, ret_of_fn G0ok (ctells_fn) (by first | rfl | simp only [noHs, noH, nI, bI, Bool.and_self, Bool.and_true, Bool.true_and, ]) (by first | rfl | simp only [noHs, noH, nI, bI, Bool.and_self, Bool.and_true, Bool.true_and, ]), ?_⟩; (conv => whnf); (try (refine ⟨by kernel_rfl, ?_⟩; conv => whnf))
  refine ⟨_, e1, ?_⟩
  conv => whnf
  try (refine ⟨by kernel_rfl, ?_⟩; conv => whnf)
  refine ⟨_, e2, ?_⟩
  conv => whnf
  try (refine ⟨by kernel_rfl, ?_⟩; conv => whnf)
  exact ⟨_, rfl, rfl⟩
namespace lawMultAdds
set_option linter.unusedVariables false
set_option maxRecDepth 100000 in
theorem lifted (os : Os) (started : os.Started) (H : Type) (enc : TypeId × Value → H) :
    ReturnsInHanded {} Try.checked os 11 .any (Rows.multAddsSpec.pre6 enc Try.prog Try.f11 Rows.multAddsRow.domain false) (Rows.multAddsSpec.post enc Try.prog Try.f11 false true false false) := by
  refine returnsInHanded_of_change (C := Try.checked) rowOwn started (by kernel_rfl) Try.func11
    (ChangeSpec.witness6 (enc := enc) (C := Try.checked) false ⟨#[], #[.int .i64 0, .int .i64 0, .agg #[.int .i64 0, .int .i64 0, .int .i64 0, .string ByteArray.empty], .agg #[.int .i64 0, .int .i64 0, .int .i64 0, .string ByteArray.empty]], []⟩ 8 (by kernel_rfl) (by kernel_rfl) (by kernel_rfl) (by kernel_rfl)) ?_
  intro W base args ds gs before hval0 hW hcnd _
  have hval : ∀ (j : Nat) t v, Try.f11.params[j]? = some t → args[j]? = some v → Value.okWide Try.prog W .any base t v := hval0
  have hW' := hW
  obtain ⟨p, q, hA0, hV, rfl, hfz, hnd⟩ := hW
  have hA : DataW.TrodAll enc Try.prog W 0 (fun _ => true) true Try.f11.params.toList args.toList ds p := hA0
  rw [Try.params11] at hA hval
  obtain ⟨v0, vs0, d0, ds0, p0, q0, hargs, rfl, rfl, h0, r0⟩ := trodAll_cons hA
  obtain ⟨v1, vs1, d1, ds1, p1, q1, rfl, rfl, rfl, h1, r1⟩ := trodAll_cons r0
  obtain ⟨v2, vs2, d2, ds2, p2, q2, rfl, rfl, rfl, h2, r2⟩ := trodAll_cons r1
  obtain ⟨v3, vs3, d3, ds3, p3, q3, rfl, rfl, rfl, h3, r3⟩ := trodAll_cons r2
  obtain ⟨rfl, rfl, rfl⟩ := trodAll_nil r3
  obtain rfl : args = #[v0, v1, v2, v3] := by cases args; simp_all
  obtain ⟨rfl, rfl⟩ := trodVars_none hV
  obtain ⟨a0, rfl, rfl, rfl, w0⟩ := open_int Try.underlying3 (hval 0 3 v0 rfl rfl) h0
  obtain ⟨a1, rfl, rfl, rfl, w1⟩ := open_int Try.underlying3 (hval 1 3 v1 rfl rfl) h1
  have k2 := h2
  have lt2 : ∀ x ∈ p2, x.block < W.heap.size := by obtain ⟨m, hm⟩ := k2; exact DataW.trod_lt m _ _ _ hm
  obtain ⟨a2, w2, u2⟩ := raw_open (hval 2 24 v2 rfl rfl) h2
  have k3 := h3
  have lt3 : ∀ x ∈ p3, x.block < W.heap.size := by obtain ⟨m, hm⟩ := k3; exact DataW.trod_lt m _ _ _ hm
  obtain ⟨a3, w3, u3⟩ := raw_open (hval 3 24 v3 rfl rfl) h3
  clear hA0 hval0
  refine (calls_of_fn Try.func11 (by kernel_rfl) rfl (fnMultAdds a0 a1 a2 a3 (bounds_i64 w0) (bounds_i64 w1) w2 w3) (fun _ _ h => by cases h) (VRs.cons rfl (VRs.cons rfl (VRs.cons (u2 _) (VRs.cons (u3 _) VRs.snoc_nil))))).mono fun e W' ⟨he, bel⟩ => ?_
  subst he
  exact ⟨_, rfl, _, _, _, [], _, [], hW', trodAll_mk1 (shut_bool Try.underlying4 _), (trodAll_cons_mk (shut_int Try.underlying3 w0) (trodAll_cons_mk (shut_int Try.underlying3 w1) (trodAll_cons_mk (Below.trod rowLaid (by kernel_rfl) (of_decide_eq_true (by kernel_rfl)) k2 bel lt2) (trodAll_cons_mk (Below.trod rowLaid (by kernel_rfl) (of_decide_eq_true (by kernel_rfl)) k3 bel lt3) trodAll_mk0)))), rfl, bel.frame _, fun h => by cases h⟩
theorem over : Rows.multAddsRow.holds Try.pinned (OpenSpec.ofChange Rows.multAddsSpec) :=
  OpenClaim.holds_of_wide 11 Try.f11 rfl rfl rfl rfl rfl rfl rfl ⟨rfl, rfl, rfl, rfl, rfl⟩ rfl rfl rfl rfl rfl (by kernel_rfl) Try.func11 (by kernel_rfl)
    (of_decide_eq_true (by kernel_rfl)) (by unfold Func.isWrapper; first | (rw [if_pos (by decide +kernel)]; kernel_rfl) | (rw [if_neg (by decide +kernel)]; exact ⟨rfl, rfl⟩))
    (fun os started H enc _ => lifted os started H enc)
theorem proved : Rows.MultAddsSaid := over
end lawMultAdds

end Go.Proofs.Ytdicmddedcfhaaa
