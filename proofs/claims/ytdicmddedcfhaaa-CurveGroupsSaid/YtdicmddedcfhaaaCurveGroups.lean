/- CurveGroups: points are added in any way: three, however they are put together; two, whichever is first. -/
import Derived.Test.YtdicmddedcfhaaaVCurveT
namespace Go.Proofs.Ytdicmddedcfhaaa
set_option linter.unusedVariables false
set_option linter.unusedSimpArgs false
set_option linter.unusedSectionVars false
open Go.ChangeShapes Go.WideShapes Go.ChangeAt Go.RowKit Go.Joins
set_option maxRecDepth 10000
theorem fnCurveGroups (n i j k : Int) (_ : I64 n) (_ : I64 i) (_ : I64 j) (_ : I64 k) : FnV Try.prog G0 9 [nI .i64 n, nI .i64 i, nI .i64 j, nI .i64 k] (bI true) := by
  obtain ⟨c, hc, cv⟩ := law_curve n
  have pi := point_fn hc i
  have pj := point_fn hc j
  have pk := point_fn hc k
  refine gen_ex ((i % ((crv c).N : Int)).toNat) fun a ea => ?_
  refine gen_ex ((j % ((crv c).N : Int)).toNat) fun b eb => ?_
  refine gen_ex ((k % ((crv c).N : Int)).toNat) fun d ed => ?_
  rw [← ea] at pi
  rw [← eb] at pj
  rw [← ed] at pk
  clear ea eb ed
  have s1 := add_gk hc a b
  have s2 := add_gk hc b d
  have s3 := add_gk hc (a + b) d
  have s4 := add_gk hc a (b + d)
  have s5 := add_gk hc b a
  rw [← Nat.add_assoc] at s4
  rw [Nat.add_comm b a] at s5
  have o := con_ok (good_crv hc) (gk_on hc (a + b))
  have e1 := eq_pt_self (gk_lt hc (a + b + d))
  have e2 := eq_pt_self (gk_lt hc (a + b))
  unfold PtD.v PtD.cells at *
  refine gen_ex (gk c a) fun A eA => ?_
  refine gen_ex (gk c b) fun B eB => ?_
  refine gen_ex (gk c d) fun D eD => ?_
  refine gen_ex (gk c (a + b)) fun AB eAB => ?_
  refine gen_ex (gk c (b + d)) fun BD eBD => ?_
  refine gen_ex (gk c (a + b + d)) fun ABD eABD => ?_
  rw [← eA] at pi s1 s4 s5
  rw [← eB] at pj s1 s2 s5
  rw [← eD] at pk s2 s3
  rw [← eAB] at s1 s3 s5 o e2
  rw [← eBD] at s2 s4
  rw [← eABD] at s3 s4 e1
  clear eA eB eD eAB eBD eABD
  unfold CvD.v CvD.cells at *
  refine gen_ex (crv c) fun C eC => ?_
  rw [← eC] at *
  clear eC
  refine fn_of_vwp Γok Try.func9 (by kernel_rfl) rfl (by simp [Try.ntmps9]) (wpv_ok Γok (by kernel_rfl) _ _ _ ?_); conv => whnf
  refine ⟨_, ret_of_fn G0ok (cv) (by first | rfl | simp only [noHs, noH, nI, bI, Bool.and_self, Bool.and_true, Bool.true_and, ]) (by first | rfl | simp only [noHs, noH, nI, bI, Bool.and_self, Bool.and_true, Bool.true_and, ]), ?_⟩; (conv => whnf); (try (refine ⟨by kernel_rfl, ?_⟩; conv => whnf))
  refine ⟨_, ret_of_fn G0ok (pi) (by first | rfl | simp only [noHs, noH, nI, bI, Bool.and_self, Bool.and_true, Bool.true_and, ]) (by first | rfl | simp only [noHs, noH, nI, bI, Bool.and_self, Bool.and_true, Bool.true_and, ]), ?_⟩; (conv => whnf); (try (refine ⟨by kernel_rfl, ?_⟩; conv => whnf))
  refine ⟨_, ret_of_fn G0ok (pj) (by first | rfl | simp only [noHs, noH, nI, bI, Bool.and_self, Bool.and_true, Bool.true_and, ]) (by first | rfl | simp only [noHs, noH, nI, bI, Bool.and_self, Bool.and_true, Bool.true_and, ]), ?_⟩; (conv => whnf); (try (refine ⟨by kernel_rfl, ?_⟩; conv => whnf))
  refine ⟨_, ret_of_fn G0ok (pk) (by first | rfl | simp only [noHs, noH, nI, bI, Bool.and_self, Bool.and_true, Bool.true_and, ]) (by first | rfl | simp only [noHs, noH, nI, bI, Bool.and_self, Bool.and_true, Bool.true_and, ]), ?_⟩; (conv => whnf); (try (refine ⟨by kernel_rfl, ?_⟩; conv => whnf))
  refine ⟨_, ret_of_fn G0ok (s1) (by first | rfl | simp only [noHs, noH, nI, bI, Bool.and_self, Bool.and_true, Bool.true_and, ]) (by first | rfl | simp only [noHs, noH, nI, bI, Bool.and_self, Bool.and_true, Bool.true_and, ]), ?_⟩; (conv => whnf); (try (refine ⟨by kernel_rfl, ?_⟩; conv => whnf))
  refine ⟨_, ret_of_fn G0ok (s2) (by first | rfl | simp only [noHs, noH, nI, bI, Bool.and_self, Bool.and_true, Bool.true_and, ]) (by first | rfl | simp only [noHs, noH, nI, bI, Bool.and_self, Bool.and_true, Bool.true_and, ]), ?_⟩; (conv => whnf); (try (refine ⟨by kernel_rfl, ?_⟩; conv => whnf))
  refine ⟨_, ret_of_fn G0ok (s3) (by first | rfl | simp only [noHs, noH, nI, bI, Bool.and_self, Bool.and_true, Bool.true_and, ]) (by first | rfl | simp only [noHs, noH, nI, bI, Bool.and_self, Bool.and_true, Bool.true_and, ]), ?_⟩; (conv => whnf); (try (refine ⟨by kernel_rfl, ?_⟩; conv => whnf))
  refine ⟨_, ret_of_fn G0ok (s4) (by first | rfl | simp only [noHs, noH, nI, bI, Bool.and_self, Bool.and_true, Bool.true_and, ]) (by first | rfl | simp only [noHs, noH, nI, bI, Bool.and_self, Bool.and_true, Bool.true_and, ]), ?_⟩; (conv => whnf); (try (refine ⟨by kernel_rfl, ?_⟩; conv => whnf))
  refine ⟨_, ret_of_fn G0ok (s5) (by first | rfl | simp only [noHs, noH, nI, bI, Bool.and_self, Bool.and_true, Bool.true_and, ]) (by first | rfl | simp only [noHs, noH, nI, bI, Bool.and_self, Bool.and_true, Bool.true_and, ]), ?_⟩; (conv => whnf); (try (refine ⟨by kernel_rfl, ?_⟩; conv => whnf))
  refine ⟨_, ret_of_fn G0ok (ctells_fn) (by first | rfl | simp only [noHs, noH, nI, bI, Bool.and_self, Bool.and_true, Bool.true_and, ]) (by first | rfl | simp only [noHs, noH, nI, bI, Bool.and_self, Bool.and_true, Bool.true_and, ]), ?_⟩; (conv => whnf); (try (refine ⟨by kernel_rfl, ?_⟩; conv => whnf))
  refine ⟨_, e1, ?_⟩
  conv => whnf
  try (refine ⟨by kernel_rfl, ?_⟩; conv => whnf)
  refine ⟨_, e2, ?_⟩
  conv => whnf
  try (refine ⟨by kernel_rfl, ?_⟩; conv => whnf)
  refine ⟨_, ret_of_fn G0ok (o) (by first | rfl | simp only [noHs, noH, nI, bI, Bool.and_self, Bool.and_true, Bool.true_and, ]) (by first | rfl | simp only [noHs, noH, nI, bI, Bool.and_self, Bool.and_true, Bool.true_and, ]), ?_⟩; (conv => whnf); (try (refine ⟨by kernel_rfl, ?_⟩; conv => whnf))
  exact ⟨_, rfl, rfl⟩
namespace lawCurveGroups
set_option linter.unusedVariables false
set_option maxRecDepth 100000 in
theorem lifted (os : Os) (started : os.Started) (H : Type) (enc : TypeId × Value → H) :
    ReturnsInHanded {} Try.checked os 9 .any (Rows.curveGroupsSpec.pre6 enc Try.prog Try.f9 Rows.curveGroupsRow.domain false) (Rows.curveGroupsSpec.post enc Try.prog Try.f9 false true false false) := by
  refine returnsInHanded_of_change (C := Try.checked) rowOwn started (by kernel_rfl) Try.func9
    (ChangeSpec.witness6 (enc := enc) (C := Try.checked) false ⟨#[], #[.int .i64 0, .int .i64 0, .int .i64 0, .int .i64 0], []⟩ 8 (by kernel_rfl) (by kernel_rfl) (by kernel_rfl) (by kernel_rfl)) ?_
  intro W base args ds gs before hval0 hW hcnd _
  have hval : ∀ (j : Nat) t v, Try.f9.params[j]? = some t → args[j]? = some v → Value.okWide Try.prog W .any base t v := hval0
  have hW' := hW
  obtain ⟨p, q, hA0, hV, rfl, hfz, hnd⟩ := hW
  have hA : DataW.TrodAll enc Try.prog W 0 (fun _ => true) true Try.f9.params.toList args.toList ds p := hA0
  rw [Try.params9] at hA hval
  obtain ⟨v0, vs0, d0, ds0, p0, q0, hargs, rfl, rfl, h0, r0⟩ := trodAll_cons hA
  obtain ⟨v1, vs1, d1, ds1, p1, q1, rfl, rfl, rfl, h1, r1⟩ := trodAll_cons r0
  obtain ⟨v2, vs2, d2, ds2, p2, q2, rfl, rfl, rfl, h2, r2⟩ := trodAll_cons r1
  obtain ⟨v3, vs3, d3, ds3, p3, q3, rfl, rfl, rfl, h3, r3⟩ := trodAll_cons r2
  obtain ⟨rfl, rfl, rfl⟩ := trodAll_nil r3
  obtain rfl : args = #[v0, v1, v2, v3] := by cases args; simp_all
  obtain ⟨rfl, rfl⟩ := trodVars_none hV
  obtain ⟨a0, rfl, rfl, rfl, w0⟩ := open_int Try.underlying3 (hval 0 3 v0 rfl rfl) h0
  obtain ⟨a1, rfl, rfl, rfl, w1⟩ := open_int Try.underlying3 (hval 1 3 v1 rfl rfl) h1
  obtain ⟨a2, rfl, rfl, rfl, w2⟩ := open_int Try.underlying3 (hval 2 3 v2 rfl rfl) h2
  obtain ⟨a3, rfl, rfl, rfl, w3⟩ := open_int Try.underlying3 (hval 3 3 v3 rfl rfl) h3
  clear hA0 hval0
  refine (calls_of_fn Try.func9 (by kernel_rfl) rfl (fnCurveGroups a0 a1 a2 a3 (bounds_i64 w0) (bounds_i64 w1) (bounds_i64 w2) (bounds_i64 w3)) (fun _ _ h => by cases h) (VRs.cons rfl (VRs.cons rfl (VRs.cons rfl (VRs.cons rfl VRs.snoc_nil))))).mono fun e W' ⟨he, bel⟩ => ?_
  subst he
  exact ⟨_, rfl, _, _, _, [], _, [], hW', trodAll_mk1 (shut_bool Try.underlying4 _), (trodAll_cons_mk (shut_int Try.underlying3 w0) (trodAll_cons_mk (shut_int Try.underlying3 w1) (trodAll_cons_mk (shut_int Try.underlying3 w2) (trodAll_cons_mk (shut_int Try.underlying3 w3) trodAll_mk0)))), rfl, bel.frame _, fun h => by cases h⟩
theorem over : Rows.curveGroupsRow.holds Try.pinned (OpenSpec.ofChange Rows.curveGroupsSpec) :=
  OpenClaim.holds_of_wide 9 Try.f9 rfl rfl rfl rfl rfl rfl rfl ⟨rfl, rfl, rfl, rfl, rfl⟩ rfl rfl rfl rfl rfl (by kernel_rfl) Try.func9 (by kernel_rfl)
    (of_decide_eq_true (by kernel_rfl)) (by unfold Func.isWrapper; first | (rw [if_pos (by decide +kernel)]; kernel_rfl) | (rw [if_neg (by decide +kernel)]; exact ⟨rfl, rfl⟩))
    (fun os started H enc _ => lifted os started H enc)
theorem proved : Rows.CurveGroupsSaid := over
end lawCurveGroups

end Go.Proofs.Ytdicmddedcfhaaa
