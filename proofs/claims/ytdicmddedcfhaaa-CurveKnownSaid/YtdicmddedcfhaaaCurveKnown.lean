/- CurveKnown: points that all the world knows: two and three times the base of secp256k1. -/
import Derived.Test.YtdicmddedcfhaaaVKnown
namespace Go.Proofs.Ytdicmddedcfhaaa
set_option linter.unusedVariables false
set_option linter.unusedSimpArgs false
set_option linter.unusedSectionVars false
open Go.ChangeShapes Go.WideShapes Go.ChangeAt Go.RowKit Go.Joins
set_option maxRecDepth 10000
theorem fnCurveKnown (n : Int) (_ : I64 n) : FnV Try.prog G0 8 [nI .i64 n] (bI true) := by
  have pk := picked_fn n 2 (by decide) (by decide)
  have cv := known_fn
  have zB : ∀ {n : Nat}, n < B64 → uV n = .agg (words [n, 0, 0, 0]) := fun h => congrArg VV.agg (uC_lit h)
  have x2 : uC kp2.x = words [12370272968204394213, 6662950628856118439, 3478257130916576472, 14268669794154544493] := (congrArg uC (show kp2.x = val4 12370272968204394213 6662950628856118439 3478257130916576472 14268669794154544493 from by decide +kernel)).trans (uC_val4 (by decide) (by decide) (by decide) (by decide))
  have x3 : uC kp3.x = words [9656264143134537465, 13056436995607206320, 5274928500377997865, 17956003453681058576] := (congrArg uC (show kp3.x = val4 9656264143134537465 13056436995607206320 5274928500377997865 17956003453681058576 from by decide +kernel)).trans (uC_val4 (by decide) (by decide) (by decide) (by decide))
  have e2 := eq_uC (a := kp2.x) (b := kp2.x) (by decide +kernel) (by decide +kernel)
  have e3 := eq_uC (a := kp3.x) (b := kp3.x) (by decide +kernel) (by decide +kernel)
  rw [x2, decide_eq_true rfl] at e2
  rw [x3, decide_eq_true rfl] at e3
  obtain ⟨k, hk, lk⟩ : ∃ k : Nat, n % 2 = (k : Int) ∧ k < 2 := ⟨(n % 2).toNat, by omega, by omega⟩
  rw [hk] at pk
  clear hk
  have hk : k = 0 ∨ k = 1 := by omega
  clear lk
  rcases hk with rfl | rfl
  · have m := kmult (k := 2) (by decide)
    have o := con_ok good_known (kp_on 2 (by decide))
    rw [zB (n := 2) (by decide)] at m
    unfold PtD.v PtD.cells at m o
    unfold CvD.base at m
    rw [show kp 2 = kp2 from rfl, x2] at m o
    unfold CvD.v CvD.cells at *
    refine gen_ex knownC fun C eC => ?_
    rw [← eC] at cv m o
    clear eC
    refine gen_ex kp2 fun A eA => ?_
    rw [← eA] at m o
    clear eA x2
    refine fn_of_vwp Γok Try.func8 (by kernel_rfl) rfl (by simp [Try.ntmps8]) (wpv_ok Γok (by kernel_rfl) _ _ _ ?_); conv => whnf
    refine ⟨_, ret_of_fn G0ok (cv) (by first | rfl | simp only [noHs, noH, nI, bI, Bool.and_self, Bool.and_true, Bool.true_and, ]) (by first | rfl | simp only [noHs, noH, nI, bI, Bool.and_self, Bool.and_true, Bool.true_and, ]), ?_⟩; (conv => whnf); (try (refine ⟨by kernel_rfl, ?_⟩; conv => whnf))
    refine ⟨_, ret_of_fn G0ok (pk) (by first | rfl | simp only [noHs, noH, nI, bI, Bool.and_self, Bool.and_true, Bool.true_and, ]) (by first | rfl | simp only [noHs, noH, nI, bI, Bool.and_self, Bool.and_true, Bool.true_and, ]), ?_⟩; (conv => whnf); (try (refine ⟨by kernel_rfl, ?_⟩; conv => whnf))
    refine .read 2 (words [12370272968204394213, 6662950628856118439, 3478257130916576472, 14268669794154544493, 9656264143134537465, 13056436995607206320, 5274928500377997865, 17956003453681058576]) (by rfl) (by rfl) (by rfl) (by rfl) ?_
    conv => whnf
    try (refine ⟨by kernel_rfl, ?_⟩; conv => whnf)
    rw [ws_i64 (by decide) (by decide), ws_u64n (by decide) (by decide)]
    conv => whnf
    try (refine ⟨by kernel_rfl, ?_⟩; conv => whnf)
    refine ⟨_, ret_of_fn G0ok (m) (by first | rfl | simp only [noHs, noH, nI, bI, Bool.and_self, Bool.and_true, Bool.true_and, ]) (by first | rfl | simp only [noHs, noH, nI, bI, Bool.and_self, Bool.and_true, Bool.true_and, ]), ?_⟩; (conv => whnf); (try (refine ⟨by kernel_rfl, ?_⟩; conv => whnf))
    refine ⟨_, e2, ?_⟩
    conv => whnf
    try (refine ⟨by kernel_rfl, ?_⟩; conv => whnf)
    refine ⟨_, ret_of_fn G0ok (o) (by first | rfl | simp only [noHs, noH, nI, bI, Bool.and_self, Bool.and_true, Bool.true_and, ]) (by first | rfl | simp only [noHs, noH, nI, bI, Bool.and_self, Bool.and_true, Bool.true_and, ]), ?_⟩; (conv => whnf); (try (refine ⟨by kernel_rfl, ?_⟩; conv => whnf))
    exact ⟨_, rfl, rfl⟩
  · have m := kmult (k := 3) (by decide)
    have o := con_ok good_known (kp_on 3 (by decide))
    rw [zB (n := 3) (by decide)] at m
    unfold PtD.v PtD.cells at m o
    unfold CvD.base at m
    rw [show kp 3 = kp3 from rfl, x3] at m o
    unfold CvD.v CvD.cells at *
    refine gen_ex knownC fun C eC => ?_
    rw [← eC] at cv m o
    clear eC
    refine gen_ex kp3 fun A eA => ?_
    rw [← eA] at m o
    clear eA x3
    refine fn_of_vwp Γok Try.func8 (by kernel_rfl) rfl (by simp [Try.ntmps8]) (wpv_ok Γok (by kernel_rfl) _ _ _ ?_); conv => whnf
    refine ⟨_, ret_of_fn G0ok (cv) (by first | rfl | simp only [noHs, noH, nI, bI, Bool.and_self, Bool.and_true, Bool.true_and, ]) (by first | rfl | simp only [noHs, noH, nI, bI, Bool.and_self, Bool.and_true, Bool.true_and, ]), ?_⟩; (conv => whnf); (try (refine ⟨by kernel_rfl, ?_⟩; conv => whnf))
    refine ⟨_, ret_of_fn G0ok (pk) (by first | rfl | simp only [noHs, noH, nI, bI, Bool.and_self, Bool.and_true, Bool.true_and, ]) (by first | rfl | simp only [noHs, noH, nI, bI, Bool.and_self, Bool.and_true, Bool.true_and, ]), ?_⟩; (conv => whnf); (try (refine ⟨by kernel_rfl, ?_⟩; conv => whnf))
    refine .read 2 (words [12370272968204394213, 6662950628856118439, 3478257130916576472, 14268669794154544493, 9656264143134537465, 13056436995607206320, 5274928500377997865, 17956003453681058576]) (by rfl) (by rfl) (by rfl) (by rfl) ?_
    conv => whnf
    try (refine ⟨by kernel_rfl, ?_⟩; conv => whnf)
    rw [ws_i64 (by decide) (by decide), ws_u64n (by decide) (by decide)]
    conv => whnf
    try (refine ⟨by kernel_rfl, ?_⟩; conv => whnf)
    refine ⟨_, ret_of_fn G0ok (m) (by first | rfl | simp only [noHs, noH, nI, bI, Bool.and_self, Bool.and_true, Bool.true_and, ]) (by first | rfl | simp only [noHs, noH, nI, bI, Bool.and_self, Bool.and_true, Bool.true_and, ]), ?_⟩; (conv => whnf); (try (refine ⟨by kernel_rfl, ?_⟩; conv => whnf))
    refine ⟨_, e3, ?_⟩
    conv => whnf
    try (refine ⟨by kernel_rfl, ?_⟩; conv => whnf)
    refine ⟨_, ret_of_fn G0ok (o) (by first | rfl | simp only [noHs, noH, nI, bI, Bool.and_self, Bool.and_true, Bool.true_and, ]) (by first | rfl | simp only [noHs, noH, nI, bI, Bool.and_self, Bool.and_true, Bool.true_and, ]), ?_⟩; (conv => whnf); (try (refine ⟨by kernel_rfl, ?_⟩; conv => whnf))
    exact ⟨_, rfl, rfl⟩
namespace lawCurveKnown
set_option linter.unusedVariables false
set_option maxRecDepth 100000 in
theorem lifted (os : Os) (started : os.Started) (H : Type) (enc : TypeId × Value → H) :
    ReturnsInHanded {} Try.checked os 8 .any (Rows.curveKnownSpec.pre6 enc Try.prog Try.f8 Rows.curveKnownRow.domain false) (Rows.curveKnownSpec.post enc Try.prog Try.f8 false true false false) := by
  refine returnsInHanded_of_change (C := Try.checked) rowOwn started (by kernel_rfl) Try.func8
    (ChangeSpec.witness6 (enc := enc) (C := Try.checked) false ⟨#[], #[.int .i64 0], []⟩ 8 (by kernel_rfl) (by kernel_rfl) (by kernel_rfl) (by kernel_rfl)) ?_
  intro W base args ds gs before hval0 hW hcnd _
  have hval : ∀ (j : Nat) t v, Try.f8.params[j]? = some t → args[j]? = some v → Value.okWide Try.prog W .any base t v := hval0
  have hW' := hW
  obtain ⟨p, q, hA0, hV, rfl, hfz, hnd⟩ := hW
  have hA : DataW.TrodAll enc Try.prog W 0 (fun _ => true) true Try.f8.params.toList args.toList ds p := hA0
  rw [Try.params8] at hA hval
  obtain ⟨v0, vs0, d0, ds0, p0, q0, hargs, rfl, rfl, h0, r0⟩ := trodAll_cons hA
  obtain ⟨rfl, rfl, rfl⟩ := trodAll_nil r0
  obtain rfl : args = #[v0] := by cases args; simp_all
  obtain ⟨rfl, rfl⟩ := trodVars_none hV
  obtain ⟨a0, rfl, rfl, rfl, w0⟩ := open_int Try.underlying3 (hval 0 3 v0 rfl rfl) h0
  clear hA0 hval0
  refine (calls_of_fn Try.func8 (by kernel_rfl) rfl (fnCurveKnown a0 (bounds_i64 w0)) (fun _ _ h => by cases h) (VRs.cons rfl VRs.snoc_nil)).mono fun e W' ⟨he, bel⟩ => ?_
  subst he
  exact ⟨_, rfl, _, _, _, [], _, [], hW', trodAll_mk1 (shut_bool Try.underlying4 _), (trodAll_cons_mk (shut_int Try.underlying3 w0) trodAll_mk0), rfl, bel.frame _, fun h => by cases h⟩
theorem over : Rows.curveKnownRow.holds Try.pinned (OpenSpec.ofChange Rows.curveKnownSpec) :=
  OpenClaim.holds_of_wide 8 Try.f8 rfl rfl rfl rfl rfl rfl rfl ⟨rfl, rfl, rfl, rfl, rfl⟩ rfl rfl rfl rfl rfl (by kernel_rfl) Try.func8 (by kernel_rfl)
    (of_decide_eq_true (by kernel_rfl)) (by unfold Func.isWrapper; first | (rw [if_pos (by decide +kernel)]; kernel_rfl) | (rw [if_neg (by decide +kernel)]; exact ⟨rfl, rfl⟩))
    (fun os started H enc _ => lifted os started H enc)
theorem proved : Rows.CurveKnownSaid := over
end lawCurveKnown

end Go.Proofs.Ytdicmddedcfhaaa
