/- CurveOrder: a point so often as the order says is the far one, and sooner it isn't. -/
import Derived.Test.YtdicmddedcfhaaaVCurveT
namespace Go.Proofs.Ytdicmddedcfhaaa
set_option linter.unusedVariables false
set_option linter.unusedSimpArgs false
set_option linter.unusedSectionVars false
open Go.ChangeShapes Go.WideShapes Go.ChangeAt Go.RowKit Go.Joins
set_option maxRecDepth 10000
theorem prod_nz {p a b : Nat} (h : fermatOk p = true) (hp : 2 ≤ p) (ha : 0 < a) (ha2 : a < p) (hb : 0 < b) (hb2 : b < p) : a * b % p ≠ 0 := by
  intro e
  have h1 := fermat_at h ha ha2
  have h2 := fermat_at h hb hb2
  have h3 : (a * b) ^ (p - 1) % p = 1 := by
    rw [Nat.mul_pow, Nat.mul_mod, h1, h2]
    exact Nat.mod_eq_of_lt (by omega)
  rw [Nat.pow_mod, e, Nat.zero_pow (by omega), Nat.zero_mod] at h3
  omega
theorem fnCurveOrder (n i k : Int) (_ : I64 n) (_ : I64 i) (_ : I64 k) : FnV Try.prog G0 7 [nI .i64 n, nI .i64 i, nI .i64 k] (bI true) := by
  obtain ⟨c, hc, cv⟩ := law_curve n
  obtain ⟨b1, b2, b3, b4, _⟩ := crv_bounds hc
  obtain ⟨l1, l2⟩ := crv_B64 hc
  have tT : B64 < T256 := by decide
  have fN := crv_fermatN hc
  have pk := picked_fn i ((crv c).N - 1 : Int) (by omega) (by omega)
  obtain ⟨I, hI, lI⟩ : ∃ j : Nat, i % ((crv c).N - 1 : Int) = (j : Int) ∧ j < (crv c).N - 1 := ⟨(i % ((crv c).N - 1 : Int)).toNat, by have := Int.emod_nonneg i (show ((crv c).N - 1 : Int) ≠ 0 by omega); omega, by have := Int.emod_nonneg i (show ((crv c).N - 1 : Int) ≠ 0 by omega); have := Int.emod_lt_of_pos i (show 0 < ((crv c).N - 1 : Int) by omega); omega⟩
  have sk := secret_fn hc k
  obtain ⟨K, hK, lK⟩ : ∃ j : Nat, (k % ((crv c).N - 1 : Int)).toNat = j ∧ j < (crv c).N - 1 := ⟨_, rfl, by have := Int.emod_nonneg k (show ((crv c).N - 1 : Int) ≠ 0 by omega); have := Int.emod_lt_of_pos k (show 0 < ((crv c).N - 1 : Int) by omega); omega⟩
  rw [hI] at pk
  rw [hK] at sk
  clear hI hK
  have pi := point_fn hc (1 + (I : Int))
  rw [show ((1 + (I : Int)) % ((crv c).N : Int)).toNat = 1 + I from by rw [Int.emod_eq_of_lt (by omega) (by omega)]; omega] at pi
  have w1 : wS .i64 ((crv c).N : Int) = ((crv c).N : Int) := ws_i64 (by omega) (by omega)
  have w2 : wS .i64 (((crv c).N : Int) - 1) = ((crv c).N : Int) - 1 := ws_i64 (by omega) (by omega)
  have w3 : wS .i64 (1 + (I : Int)) = 1 + (I : Int) := ws_i64 (by omega) (by omega)
  have m1 := mult_gk hc (1 + I) (n := (crv c).N) (by omega)
  rw [gk_zero (i := (crv c).N * (1 + I)) (by rw [Nat.mul_mod_right])] at m1
  have m2 := mult_gk hc (1 + I) (n := 1 + K) (by omega)
  have nz := prod_nz fN (by omega) (show 0 < 1 + K by omega) (by omega) (show 0 < 1 + I by omega) (by omega)
  have ff : (gk c ((1 + K) * (1 + I))).far = false := by rw [gk_far]; exact decide_eq_false nz
  have zx : uC 0 = words [0, 0, 0, 0] := uC_lit (n := 0) (by decide)
  have ef : EqAgg Try.prog .eql 60 farP.cells farP.cells true := eq_pt_self ⟨by decide, by decide⟩
  have fc : farP.cells = words [0, 0, 0, 0, 0, 0, 0, 0] ++ [bI true] := by unfold PtD.cells farP; rw [zx]; rfl
  have uN : uC (crv c).N = words [(crv c).N, 0, 0, 0] := uC_lit l1
  have uN' : uV (crv c).N = .agg (words [(crv c).N, 0, 0, 0]) := congrArg VV.agg uN
  clear nz fN
  unfold PtD.v at pi m1 m2
  rw [fc] at ef m1
  unfold PtD.cells at pi m1 m2
  rw [ff] at m2
  clear ff
  rw [uN'] at m1
  refine gen_ex (gk c ((1 + K) * (1 + I))) fun B eB => ?_
  rw [← eB] at m2
  clear eB
  refine gen_ex (gk c (1 + I)) fun A eA => ?_
  rw [← eA] at pi m1 m2
  clear eA
  unfold CvD.v CvD.cells at cv pi m1 m2 sk
  rw [uN] at cv pi m1 m2 sk
  refine gen_ex (crv c) fun C eC => ?_
  rw [← eC] at cv pk pi m1 m2 sk w1 w2
  clear eC
  refine fn_of_vwp Γok Try.func7 (by kernel_rfl) rfl (by simp [Try.ntmps7]) (wpv_ok Γok (by kernel_rfl) _ _ _ ?_); conv => whnf
  refine ⟨_, ret_of_fn G0ok (cv) (by first | rfl | simp only [noHs, noH, nI, bI, Bool.and_self, Bool.and_true, Bool.true_and, ]) (by first | rfl | simp only [noHs, noH, nI, bI, Bool.and_self, Bool.and_true, Bool.true_and, ]), ?_⟩; (conv => whnf); (try (refine ⟨by kernel_rfl, ?_⟩; conv => whnf))
  rw [w1, w2]
  conv => whnf
  try (refine ⟨by kernel_rfl, ?_⟩; conv => whnf)
  refine ⟨_, ret_of_fn G0ok (pk) (by first | rfl | simp only [noHs, noH, nI, bI, Bool.and_self, Bool.and_true, Bool.true_and, ]) (by first | rfl | simp only [noHs, noH, nI, bI, Bool.and_self, Bool.and_true, Bool.true_and, ]), ?_⟩; (conv => whnf); (try (refine ⟨by kernel_rfl, ?_⟩; conv => whnf))
  rw [w3]
  conv => whnf
  try (refine ⟨by kernel_rfl, ?_⟩; conv => whnf)
  refine ⟨_, ret_of_fn G0ok (pi) (by first | rfl | simp only [noHs, noH, nI, bI, Bool.and_self, Bool.and_true, Bool.true_and, ]) (by first | rfl | simp only [noHs, noH, nI, bI, Bool.and_self, Bool.and_true, Bool.true_and, ]), ?_⟩; (conv => whnf); (try (refine ⟨by kernel_rfl, ?_⟩; conv => whnf))
  refine ⟨_, ret_of_fn G0ok (m1) (by first | rfl | simp only [noHs, noH, nI, bI, Bool.and_self, Bool.and_true, Bool.true_and, ]) (by first | rfl | simp only [noHs, noH, nI, bI, Bool.and_self, Bool.and_true, Bool.true_and, ]), ?_⟩; (conv => whnf); (try (refine ⟨by kernel_rfl, ?_⟩; conv => whnf))
  refine ⟨_, ret_of_fn G0ok (sk) (by first | rfl | simp only [noHs, noH, nI, bI, Bool.and_self, Bool.and_true, Bool.true_and, ]) (by first | rfl | simp only [noHs, noH, nI, bI, Bool.and_self, Bool.and_true, Bool.true_and, ]), ?_⟩; (conv => whnf); (try (refine ⟨by kernel_rfl, ?_⟩; conv => whnf))
  refine ⟨_, ret_of_fn G0ok (m2) (by first | rfl | simp only [noHs, noH, nI, bI, Bool.and_self, Bool.and_true, Bool.true_and, ]) (by first | rfl | simp only [noHs, noH, nI, bI, Bool.and_self, Bool.and_true, Bool.true_and, ]), ?_⟩; (conv => whnf); (try (refine ⟨by kernel_rfl, ?_⟩; conv => whnf))
  refine ⟨_, ret_of_fn G0ok (ctells_fn) (by first | rfl | simp only [noHs, noH, nI, bI, Bool.and_self, Bool.and_true, Bool.true_and, ]) (by first | rfl | simp only [noHs, noH, nI, bI, Bool.and_self, Bool.and_true, Bool.true_and, ]), ?_⟩; (conv => whnf); (try (refine ⟨by kernel_rfl, ?_⟩; conv => whnf))
  refine ⟨_, ef, ?_⟩
  conv => whnf
  try (refine ⟨by kernel_rfl, ?_⟩; conv => whnf)
  exact ⟨_, rfl, rfl⟩
namespace lawCurveOrder
set_option linter.unusedVariables false
set_option maxRecDepth 100000 in
theorem lifted (os : Os) (started : os.Started) (H : Type) (enc : TypeId × Value → H) :
    ReturnsInHanded {} Try.checked os 7 .any (Rows.curveOrderSpec.pre6 enc Try.prog Try.f7 Rows.curveOrderRow.domain false) (Rows.curveOrderSpec.post enc Try.prog Try.f7 false true false false) := by
  refine returnsInHanded_of_change (C := Try.checked) rowOwn started (by kernel_rfl) Try.func7
    (ChangeSpec.witness6 (enc := enc) (C := Try.checked) false ⟨#[], #[.int .i64 0, .int .i64 0, .int .i64 0], []⟩ 8 (by kernel_rfl) (by kernel_rfl) (by kernel_rfl) (by kernel_rfl)) ?_
  intro W base args ds gs before hval0 hW hcnd _
  have hval : ∀ (j : Nat) t v, Try.f7.params[j]? = some t → args[j]? = some v → Value.okWide Try.prog W .any base t v := hval0
  have hW' := hW
  obtain ⟨p, q, hA0, hV, rfl, hfz, hnd⟩ := hW
  have hA : DataW.TrodAll enc Try.prog W 0 (fun _ => true) true Try.f7.params.toList args.toList ds p := hA0
  rw [Try.params7] at hA hval
  obtain ⟨v0, vs0, d0, ds0, p0, q0, hargs, rfl, rfl, h0, r0⟩ := trodAll_cons hA
  obtain ⟨v1, vs1, d1, ds1, p1, q1, rfl, rfl, rfl, h1, r1⟩ := trodAll_cons r0
  obtain ⟨v2, vs2, d2, ds2, p2, q2, rfl, rfl, rfl, h2, r2⟩ := trodAll_cons r1
  obtain ⟨rfl, rfl, rfl⟩ := trodAll_nil r2
  obtain rfl : args = #[v0, v1, v2] := by cases args; simp_all
  obtain ⟨rfl, rfl⟩ := trodVars_none hV
  obtain ⟨a0, rfl, rfl, rfl, w0⟩ := open_int Try.underlying3 (hval 0 3 v0 rfl rfl) h0
  obtain ⟨a1, rfl, rfl, rfl, w1⟩ := open_int Try.underlying3 (hval 1 3 v1 rfl rfl) h1
  obtain ⟨a2, rfl, rfl, rfl, w2⟩ := open_int Try.underlying3 (hval 2 3 v2 rfl rfl) h2
  clear hA0 hval0
  refine (calls_of_fn Try.func7 (by kernel_rfl) rfl (fnCurveOrder a0 a1 a2 (bounds_i64 w0) (bounds_i64 w1) (bounds_i64 w2)) (fun _ _ h => by cases h) (VRs.cons rfl (VRs.cons rfl (VRs.cons rfl VRs.snoc_nil)))).mono fun e W' ⟨he, bel⟩ => ?_
  subst he
  exact ⟨_, rfl, _, _, _, [], _, [], hW', trodAll_mk1 (shut_bool Try.underlying4 _), (trodAll_cons_mk (shut_int Try.underlying3 w0) (trodAll_cons_mk (shut_int Try.underlying3 w1) (trodAll_cons_mk (shut_int Try.underlying3 w2) trodAll_mk0))), rfl, bel.frame _, fun h => by cases h⟩
theorem over : Rows.curveOrderRow.holds Try.pinned (OpenSpec.ofChange Rows.curveOrderSpec) :=
  OpenClaim.holds_of_wide 7 Try.f7 rfl rfl rfl rfl rfl rfl rfl ⟨rfl, rfl, rfl, rfl, rfl⟩ rfl rfl rfl rfl rfl (by kernel_rfl) Try.func7 (by kernel_rfl)
    (of_decide_eq_true (by kernel_rfl)) (by unfold Func.isWrapper; first | (rw [if_pos (by decide +kernel)]; kernel_rfl) | (rw [if_neg (by decide +kernel)]; exact ⟨rfl, rfl⟩))
    (fun os started H enc _ => lifted os started H enc)
theorem proved : Rows.CurveOrderSaid := over
end lawCurveOrder

end Go.Proofs.Ytdicmddedcfhaaa
