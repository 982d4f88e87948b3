/- PowerPrime: by a prime each number but nought comes to one by the power of the prime less one, and to its inverse by one less still. -/
import Derived.Test.YtbbihbcfeihhiaaVCurveP
import Derived.Test.YtbbihbcfeihhiaaVInv
namespace Go.Proofs.Ytbbihbcfeihhiaa
set_option linter.unusedVariables false
set_option linter.unusedSimpArgs false
set_option linter.unusedSectionVars false
open Go.ChangeShapes Go.WideShapes Go.ChangeAt Go.RowKit Go.Joins
set_option maxRecDepth 10000
theorem fnPowerPrime (n x : Int) (_ : I64 n) (_ : I64 x) : FnV Try.prog G0 11 [nI .i64 n, nI .i64 x] (bI true) := by
  have cv := curve_fn n
  obtain ⟨k, hk, lk⟩ : ∃ k : Nat, (n % 8).toNat = k ∧ k < 8 := ⟨_, rfl, by omega⟩
  rw [hk] at cv
  have hf := crv_fermat lk
  obtain ⟨b1, b2, b3, b4, b5, b6, b7, b8⟩ := crv_bounds lk
  have tB : 1000 < B64 := by decide
  have tT : 1000 < T256 := by decide
  unfold CvD.v CvD.cells at cv
  refine gen_ex (crv k) fun c ec => ?_
  rw [← ec] at cv hf b1 b2 b3 b4 b5 b6 b7 b8
  clear ec hk lk
  obtain ⟨P, A, B, N, X, Y⟩ := c
  dsimp only at cv hf b1 b2 b3 b4 b5 b6 b7 b8
  rw [uC_lit (n := P) (by omega)] at cv
  have pk := picked_fn x ((P : Int) - 1) (by omega) (by omega)
  obtain ⟨j, hj, lj⟩ : ∃ j : Nat, x % ((P : Int) - 1) = (j : Int) ∧ j < P - 1 := ⟨(x % ((P : Int) - 1)).toNat, by have := Int.emod_nonneg x (show (P : Int) - 1 ≠ 0 by omega); omega, by have := Int.emod_nonneg x (show (P : Int) - 1 ≠ 0 by omega); have := Int.emod_lt_of_pos x (show 0 < (P : Int) - 1 by omega); omega⟩
  rw [hj] at pk
  clear hj
  have hi := fermat_inv hf (by omega) (show 0 < 1 + j by omega) (show 1 + j < P by omega)
  have hg := coprime_of_inv (by omega) hi
  have h1 := fermat_at hf (show 0 < 1 + j by omega) (show 1 + j < P by omega)
  have p1 := pow_fn (a := 1 + j) (b := P - 1) (m := P) (by omega) (by omega) (by omega)
  rw [powM_def, h1] at p1
  have p2 := pow_fn (a := 1 + j) (b := P - 2) (m := P) (by omega) (by omega) (by omega)
  rw [powM_def, invM_of hi] at p2
  have i1 := inv_all (a := 1 + j) (m := P) (by omega) (by omega)
  have lI : invM P (1 + j) < T256 := by have := (invM_ok (show 1 + j < P by omega) hg).1; omega
  have e1 : invR (1 + j) P = invM P (1 + j) := by unfold invR; rw [if_pos hg]
  have e2 : invE (1 + j) P = 0 := by unfold invE; rw [if_pos hg]
  rw [e1, e2] at i1
  clear e1 e2 hi hg h1 hf
  have q2 := eq_uC lI lI
  refine gen_ex (invM P (1 + j)) fun I eI => ?_
  rw [← eI] at *
  clear eI lI
  have q1 : EqAgg Try.prog .eql 26 (uC 1) (words [1, 0, 0, 0]) (decide ((1 : Nat) = 1)) := by
    rw [show words [1, 0, 0, 0] = uC 1 from (uC_lit (n := 1) (by decide)).symm]
    exact eq_uC (a := 1) (b := 1) (by decide) (by decide)
  have u4 : ∀ {n : Nat}, n < B64 → uV n = .agg (words [n, 0, 0, 0]) := fun h => congrArg VV.agg (uC_lit h)
  rw [u4 (n := 1 + j) (by omega), u4 (n := P) (by omega), u4 (n := P - 1) (by omega)] at p1
  rw [u4 (n := 1 + j) (by omega), u4 (n := P) (by omega), u4 (n := P - 2) (by omega)] at p2
  rw [u4 (n := 1 + j) (by omega), u4 (n := P) (by omega)] at i1
  have w1 : wS .i64 (P : Int) = (P : Int) := ws_i64 (by omega) (by omega)
  have w2 : wS .i64 ((P : Int) - 1) = (P : Int) - 1 := ws_i64 (by omega) (by omega)
  have w3 : wS .u64 (j : Int) = (j : Int) := ws_u64n (by omega) (by omega)
  have w4 : wS .u64 (1 + (j : Int)) = ((1 + j : Nat) : Int) := by rw [ws_u64n (by omega) (by omega)]; omega
  have w5 : wS .u64 ((P : Int) - 1) = ((P - 1 : Nat) : Int) := by rw [ws_u64n (by omega) (by omega)]; omega
  have w6 : wS .u64 ((P : Int) - 2) = ((P - 2 : Nat) : Int) := by rw [ws_u64n (by omega) (by omega)]; omega
  clear u4
  refine fn_of_vwp Γok Try.func11 (by kernel_rfl) rfl (by simp [Try.ntmps11]) (wpv_ok Γok (by kernel_rfl) _ _ _ ?_); conv => whnf
  refine ⟨_, ret_of_fn G0ok (cv) (by first | rfl | simp only [noHs, noH, nI, bI, Bool.and_self, Bool.and_true, Bool.true_and, words_noHs]) (by first | rfl | simp only [noHs, noH, nI, bI, Bool.and_self, Bool.and_true, Bool.true_and, words_noHs]), ?_⟩; (conv => whnf); (try (refine ⟨by kernel_rfl, ?_⟩; conv => whnf))
  rw [w1, w2]
  conv => whnf
  try (refine ⟨by kernel_rfl, ?_⟩; conv => whnf)
  refine ⟨_, ret_of_fn G0ok (pk) (by first | rfl | simp only [noHs, noH, nI, bI, Bool.and_self, Bool.and_true, Bool.true_and, ]) (by first | rfl | simp only [noHs, noH, nI, bI, Bool.and_self, Bool.and_true, Bool.true_and, ]), ?_⟩; (conv => whnf); (try (refine ⟨by kernel_rfl, ?_⟩; conv => whnf))
  rw [w3, w4]
  conv => whnf
  try (refine ⟨by kernel_rfl, ?_⟩; conv => whnf)
  rw [w5]
  conv => whnf
  try (refine ⟨by kernel_rfl, ?_⟩; conv => whnf)
  refine ⟨_, ret_of_fn G0ok (p1) (by first | rfl | simp only [noHs, noH, nI, bI, Bool.and_self, Bool.and_true, Bool.true_and, ]) (by first | rfl | simp only [noHs, noH, nI, bI, Bool.and_self, Bool.and_true, Bool.true_and, ]), ?_⟩; (conv => whnf); (try (refine ⟨by kernel_rfl, ?_⟩; conv => whnf))
  rw [w6]
  conv => whnf
  try (refine ⟨by kernel_rfl, ?_⟩; conv => whnf)
  refine ⟨_, ret_of_fn G0ok (p2) (by first | rfl | simp only [noHs, noH, nI, bI, Bool.and_self, Bool.and_true, Bool.true_and, ]) (by first | rfl | simp only [noHs, noH, nI, bI, Bool.and_self, Bool.and_true, Bool.true_and, ]), ?_⟩; (conv => whnf); (try (refine ⟨by kernel_rfl, ?_⟩; conv => whnf))
  refine ⟨_, ret_of_fn G0ok (i1) (by first | rfl | simp only [noHs, noH, nI, bI, Bool.and_self, Bool.and_true, Bool.true_and, ]) (by first | rfl | simp only [noHs, noH, nI, bI, Bool.and_self, Bool.and_true, Bool.true_and, ]), ?_⟩; (conv => whnf); (try (refine ⟨by kernel_rfl, ?_⟩; conv => whnf))
  refine ⟨_, q1, ?_⟩
  rw [decide_eq_true rfl]
  conv => whnf
  try (refine ⟨by kernel_rfl, ?_⟩; conv => whnf)
  refine ⟨_, q2, ?_⟩
  rw [decide_eq_true rfl]
  conv => whnf
  try (refine ⟨by kernel_rfl, ?_⟩; conv => whnf)
  exact ⟨_, rfl, rfl⟩
namespace lawPowerPrime
set_option linter.unusedVariables false
set_option maxRecDepth 100000 in
theorem lifted (os : Os) (started : os.Started) (H : Type) (enc : TypeId × Value → H) :
    ReturnsInHanded {} Try.checked os 11 .any (Rows.powerPrimeSpec.pre6 enc Try.prog Try.f11 Rows.powerPrimeRow.domain false) (Rows.powerPrimeSpec.post enc Try.prog Try.f11 false true false false) := by
  refine returnsInHanded_of_change (C := Try.checked) rowOwn started (by kernel_rfl) Try.func11
    (ChangeSpec.witness6 (enc := enc) (C := Try.checked) false ⟨#[], #[.int .i64 0, .int .i64 0], []⟩ 8 (by kernel_rfl) (by kernel_rfl) (by kernel_rfl) (by kernel_rfl)) ?_
  intro W base args ds gs before hval0 hW hcnd _
  have hval : ∀ (j : Nat) t v, Try.f11.params[j]? = some t → args[j]? = some v → Value.okWide Try.prog W .any base t v := hval0
  have hW' := hW
  obtain ⟨p, q, hA0, hV, rfl, hfz, hnd⟩ := hW
  have hA : DataW.TrodAll enc Try.prog W 0 (fun _ => true) true Try.f11.params.toList args.toList ds p := hA0
  rw [Try.params11] at hA hval
  obtain ⟨v0, vs0, d0, ds0, p0, q0, hargs, rfl, rfl, h0, r0⟩ := trodAll_cons hA
  obtain ⟨v1, vs1, d1, ds1, p1, q1, rfl, rfl, rfl, h1, r1⟩ := trodAll_cons r0
  obtain ⟨rfl, rfl, rfl⟩ := trodAll_nil r1
  obtain rfl : args = #[v0, v1] := by cases args; simp_all
  obtain ⟨rfl, rfl⟩ := trodVars_none hV
  obtain ⟨a0, rfl, rfl, rfl, w0⟩ := open_int Try.underlying3 (hval 0 3 v0 rfl rfl) h0
  obtain ⟨a1, rfl, rfl, rfl, w1⟩ := open_int Try.underlying3 (hval 1 3 v1 rfl rfl) h1
  clear hA0 hval0
  refine (calls_of_fn Try.func11 (by kernel_rfl) rfl (fnPowerPrime a0 a1 (bounds_i64 w0) (bounds_i64 w1)) (fun _ _ h => by cases h) (VRs.cons rfl (VRs.cons rfl VRs.snoc_nil))).mono fun e W' ⟨he, bel⟩ => ?_
  subst he
  exact ⟨_, rfl, _, _, _, [], _, [], hW', trodAll_mk1 (shut_bool Try.underlying4 _), (trodAll_cons_mk (shut_int Try.underlying3 w0) (trodAll_cons_mk (shut_int Try.underlying3 w1) trodAll_mk0)), rfl, bel.frame _, fun h => by cases h⟩
theorem over : Rows.powerPrimeRow.holds Try.pinned (OpenSpec.ofChange Rows.powerPrimeSpec) :=
  OpenClaim.holds_of_wide 11 Try.f11 rfl rfl rfl rfl rfl rfl rfl ⟨rfl, rfl, rfl, rfl, rfl⟩ rfl rfl rfl rfl rfl (by kernel_rfl) Try.func11 (by kernel_rfl)
    (of_decide_eq_true (by kernel_rfl)) (by unfold Func.isWrapper; first | (rw [if_pos (by decide +kernel)]; kernel_rfl) | (rw [if_neg (by decide +kernel)]; exact ⟨rfl, rfl⟩))
    (fun os started H enc _ => lifted os started H enc)
theorem proved : Rows.PowerPrimeSaid := over
end lawPowerPrime

end Go.Proofs.Ytbbihbcfeihhiaa
