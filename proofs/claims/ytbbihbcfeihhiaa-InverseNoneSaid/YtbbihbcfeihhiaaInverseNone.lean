/- InverseNone: what has a part in common with the modulus has no inverse. -/
import Derived.Test.YtbbihbcfeihhiaaVInv
import Derived.Test.YtbbihbcfeihhiaaPicked
namespace Go.Proofs.Ytbbihbcfeihhiaa
set_option linter.unusedVariables false
set_option linter.unusedSimpArgs false
set_option linter.unusedSectionVars false
open Go.ChangeShapes Go.WideShapes Go.ChangeAt Go.RowKit Go.Joins
set_option maxRecDepth 10000
theorem inv_nought : FnV Try.prog G0 28 [.agg (words [0, 0, 0, 0]), .agg (words [0, 0, 0, 0])] (.tup [.agg (words [0, 0, 0, 0]), nI .i64 7]) := by
  have ez := eq_zero (a := 0) (by decide)
  rw [uC_lit (n := 0) (by decide)] at ez
  have hf : FnV Try.prog G0 47 [.agg (words [0, 0, 0, 0]), .ds false 1 (words [0, 0, 0, 0])] (nI .i64 7) := by
    refine fn_of_vwp Γok Try.func47 (by kernel_rfl) rfl (by simp [Try.ntmps47]) (wpv_ok Γok (by kernel_rfl) _ _ _ ?_); conv => whnf
    refine ⟨_, ez, ?_⟩
    rw [decide_eq_true rfl]
    conv => whnf
    try (refine ⟨by kernel_rfl, ?_⟩; conv => whnf)
    exact ⟨_, rfl, rfl⟩
  refine fn_of_vwp Γok Try.func28 (by kernel_rfl) rfl (by simp [Try.ntmps28]) (wpv_ok Γok (by kernel_rfl) _ _ _ ?_); conv => whnf
  refine .read 1 (words [0, 0, 0, 0]) rfl rfl (by rfl) (by rfl) ?_
  conv => whnf
  try (refine ⟨by kernel_rfl, ?_⟩; conv => whnf)
  refine ⟨_, ret_of_fn G0ok (hf) (by first | rfl | simp only [noHs, noH, nI, bI, Bool.and_self, Bool.and_true, Bool.true_and, ]) (by first | rfl | simp only [noHs, noH, nI, bI, Bool.and_self, Bool.and_true, Bool.true_and, ]), ?_⟩; (conv => whnf); (try (refine ⟨by kernel_rfl, ?_⟩; conv => whnf))
  exact ⟨_, rfl, rfl⟩
theorem uV_four {n : Nat} (h : n < B64) : uV n = .agg (words [n, 0, 0, 0]) := congrArg VV.agg (uC_lit h)
theorem fnInverseNone (k a b : Int) (_ : I64 k) (_ : I64 a) (_ : I64 b) : FnV Try.prog G0 10 [nI .i64 k, nI .i64 a, nI .i64 b] (bI true) := by
  have pk := picked_fn k 1000 (by decide) (by decide)
  have pa := picked_fn a 1048576 (by decide) (by decide)
  have pb := picked_fn b 1048576 (by decide) (by decide)
  obtain ⟨K, hK, lK⟩ : ∃ n : Nat, k % 1000 = (n : Int) ∧ n < 1000 := ⟨(k % 1000).toNat, by omega, by omega⟩
  obtain ⟨X, hX, lX⟩ : ∃ n : Nat, a % 1048576 = (n : Int) ∧ n < 1048576 := ⟨(a % 1048576).toNat, by omega, by omega⟩
  obtain ⟨Y, hY, lY⟩ : ∃ n : Nat, b % 1048576 = (n : Int) ∧ n < 1048576 := ⟨(b % 1048576).toNat, by omega, by omega⟩
  rw [hK] at pk
  rw [hX] at pa
  rw [hY] at pb
  have wD : wS .u64 (wS .i64 (2 + (K : Int))) = ((2 + K : Nat) : Int) := by rw [ws_i64 (by omega) (by omega), ws_u64n (by omega) (by omega)]; omega
  have wX : wS .u64 (wS .i64 (1 + (X : Int))) = ((1 + X : Nat) : Int) := by rw [ws_i64 (by omega) (by omega), ws_u64n (by omega) (by omega)]; omega
  have wY : wS .u64 (Y : Int) = (Y : Int) := ws_u64n (by omega) (by omega)
  have b1 : (2 + K) * (1 + X) ≤ 1002 * 1048577 := Nat.mul_le_mul (by omega) (by omega)
  have b2 : (2 + K) * Y ≤ 1002 * 1048576 := Nat.mul_le_mul (by omega) (by omega)
  have b3 : 0 < (2 + K) * (1 + X) := Nat.mul_pos (by omega) (by omega)
  have wM : wS .u64 (((2 + K : Nat) : Int) * ((1 + X : Nat) : Int)) = (((2 + K) * (1 + X) : Nat) : Int) := by
    rw [← Int.natCast_mul]; exact ws_u64n (by omega) (by omega)
  have wZ : wS .u64 (((2 + K : Nat) : Int) * (Y : Int)) = (((2 + K) * Y : Nat) : Int) := by
    rw [← Int.natCast_mul]; exact ws_u64n (by omega) (by omega)
  have bB : 1002 * 1048577 < B64 := by decide
  have bT : B64 < T256 := by decide
  have dv := div_pos (a := (2 + K) * Y) (b := (2 + K) * (1 + X)) (by omega) (by omega) b3
  have hx : modN ((2 + K) * Y) ((2 + K) * (1 + X)) < (2 + K) * (1 + X) := by rw [modN_def]; exact Nat.mod_lt _ b3
  have hg : Nat.gcd (modN ((2 + K) * Y) ((2 + K) * (1 + X))) ((2 + K) * (1 + X)) ≠ 1 := by
    intro e
    have h1 : (2 + K) ∣ 1 := by
      rw [← e, modN_def]
      refine Nat.dvd_gcd ?_ (Nat.dvd_mul_right _ _)
      exact (Nat.dvd_mod_iff (Nat.dvd_mul_right _ _)).2 (Nat.dvd_mul_right _ _)
    have := Nat.le_of_dvd (by decide) h1
    omega
  have iv := inv_all hx (by omega)
  have e1 : invR (modN ((2 + K) * Y) ((2 + K) * (1 + X))) ((2 + K) * (1 + X)) = 0 := by unfold invR; rw [if_neg hg]
  have e2 : invE (modN ((2 + K) * Y) ((2 + K) * (1 + X))) ((2 + K) * (1 + X)) = 5 := by unfold invE; rw [if_neg hg]
  rw [e1, e2, uV_four (n := 0) (by decide), uV_four (n := (2 + K) * (1 + X)) (by omega)] at iv
  rw [uV_four (n := (2 + K) * Y) (by omega), uV_four (n := (2 + K) * (1 + X)) (by omega)] at dv
  have ez := eq_zero (a := 0) (by decide)
  rw [uC_lit (n := 0) (by decide)] at ez
  clear hg hx e1 e2 b1 b2 b3 bB bT hK hX hY
  refine gen_ex (modN ((2 + K) * Y) ((2 + K) * (1 + X))) fun R eR => ?_
  rw [← eR] at dv iv
  clear eR
  refine gen_ex ((2 + K) * (1 + X)) fun M eM => ?_
  rw [← eM] at dv iv wM
  clear eM
  refine gen_ex ((2 + K) * Y) fun Z eZ => ?_
  rw [← eZ] at dv wZ
  clear eZ
  refine fn_of_vwp Γok Try.func10 (by kernel_rfl) rfl (by simp [Try.ntmps10]) (wpv_ok Γok (by kernel_rfl) _ _ _ ?_); conv => whnf
  refine ⟨_, ret_of_fn G0ok (pk) (by first | rfl | simp only [noHs, noH, nI, bI, Bool.and_self, Bool.and_true, Bool.true_and, ]) (by first | rfl | simp only [noHs, noH, nI, bI, Bool.and_self, Bool.and_true, Bool.true_and, ]), ?_⟩; (conv => whnf); (try (refine ⟨by kernel_rfl, ?_⟩; conv => whnf))
  rw [wD]
  conv => whnf
  try (refine ⟨by kernel_rfl, ?_⟩; conv => whnf)
  refine ⟨_, ret_of_fn G0ok (pa) (by first | rfl | simp only [noHs, noH, nI, bI, Bool.and_self, Bool.and_true, Bool.true_and, ]) (by first | rfl | simp only [noHs, noH, nI, bI, Bool.and_self, Bool.and_true, Bool.true_and, ]), ?_⟩; (conv => whnf); (try (refine ⟨by kernel_rfl, ?_⟩; conv => whnf))
  rw [wX, wM]
  conv => whnf
  try (refine ⟨by kernel_rfl, ?_⟩; conv => whnf)
  refine ⟨_, ret_of_fn G0ok (pb) (by first | rfl | simp only [noHs, noH, nI, bI, Bool.and_self, Bool.and_true, Bool.true_and, ]) (by first | rfl | simp only [noHs, noH, nI, bI, Bool.and_self, Bool.and_true, Bool.true_and, ]), ?_⟩; (conv => whnf); (try (refine ⟨by kernel_rfl, ?_⟩; conv => whnf))
  rw [wY, wZ]
  conv => whnf
  try (refine ⟨by kernel_rfl, ?_⟩; conv => whnf)
  refine ⟨_, ret_of_fn G0ok (dv) (by first | rfl | simp only [noHs, noH, nI, bI, Bool.and_self, Bool.and_true, Bool.true_and, ]) (by first | rfl | simp only [noHs, noH, nI, bI, Bool.and_self, Bool.and_true, Bool.true_and, ]), ?_⟩; (conv => whnf); (try (refine ⟨by kernel_rfl, ?_⟩; conv => whnf))
  refine ⟨_, ret_of_fn G0ok (iv) (by first | rfl | simp only [noHs, noH, nI, bI, Bool.and_self, Bool.and_true, Bool.true_and, ]) (by first | rfl | simp only [noHs, noH, nI, bI, Bool.and_self, Bool.and_true, Bool.true_and, ]), ?_⟩; (conv => whnf); (try (refine ⟨by kernel_rfl, ?_⟩; conv => whnf))
  refine ⟨_, ret_of_fn G0ok (inv_nought) (by first | rfl | simp only [noHs, noH, nI, bI, Bool.and_self, Bool.and_true, Bool.true_and, ]) (by first | rfl | simp only [noHs, noH, nI, bI, Bool.and_self, Bool.and_true, Bool.true_and, ]), ?_⟩; (conv => whnf); (try (refine ⟨by kernel_rfl, ?_⟩; conv => whnf))
  refine ⟨_, ez, ?_⟩
  rw [decide_eq_true rfl]
  conv => whnf
  try (refine ⟨by kernel_rfl, ?_⟩; conv => whnf)
  exact ⟨_, rfl, rfl⟩
namespace lawInverseNone
set_option linter.unusedVariables false
set_option maxRecDepth 100000 in
theorem lifted (os : Os) (started : os.Started) (H : Type) (enc : TypeId × Value → H) :
    ReturnsInHanded {} Try.checked os 10 .any (Rows.inverseNoneSpec.pre6 enc Try.prog Try.f10 Rows.inverseNoneRow.domain false) (Rows.inverseNoneSpec.post enc Try.prog Try.f10 false true false false) := by
  refine returnsInHanded_of_change (C := Try.checked) rowOwn started (by kernel_rfl) Try.func10
    (ChangeSpec.witness6 (enc := enc) (C := Try.checked) false ⟨#[], #[.int .i64 0, .int .i64 0, .int .i64 0], []⟩ 8 (by kernel_rfl) (by kernel_rfl) (by kernel_rfl) (by kernel_rfl)) ?_
  intro W base args ds gs before hval0 hW hcnd _
  have hval : ∀ (j : Nat) t v, Try.f10.params[j]? = some t → args[j]? = some v → Value.okWide Try.prog W .any base t v := hval0
  have hW' := hW
  obtain ⟨p, q, hA0, hV, rfl, hfz, hnd⟩ := hW
  have hA : DataW.TrodAll enc Try.prog W 0 (fun _ => true) true Try.f10.params.toList args.toList ds p := hA0
  rw [Try.params10] at hA hval
  obtain ⟨v0, vs0, d0, ds0, p0, q0, hargs, rfl, rfl, h0, r0⟩ := trodAll_cons hA
  obtain ⟨v1, vs1, d1, ds1, p1, q1, rfl, rfl, rfl, h1, r1⟩ := trodAll_cons r0
  obtain ⟨v2, vs2, d2, ds2, p2, q2, rfl, rfl, rfl, h2, r2⟩ := trodAll_cons r1
  obtain ⟨rfl, rfl, rfl⟩ := trodAll_nil r2
  obtain rfl : args = #[v0, v1, v2] := by cases args; simp_all
  obtain ⟨rfl, rfl⟩ := trodVars_none hV
  obtain ⟨a0, rfl, rfl, rfl, w0⟩ := open_int Try.underlying3 (hval 0 3 v0 rfl rfl) h0
  obtain ⟨a1, rfl, rfl, rfl, w1⟩ := open_int Try.underlying3 (hval 1 3 v1 rfl rfl) h1
  obtain ⟨a2, rfl, rfl, rfl, w2⟩ := open_int Try.underlying3 (hval 2 3 v2 rfl rfl) h2
  clear hA0 hval0
  refine (calls_of_fn Try.func10 (by kernel_rfl) rfl (fnInverseNone a0 a1 a2 (bounds_i64 w0) (bounds_i64 w1) (bounds_i64 w2)) (fun _ _ h => by cases h) (VRs.cons rfl (VRs.cons rfl (VRs.cons rfl VRs.snoc_nil)))).mono fun e W' ⟨he, bel⟩ => ?_
  subst he
  exact ⟨_, rfl, _, _, _, [], _, [], hW', trodAll_mk1 (shut_bool Try.underlying4 _), (trodAll_cons_mk (shut_int Try.underlying3 w0) (trodAll_cons_mk (shut_int Try.underlying3 w1) (trodAll_cons_mk (shut_int Try.underlying3 w2) trodAll_mk0))), rfl, bel.frame _, fun h => by cases h⟩
theorem over : Rows.inverseNoneRow.holds Try.pinned (OpenSpec.ofChange Rows.inverseNoneSpec) :=
  OpenClaim.holds_of_wide 10 Try.f10 rfl rfl rfl rfl rfl rfl rfl ⟨rfl, rfl, rfl, rfl, rfl⟩ rfl rfl rfl rfl rfl (by kernel_rfl) Try.func10 (by kernel_rfl)
    (of_decide_eq_true (by kernel_rfl)) (by unfold Func.isWrapper; first | (rw [if_pos (by decide +kernel)]; kernel_rfl) | (rw [if_neg (by decide +kernel)]; exact ⟨rfl, rfl⟩))
    (fun os started H enc _ => lifted os started H enc)
theorem proved : Rows.InverseNoneSaid := over
end lawInverseNone

end Go.Proofs.Ytbbihbcfeihhiaa
