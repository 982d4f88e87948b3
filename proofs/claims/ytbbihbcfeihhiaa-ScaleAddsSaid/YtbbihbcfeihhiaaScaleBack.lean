/- ScaleBack: an amount is what is left of it with few decimals, and its dust. -/
import Derived.Test.YtbbihbcfeihhiaaVScale
import Derived.Test.YtbbihbcfeihhiaaVRaw
namespace Go.Proofs.Ytbbihbcfeihhiaa
set_option linter.unusedVariables false
set_option linter.unusedSimpArgs false
set_option linter.unusedSectionVars false
open Go.ChangeShapes Go.WideShapes Go.ChangeAt Go.RowKit Go.Joins
set_option maxRecDepth 10000
theorem uV_lit {n : Nat} (h : n < B64) : uV n = .agg (words [n, 0, 0, 0]) := congrArg VV.agg (uC_lit h)
theorem up_fn {x n p : Nat} (hx : x < T256) (hn : n < 78) (hp : x * ten (n - 8) = p) (h : p < T256) : FnV Try.prog G0 18 [uV x, nI .i64 n] (.tup [uV p, nI .i64 0]) := by
  have := up_ok hx hn (by rw [mulH_def, Nat.div_eq_of_lt (by omega)])
  rwa [mulL_def, hp, Nat.mod_eq_of_lt h] at this
theorem fnScaleBack (x : RawD) (dec : Int) (_ : x.ok) (_ : I64 dec) : FnV Try.prog G0 3 [x.v, nI .i64 dec] (bI true) := by
  have hx := rawN_lt x
  have n1 := number_fn x
  unfold RawD.v RawD.cells at *
  refine gen_ex (rawN x) fun a ha => ?_
  rw [← ha] at hx n1
  clear ha
  have pk := picked_fn dec 78 (by decide) (by decide)
  obtain ⟨k, hk, hk2⟩ : ∃ k : Nat, dec % 78 = (k : Int) ∧ k < 78 := ⟨(dec % 78).toNat, by omega, by omega⟩
  rw [hk] at pk
  have hf : 0 < ten (k - 8) := by rw [ten_def]; exact Nat.pow_pos (by decide)
  have hfl := ten_lt (k := k - 8) (by omega)
  have dn := down_fn hx hk2
  have hm := modN_def a (ten (k - 8)) ▸ Nat.mod_lt a hf
  have hdm : divN a (ten (k - 8)) * ten (k - 8) + modN a (ten (k - 8)) = a := by rw [divN_def, modN_def, Nat.mul_comm]; exact Nat.div_add_mod _ _
  have h1 : k ≤ 8 → modN a (ten (k - 8)) = 0 := fun h => by rw [Nat.sub_eq_zero_of_le h, ten_def, modN_def]; exact Nat.mod_one _
  have up1 := up_fn (x := 1) (n := k) (by decide) hk2 (Nat.one_mul _) hfl
  rw [uV_lit (n := 1) (by decide)] at up1
  have hnl := divN_lt (ten (k - 8)) hx
  have upn := up_fn (x := divN a (ten (k - 8))) (n := k) hnl hk2 rfl (by omega)
  have bad := up_bad (x := divN a (ten (k - 8))) (n := 78) (by omega)
  refine gen_ex (divN a (ten (k - 8))) fun N hN => ?_
  refine gen_ex (modN a (ten (k - 8))) fun D hD => ?_
  rw [← hN] at dn hdm hnl upn bad
  rw [← hD] at dn hdm hm h1
  clear hN hD
  have hfl2 := ten_lt (k := k - 8) (by omega)
  refine gen_ex (ten (k - 8)) fun f hF => ?_
  rw [← hF] at hfl hm hdm upn up1
  clear hF
  refine gen_ex (N * f) fun b hb => ?_
  rw [← hb] at hdm upn
  clear hb
  have ad := add_fn (a := b) (b := D) (by omega) (by omega)
  rw [addS_def, addO_def, hdm, Nat.mod_eq_of_lt hx, decide_eq_false (by omega)] at ad
  have cp := cmp_fn (a := D) (b := f) (by omega) hfl
  rw [cmpN_lt hm] at cp
  have hDl : D < T256 := by omega
  have hz := eq_zero hDl
  clear hdm hm hnl hfl hfl2 hf hk
  refine fn_of_vwp Γok Try.func3 (by kernel_rfl) rfl (by simp [Try.ntmps3]) (wpv_ok Γok (by kernel_rfl) _ _ _ ?_); conv => whnf
  refine ⟨_, ret_of_fn G0ok (n1) (by first | rfl | simp only [noHs, noH, nI, bI, Bool.and_self, Bool.and_true, Bool.true_and, ]) (by first | rfl | simp only [noHs, noH, nI, bI, Bool.and_self, Bool.and_true, Bool.true_and, ]), ?_⟩; (conv => whnf); (try (refine ⟨by kernel_rfl, ?_⟩; conv => whnf))
  refine ⟨_, ret_of_fn G0ok (pk) (by first | rfl | simp only [noHs, noH, nI, bI, Bool.and_self, Bool.and_true, Bool.true_and, ]) (by first | rfl | simp only [noHs, noH, nI, bI, Bool.and_self, Bool.and_true, Bool.true_and, ]), ?_⟩; (conv => whnf); (try (refine ⟨by kernel_rfl, ?_⟩; conv => whnf))
  refine ⟨_, ret_of_fn G0ok (dn) (by first | rfl | simp only [noHs, noH, nI, bI, Bool.and_self, Bool.and_true, Bool.true_and, ]) (by first | rfl | simp only [noHs, noH, nI, bI, Bool.and_self, Bool.and_true, Bool.true_and, ]), ?_⟩; (conv => whnf); (try (refine ⟨by kernel_rfl, ?_⟩; conv => whnf))
  refine ⟨_, ret_of_fn G0ok (upn) (by first | rfl | simp only [noHs, noH, nI, bI, Bool.and_self, Bool.and_true, Bool.true_and, ]) (by first | rfl | simp only [noHs, noH, nI, bI, Bool.and_self, Bool.and_true, Bool.true_and, ]), ?_⟩; (conv => whnf); (try (refine ⟨by kernel_rfl, ?_⟩; conv => whnf))
  refine ⟨_, ret_of_fn G0ok (ad) (by first | rfl | simp only [noHs, noH, nI, bI, Bool.and_self, Bool.and_true, Bool.true_and, ]) (by first | rfl | simp only [noHs, noH, nI, bI, Bool.and_self, Bool.and_true, Bool.true_and, ]), ?_⟩; (conv => whnf); (try (refine ⟨by kernel_rfl, ?_⟩; conv => whnf))
  refine ⟨_, ret_of_fn G0ok (up1) (by first | rfl | simp only [noHs, noH, nI, bI, Bool.and_self, Bool.and_true, Bool.true_and, ]) (by first | rfl | simp only [noHs, noH, nI, bI, Bool.and_self, Bool.and_true, Bool.true_and, ]), ?_⟩; (conv => whnf); (try (refine ⟨by kernel_rfl, ?_⟩; conv => whnf))
  refine ⟨_, ret_of_fn G0ok (bad) (by first | rfl | simp only [noHs, noH, nI, bI, Bool.and_self, Bool.and_true, Bool.true_and, ]) (by first | rfl | simp only [noHs, noH, nI, bI, Bool.and_self, Bool.and_true, Bool.true_and, ]), ?_⟩; (conv => whnf); (try (refine ⟨by kernel_rfl, ?_⟩; conv => whnf))
  refine ⟨_, eq_uC hx hx, ?_⟩
  rw [decide_eq_true rfl]
  conv => whnf
  try (refine ⟨by kernel_rfl, ?_⟩; conv => whnf)
  refine ⟨_, ret_of_fn G0ok (cp) (by first | rfl | simp only [noHs, noH, nI, bI, Bool.and_self, Bool.and_true, Bool.true_and, ]) (by first | rfl | simp only [noHs, noH, nI, bI, Bool.and_self, Bool.and_true, Bool.true_and, ]), ?_⟩; (conv => whnf); (try (refine ⟨by kernel_rfl, ?_⟩; conv => whnf))
  by_cases h8 : k ≤ 8
  · rw [decide_eq_false (by omega)]
    conv => whnf
    try (refine ⟨by kernel_rfl, ?_⟩; conv => whnf)
    refine ⟨_, hz, ?_⟩
    rw [decide_eq_true (h1 h8)]
    conv => whnf
    try (refine ⟨by kernel_rfl, ?_⟩; conv => whnf)
    exact ⟨_, rfl, rfl⟩
  · rw [decide_eq_true (by omega)]
    conv => whnf
    try (refine ⟨by kernel_rfl, ?_⟩; conv => whnf)
    exact ⟨_, rfl, rfl⟩
namespace lawScaleBack
set_option linter.unusedVariables false
set_option maxRecDepth 100000 in
theorem lifted (os : Os) (started : os.Started) (H : Type) (enc : TypeId × Value → H) :
    ReturnsInHanded {} Try.checked os 3 .any (Rows.scaleBackSpec.pre6 enc Try.prog Try.f3 Rows.scaleBackRow.domain false) (Rows.scaleBackSpec.post enc Try.prog Try.f3 false true false false) := by
  refine returnsInHanded_of_change (C := Try.checked) rowOwn started (by kernel_rfl) Try.func3
    (ChangeSpec.witness6 (enc := enc) (C := Try.checked) false ⟨#[], #[.agg #[.int .i64 0, .int .i64 0, .int .i64 0, .string ByteArray.empty], .int .i64 0], []⟩ 8 (by kernel_rfl) (by kernel_rfl) (by kernel_rfl) (by kernel_rfl)) ?_
  intro W base args ds gs before hval0 hW hcnd _
  have hval : ∀ (j : Nat) t v, Try.f3.params[j]? = some t → args[j]? = some v → Value.okWide Try.prog W .any base t v := hval0
  have hW' := hW
  obtain ⟨p, q, hA0, hV, rfl, hfz, hnd⟩ := hW
  have hA : DataW.TrodAll enc Try.prog W 0 (fun _ => true) true Try.f3.params.toList args.toList ds p := hA0
  rw [Try.params3] at hA hval
  obtain ⟨v0, vs0, d0, ds0, p0, q0, hargs, rfl, rfl, h0, r0⟩ := trodAll_cons hA
  obtain ⟨v1, vs1, d1, ds1, p1, q1, rfl, rfl, rfl, h1, r1⟩ := trodAll_cons r0
  obtain ⟨rfl, rfl, rfl⟩ := trodAll_nil r1
  obtain rfl : args = #[v0, v1] := by cases args; simp_all
  obtain ⟨rfl, rfl⟩ := trodVars_none hV
  have k0 := h0
  have lt0 : ∀ x ∈ p0, x.block < W.heap.size := by obtain ⟨m, hm⟩ := k0; exact DataW.trod_lt m _ _ _ hm
  obtain ⟨a0, w0, u0⟩ := raw_open (hval 0 23 v0 rfl rfl) h0
  obtain ⟨a1, rfl, rfl, rfl, w1⟩ := open_int Try.underlying3 (hval 1 3 v1 rfl rfl) h1
  clear hA0 hval0
  refine (calls_of_fn Try.func3 (by kernel_rfl) rfl (fnScaleBack a0 a1 w0 (bounds_i64 w1)) (fun _ _ h => by cases h) (VRs.cons (u0 _) (VRs.cons rfl VRs.snoc_nil))).mono fun e W' ⟨he, bel⟩ => ?_
  subst he
  exact ⟨_, rfl, _, _, _, [], _, [], hW', trodAll_mk1 (shut_bool Try.underlying4 _), (trodAll_cons_mk (Below.trod rowLaid (by kernel_rfl) (of_decide_eq_true (by kernel_rfl)) k0 bel lt0) (trodAll_cons_mk (shut_int Try.underlying3 w1) trodAll_mk0)), rfl, bel.frame _, fun h => by cases h⟩
theorem over : Rows.scaleBackRow.holds Try.pinned (OpenSpec.ofChange Rows.scaleBackSpec) :=
  OpenClaim.holds_of_wide 3 Try.f3 rfl rfl rfl rfl rfl rfl rfl ⟨rfl, rfl, rfl, rfl, rfl⟩ rfl rfl rfl rfl rfl (by kernel_rfl) Try.func3 (by kernel_rfl)
    (of_decide_eq_true (by kernel_rfl)) (by unfold Func.isWrapper; first | (rw [if_pos (by decide +kernel)]; kernel_rfl) | (rw [if_neg (by decide +kernel)]; exact ⟨rfl, rfl⟩))
    (fun os started H enc _ => lifted os started H enc)
theorem proved : Rows.ScaleBackSaid := over
end lawScaleBack

end Go.Proofs.Ytbbihbcfeihhiaa
