/- InverseBack: what has an inverse is taken to one by it; and that one's inverse is the number itself. -/
import Derived.Test.YtbbihbcfeihhiaaVInv
import Derived.Test.YtbbihbcfeihhiaaVRing1
namespace Go.Proofs.Ytbbihbcfeihhiaa
set_option linter.unusedVariables false
set_option linter.unusedSimpArgs false
set_option linter.unusedSectionVars false
open Go.ChangeShapes Go.WideShapes Go.ChangeAt Go.RowKit Go.Joins
set_option maxRecDepth 10000
theorem uV_one4 {n : Nat} (h : n < B64) : uV n = .agg (words [n, 0, 0, 0]) := congrArg VV.agg (uC_lit h)
theorem fnInverseBack (m x : RawD) (_ : m.ok) (_ : x.ok) : FnV Try.prog G0 9 [m.v, x.v] (bI true) := by
  have hr := ring1_fn m x
  have hp := one_pos (rawN m)
  have hl := one_lt (rawN_lt m)
  have hX : modN (rawN x) (oneR (rawN m)) < oneR (rawN m) := by rw [modN_def]; exact Nat.mod_lt _ hp
  refine gen_ex (modN (rawN x) (oneR (rawN m))) fun X eX => ?_
  rw [← eX] at hr hX
  clear eX
  refine gen_ex (oneR (rawN m)) fun N eN => ?_
  rw [← eN] at hr hX hp hl
  clear eN
  have i1 := inv_all hX hl
  have i2 := inv_all (a := 2) (m := 5) (by decide) (by decide)
  have v2 : invR 2 5 = 3 := by unfold invR; rw [if_pos (by decide)]; exact (invM_of ⟨by decide, by decide⟩).symm
  have w2 : invE 2 5 = 0 := by unfold invE; rw [if_pos (by decide)]
  rw [v2, w2, uV_one4 (n := 2) (by decide), uV_one4 (n := 5) (by decide)] at i2
  have n3' : EqAgg Try.prog .neq 26 (uC 3) (words [3, 0, 0, 0]) (!decide ((3 : Nat) = 3)) := by
    rw [show words [3, 0, 0, 0] = uC 3 from (uC_lit (n := 3) (by decide)).symm]
    exact ne_uC (a := 3) (b := 3) (by decide) (by decide)
  have d := div_pos (a := 1) (by decide) hl hp
  rw [uV_one4 (n := 1) (by decide)] at d
  unfold RawD.v RawD.cells at *
  by_cases hg : Nat.gcd X N = 1
  · have e1 : invR X N = invM N X := by unfold invR; rw [if_pos hg]
    have e2 : invE X N = 0 := by unfold invE; rw [if_pos hg]
    obtain ⟨k1, k2⟩ := invM_ok hX hg
    obtain ⟨k3, k4⟩ := invM_back hX hg
    rw [e1, e2] at i1
    have m1 := mul_by hX k1 hl
    have e3 : mulM N X (invM N X) = modN 1 N := by rw [mulM_def, modN_def, Nat.mul_comm]; exact k2
    rw [e3] at m1
    have i3 := inv_all k1 hl
    have e4 : invR (invM N X) N = X := by unfold invR; rw [if_pos k3]; exact k4
    have e5 : invE (invM N X) N = 0 := by unfold invE; rw [if_pos k3]
    rw [e4, e5] at i3
    have lo : modN 1 N < N := by rw [modN_def]; exact Nat.mod_lt _ hp
    refine gen_ex (invM N X) fun I eI => ?_
    refine gen_ex (modN 1 N) fun O eO => ?_
    rw [← eI] at i1 m1 i3
    rw [← eO] at m1 d lo
    clear eI eO k1 k2 k3 k4 e1 e2 e3 e4 e5
    have q1 := eq_uC (a := O) (b := O) (by omega) (by omega)
    have q2 := eq_uC (a := X) (b := X) (by omega) (by omega)
    refine fn_of_vwp Γok Try.func9 (by kernel_rfl) rfl (by simp [Try.ntmps9]) (wpv_ok Γok (by kernel_rfl) _ _ _ ?_); conv => whnf
    refine .read 1 [nI .i64 x.k, nI .i64 x.a, nI .i64 x.b, .v (.string x.s)] rfl rfl (by rfl) (by rfl) ?_
    conv => whnf
    try (refine ⟨by kernel_rfl, ?_⟩; conv => whnf)
    refine ⟨_, ret_of_fn G0ok (hr) (by first | rfl | simp only [noHs, noH, nI, bI, Bool.and_self, Bool.and_true, Bool.true_and, words_noHs]) (by first | rfl | simp only [noHs, noH, nI, bI, Bool.and_self, Bool.and_true, Bool.true_and, words_noHs]), ?_⟩; (conv => whnf); (try (refine ⟨by kernel_rfl, ?_⟩; conv => whnf))
    refine ⟨_, ret_of_fn G0ok (i1) (by first | rfl | simp only [noHs, noH, nI, bI, Bool.and_self, Bool.and_true, Bool.true_and, ]) (by first | rfl | simp only [noHs, noH, nI, bI, Bool.and_self, Bool.and_true, Bool.true_and, ]), ?_⟩; (conv => whnf); (try (refine ⟨by kernel_rfl, ?_⟩; conv => whnf))
    refine ⟨_, ret_of_fn G0ok (i2) (by first | rfl | simp only [noHs, noH, nI, bI, Bool.and_self, Bool.and_true, Bool.true_and, ]) (by first | rfl | simp only [noHs, noH, nI, bI, Bool.and_self, Bool.and_true, Bool.true_and, ]), ?_⟩; (conv => whnf); (try (refine ⟨by kernel_rfl, ?_⟩; conv => whnf))
    refine ⟨_, n3', ?_⟩
    rw [decide_eq_true rfl]
    conv => whnf
    try (refine ⟨by kernel_rfl, ?_⟩; conv => whnf)
    refine ⟨_, ret_of_fn G0ok (d) (by first | rfl | simp only [noHs, noH, nI, bI, Bool.and_self, Bool.and_true, Bool.true_and, ]) (by first | rfl | simp only [noHs, noH, nI, bI, Bool.and_self, Bool.and_true, Bool.true_and, ]), ?_⟩; (conv => whnf); (try (refine ⟨by kernel_rfl, ?_⟩; conv => whnf))
    refine ⟨_, ret_of_fn G0ok (m1) (by first | rfl | simp only [noHs, noH, nI, bI, Bool.and_self, Bool.and_true, Bool.true_and, ]) (by first | rfl | simp only [noHs, noH, nI, bI, Bool.and_self, Bool.and_true, Bool.true_and, ]), ?_⟩; (conv => whnf); (try (refine ⟨by kernel_rfl, ?_⟩; conv => whnf))
    refine ⟨_, ret_of_fn G0ok (i3) (by first | rfl | simp only [noHs, noH, nI, bI, Bool.and_self, Bool.and_true, Bool.true_and, ]) (by first | rfl | simp only [noHs, noH, nI, bI, Bool.and_self, Bool.and_true, Bool.true_and, ]), ?_⟩; (conv => whnf); (try (refine ⟨by kernel_rfl, ?_⟩; conv => whnf))
    refine ⟨_, q1, ?_⟩
    rw [decide_eq_true rfl]
    conv => whnf
    try (refine ⟨by kernel_rfl, ?_⟩; conv => whnf)
    refine ⟨_, q2, ?_⟩
    rw [decide_eq_true rfl]
    conv => whnf
    try (refine ⟨by kernel_rfl, ?_⟩; conv => whnf)
    exact ⟨_, rfl, rfl⟩
  · have e1 : invR X N = 0 := by unfold invR; rw [if_neg hg]
    have e2 : invE X N = 5 := by unfold invE; rw [if_neg hg]
    rw [e1, e2] at i1
    refine fn_of_vwp Γok Try.func9 (by kernel_rfl) rfl (by simp [Try.ntmps9]) (wpv_ok Γok (by kernel_rfl) _ _ _ ?_); conv => whnf
    refine .read 1 [nI .i64 x.k, nI .i64 x.a, nI .i64 x.b, .v (.string x.s)] rfl rfl (by rfl) (by rfl) ?_
    conv => whnf
    try (refine ⟨by kernel_rfl, ?_⟩; conv => whnf)
    refine ⟨_, ret_of_fn G0ok (hr) (by first | rfl | simp only [noHs, noH, nI, bI, Bool.and_self, Bool.and_true, Bool.true_and, words_noHs]) (by first | rfl | simp only [noHs, noH, nI, bI, Bool.and_self, Bool.and_true, Bool.true_and, words_noHs]), ?_⟩; (conv => whnf); (try (refine ⟨by kernel_rfl, ?_⟩; conv => whnf))
    refine ⟨_, ret_of_fn G0ok (i1) (by first | rfl | simp only [noHs, noH, nI, bI, Bool.and_self, Bool.and_true, Bool.true_and, ]) (by first | rfl | simp only [noHs, noH, nI, bI, Bool.and_self, Bool.and_true, Bool.true_and, ]), ?_⟩; (conv => whnf); (try (refine ⟨by kernel_rfl, ?_⟩; conv => whnf))
    refine ⟨_, ret_of_fn G0ok (i2) (by first | rfl | simp only [noHs, noH, nI, bI, Bool.and_self, Bool.and_true, Bool.true_and, ]) (by first | rfl | simp only [noHs, noH, nI, bI, Bool.and_self, Bool.and_true, Bool.true_and, ]), ?_⟩; (conv => whnf); (try (refine ⟨by kernel_rfl, ?_⟩; conv => whnf))
    refine ⟨_, n3', ?_⟩
    rw [decide_eq_true rfl]
    conv => whnf
    try (refine ⟨by kernel_rfl, ?_⟩; conv => whnf)
    exact ⟨_, rfl, rfl⟩
namespace lawInverseBack
set_option linter.unusedVariables false
set_option maxRecDepth 100000 in
theorem lifted (os : Os) (started : os.Started) (H : Type) (enc : TypeId × Value → H) :
    ReturnsInHanded {} Try.checked os 9 .any (Rows.inverseBackSpec.pre6 enc Try.prog Try.f9 Rows.inverseBackRow.domain false) (Rows.inverseBackSpec.post enc Try.prog Try.f9 false true false false) := by
  refine returnsInHanded_of_change (C := Try.checked) rowOwn started (by kernel_rfl) Try.func9
    (ChangeSpec.witness6 (enc := enc) (C := Try.checked) false ⟨#[], #[.agg #[.int .i64 0, .int .i64 0, .int .i64 0, .string ByteArray.empty], .agg #[.int .i64 0, .int .i64 0, .int .i64 0, .string ByteArray.empty]], []⟩ 8 (by kernel_rfl) (by kernel_rfl) (by kernel_rfl) (by kernel_rfl)) ?_
  intro W base args ds gs before hval0 hW hcnd _
  have hval : ∀ (j : Nat) t v, Try.f9.params[j]? = some t → args[j]? = some v → Value.okWide Try.prog W .any base t v := hval0
  have hW' := hW
  obtain ⟨p, q, hA0, hV, rfl, hfz, hnd⟩ := hW
  have hA : DataW.TrodAll enc Try.prog W 0 (fun _ => true) true Try.f9.params.toList args.toList ds p := hA0
  rw [Try.params9] at hA hval
  obtain ⟨v0, vs0, d0, ds0, p0, q0, hargs, rfl, rfl, h0, r0⟩ := trodAll_cons hA
  obtain ⟨v1, vs1, d1, ds1, p1, q1, rfl, rfl, rfl, h1, r1⟩ := trodAll_cons r0
  obtain ⟨rfl, rfl, rfl⟩ := trodAll_nil r1
  obtain rfl : args = #[v0, v1] := by cases args; simp_all
  obtain ⟨rfl, rfl⟩ := trodVars_none hV
  have k0 := h0
  have lt0 : ∀ x ∈ p0, x.block < W.heap.size := by obtain ⟨m, hm⟩ := k0; exact DataW.trod_lt m _ _ _ hm
  obtain ⟨a0, w0, u0⟩ := raw_open (hval 0 23 v0 rfl rfl) h0
  have k1 := h1
  have lt1 : ∀ x ∈ p1, x.block < W.heap.size := by obtain ⟨m, hm⟩ := k1; exact DataW.trod_lt m _ _ _ hm
  obtain ⟨a1, w1, u1⟩ := raw_open (hval 1 23 v1 rfl rfl) h1
  clear hA0 hval0
  refine (calls_of_fn Try.func9 (by kernel_rfl) rfl (fnInverseBack a0 a1 w0 w1) (fun _ _ h => by cases h) (VRs.cons (u0 _) (VRs.cons (u1 _) VRs.snoc_nil))).mono fun e W' ⟨he, bel⟩ => ?_
  subst he
  exact ⟨_, rfl, _, _, _, [], _, [], hW', trodAll_mk1 (shut_bool Try.underlying4 _), (trodAll_cons_mk (Below.trod rowLaid (by kernel_rfl) (of_decide_eq_true (by kernel_rfl)) k0 bel lt0) (trodAll_cons_mk (Below.trod rowLaid (by kernel_rfl) (of_decide_eq_true (by kernel_rfl)) k1 bel lt1) trodAll_mk0)), rfl, bel.frame _, fun h => by cases h⟩
theorem over : Rows.inverseBackRow.holds Try.pinned (OpenSpec.ofChange Rows.inverseBackSpec) :=
  OpenClaim.holds_of_wide 9 Try.f9 rfl rfl rfl rfl rfl rfl rfl ⟨rfl, rfl, rfl, rfl, rfl⟩ rfl rfl rfl rfl rfl (by kernel_rfl) Try.func9 (by kernel_rfl)
    (of_decide_eq_true (by kernel_rfl)) (by unfold Func.isWrapper; first | (rw [if_pos (by decide +kernel)]; kernel_rfl) | (rw [if_neg (by decide +kernel)]; exact ⟨rfl, rfl⟩))
    (fun os started H enc _ => lifted os started H enc)
theorem proved : Rows.InverseBackSaid := over
end lawInverseBack

end Go.Proofs.Ytbbihbcfeihhiaa
