/- basculekeep.ring of one raw thing, by the engine; what fieldTells tells. -/
import Derived.Test.YtbbihbcfeihhiaaVRing
namespace Go.Proofs.Ytbbihbcfeihhiaa
set_option linter.unusedVariables false
set_option linter.unusedSimpArgs false
set_option linter.unusedSectionVars false
open Go.ChangeShapes Go.WideShapes Go.ChangeAt Go.RowKit Go.Joins
set_option maxRecDepth 10000
theorem one_pos (n : Nat) : 0 < oneR n := by unfold oneR; split <;> omega
theorem one_lt {n : Nat} (h : n < T256) : oneR n < T256 := by unfold oneR; rw [T256_lit] at *; split <;> omega
theorem ring1_fn (m x : RawD) : FnV Try.prog G0 21 [m.v, .ds false 1 x.cells] (.tup [uV (oneR (rawN m)), .ds false 1 (uC (modN (rawN x) (oneR (rawN m))))]) := by
  have h0 := rawN_lt m
  have h1 := rawN_lt x
  have n0 := number_fn m
  have n1 := number_fn x
  unfold RawD.v RawD.cells at *
  refine gen_ex (rawN m) fun M hM => ?_
  refine gen_ex (rawN x) fun X hX => ?_
  rw [← hM] at h0 n0 ⊢
  rw [← hX] at h1 n1 ⊢
  clear hM hX
  have hpos : 0 < oneR M := one_pos M
  have hlt : oneR M < T256 := one_lt h0
  have d1 := div_pos h1 hlt hpos
  have e1 : M = 0 → oneR M = 1 := fun h => by unfold oneR; rw [if_pos h]
  have e2 : M ≠ 0 → oneR M = M := fun h => by unfold oneR; rw [if_neg h]
  have hu : uC 1 = words [1, 0, 0, 0] := uC_lit (n := 1) (by decide)
  refine gen_ex (oneR M) fun N hN => ?_
  rw [← hN] at hpos hlt d1 e1 e2 ⊢
  clear hN
  refine fn_of_vwp Γok Try.func21 (by kernel_rfl) rfl (by simp [Try.ntmps21]) (wpv_ok Γok (by kernel_rfl) _ _ _ ?_); conv => whnf
  refine ⟨_, ret_of_fn G0ok (n0) (by first | rfl | simp only [noHs, noH, nI, bI, Bool.and_self, Bool.and_true, Bool.true_and, ]) (by first | rfl | simp only [noHs, noH, nI, bI, Bool.and_self, Bool.and_true, Bool.true_and, ]), ?_⟩; (conv => whnf); (try (refine ⟨by kernel_rfl, ?_⟩; conv => whnf))
  refine ⟨_, eq_zero h0, ?_⟩
  by_cases hz : M = 0
  case' pos =>
    have eN := e1 hz
    rw [decide_eq_true hz]
    conv => whnf
    try (refine ⟨by kernel_rfl, ?_⟩; conv => whnf)
  case' neg =>
    have eN := e2 hz
    subst eN
    rw [decide_eq_false hz]
    conv => whnf
    try (refine ⟨by kernel_rfl, ?_⟩; conv => whnf)
  all_goals
    refine vloop_clean G0ok [(0, some 0), (1, some 1), (2, some 2)] 3 [(21, nI .i64 0), (20, nI .i64 1), (19, .ds false 1 [nI .i64 x.k, nI .i64 x.a, nI .i64 x.b, .v (.string x.s)]), (7, .ds true 0 []), (6, .ptr 2 0), (5, .ds true 0 []), (4, .ptr 1 0), (2, .ptr 0 0)] [(0, some [nI .i64 m.k, nI .i64 m.a, nI .i64 m.b, .v (.string m.s)]), (1, some (words [0, 0, 0, 0])), (2, some (uC N))] rfl ⟨⟨_, rfl, conv_nI (rfl)⟩, ⟨_, rfl, conv_nI (rfl)⟩, ⟨_, rfl, .same rfl⟩, ⟨_, rfl, .same rfl⟩, ⟨_, rfl, .ptr rfl⟩, ⟨_, rfl, .same rfl⟩, ⟨_, rfl, .ptr rfl⟩, ⟨_, rfl, .ptr rfl⟩, trivial⟩ ⟨.inr ⟨_, _, rfl, rfl, convs_eq rfl (rfl)⟩, .inr ⟨_, _, rfl, rfl, convs_eq rfl (words_noHs _)⟩, .inr ⟨_, _, rfl, rfl, convs_eq (by first|rfl|exact ((congrArg uC eN).trans hu).symm) (words_noHs _)⟩, trivial⟩ ?_
    clear n0 h0 e1 e2 hz
    refine vloop_unroll ?_
    refine wpv_ok Γok (by kernel_rfl) _ _ _ ?_; conv => whnf
    conv => whnf
    try (refine ⟨by kernel_rfl, ?_⟩; conv => whnf)
    refine ⟨_, ret_of_fn G0ok (n1) (by first | rfl | simp only [noHs, noH, nI, bI, Bool.and_self, Bool.and_true, Bool.true_and, ]) (by first | rfl | simp only [noHs, noH, nI, bI, Bool.and_self, Bool.and_true, Bool.true_and, ]), ?_⟩; (conv => whnf); (try (refine ⟨by kernel_rfl, ?_⟩; conv => whnf))
    refine ⟨_, ret_of_fn G0ok (d1) (by first | rfl | simp only [noHs, noH, nI, bI, Bool.and_self, Bool.and_true, Bool.true_and, ]) (by first | rfl | simp only [noHs, noH, nI, bI, Bool.and_self, Bool.and_true, Bool.true_and, ]), ?_⟩; (conv => whnf); (try (refine ⟨by kernel_rfl, ?_⟩; conv => whnf))
    refine .read 1 (uC (modN X N)) rfl rfl (by rfl) (by rfl) ?_
    conv => whnf
    try (refine ⟨by kernel_rfl, ?_⟩; conv => whnf)
    refine .read 1 (uC (modN X N)) (by rfl) (by rfl) (by rfl) (by rfl) ?_
    conv => whnf
    try (refine ⟨by kernel_rfl, ?_⟩; conv => whnf)
    rw [ws_i64 (by decide) (by decide)]
    conv => whnf
    try (refine ⟨by kernel_rfl, ?_⟩; conv => whnf)
    refine vloop_unroll ?_
    refine wpv_ok Γok (by kernel_rfl) _ _ _ ?_; conv => whnf
    conv => whnf
    try (refine ⟨by kernel_rfl, ?_⟩; conv => whnf)
    exact ⟨_, rfl, rfl⟩
end Go.Proofs.Ytbbihbcfeihhiaa
