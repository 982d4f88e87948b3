/- field.Inv by the engine. -/
import Derived.Test.YtidkdlaihmpjfaaDoorVPow
import Derived.Test.YtidkdlaihmpjfaaDoorVInvN
namespace Go.Proofs.YtidkdlaihmpjfaaDoor
set_option linter.unusedVariables false
set_option linter.unusedSimpArgs false
set_option linter.unusedSectionVars false
open Go.ChangeShapes Go.WideShapes Go.ChangeAt Go.RowKit Go.Joins
set_option maxRecDepth 10000
structure EuS where
  r : Nat
  s : Nat
  u : Nat
  t : Nat
noncomputable def invR (a m : Nat) : Nat := if Nat.gcd a m = 1 then invM m a else 0
noncomputable def invE (a m : Nat) : Int := if Nat.gcd a m = 1 then 0 else 5
theorem inv_all {a m : Nat} (ha : a < m) (hm : m < T256) : FnV Tryd.prog G0 62 [uV a, uV m] (.tup [uV (invR a m), nI .i64 (invE a m)]) := by
  have d := div_pos (a := 1) (by decide) hm (show 0 < m by omega)
  rw [show uV 1 = .agg (words [1, 0, 0, 0]) from congrArg VV.agg (uC_lit (n := 1) (by decide))] at d
  have hz := euclid_zero ha
  rw [← modN_def] at hz
  refine fn_of_vwp Γok Tryd.func62 (by kernel_rfl) rfl (by simp [Tryd.ntmps62]) (wpv_ok Γok (by kernel_rfl) _ _ _ ?_); conv => whnf
  refine .read 1 (uC a) rfl rfl (by rfl) (by rfl) ?_
  conv => whnf
  try (refine ⟨by kernel_rfl, ?_⟩; conv => whnf)
  refine ⟨_, ret_of_fn G0ok (fault1_fn ha hm) (by first | rfl | simp only [noHs, noH, nI, bI, Bool.and_self, Bool.and_true, Bool.true_and, ]) (by first | rfl | simp only [noHs, noH, nI, bI, Bool.and_self, Bool.and_true, Bool.true_and, ]), ?_⟩; (conv => whnf); (try (refine ⟨by kernel_rfl, ?_⟩; conv => whnf))
  refine ⟨_, ret_of_fn G0ok (d) (by first | rfl | simp only [noHs, noH, nI, bI, Bool.and_self, Bool.and_true, Bool.true_and, ]) (by first | rfl | simp only [noHs, noH, nI, bI, Bool.and_self, Bool.and_true, Bool.true_and, ]), ?_⟩; (conv => whnf); (try (refine ⟨by kernel_rfl, ?_⟩; conv => whnf))
  refine vloop_invK G0ok [(0, some 1), (1, some 5), (2, some 6), (3, some 7), (4, some 8), (5, some 2)] 6 (X := EuS)
    (fun x => [(12, .ptr 4 0), (11, .ptr 3 0), (10, .ptr 2 0), (8, .ptr 1 0), (4, .ptr 5 0), (3, .ptr 0 0)])
    (fun x => [(0, some (uC m)), (1, some (uC x.t)), (2, some (uC x.r)), (3, some (uC x.s)), (4, some (uC x.u)), (5, some (words [0, 0, 0, 0]))])
    (fun x => euclid m a x.r x.s x.u x.t) (fun x => x.s) ⟨m, a, 0, modN 1 m⟩ rfl ⟨⟨_, rfl, .ptr rfl⟩, ⟨_, rfl, .ptr rfl⟩, ⟨_, rfl, .ptr rfl⟩, ⟨_, rfl, .ptr rfl⟩, ⟨_, rfl, .ptr rfl⟩, ⟨_, rfl, .ptr rfl⟩, trivial⟩ ⟨.inr ⟨_, _, rfl, rfl, convs_eq rfl (words_noHs _)⟩, .inr ⟨_, _, rfl, rfl, convs_eq rfl (words_noHs _)⟩, .inr ⟨_, _, rfl, rfl, convs_eq rfl (words_noHs _)⟩, .inr ⟨_, _, rfl, rfl, convs_eq rfl (words_noHs _)⟩, .inr ⟨_, _, rfl, rfl, convs_eq ((uC_lit (n := 0) (by decide)).symm) (words_noHs _)⟩, .inr ⟨_, _, rfl, rfl, convs_eq rfl (rfl)⟩, trivial⟩ hz ?_
  intro ⟨r, s, u, t⟩ hI
  dsimp only at hI ⊢
  obtain ⟨i1, i2, i3, i4, i5, i6, i7⟩ := id hI
  refine wpv_ok Γok (by kernel_rfl) _ _ _ ?_; conv => whnf
  refine ⟨_, ne_zero (by omega), ?_⟩
  by_cases hs : s = 0
  · subst hs
    rw [decide_eq_true rfl]
    conv => whnf
    try (refine ⟨by kernel_rfl, ?_⟩; conv => whnf)
    obtain ⟨e1, e2⟩ := euclid_end hI
    have hn := ne_uC (a := r) (b := 1) (by omega) (by decide)
    rw [uC_lit (n := 1) (by decide)] at hn
    refine ⟨_, hn, ?_⟩
    unfold invR invE
    by_cases h1 : r = 1
    · rw [decide_eq_true h1, if_pos (by omega), if_pos (by omega), ← invM_of (e2 h1)]
      conv => whnf
      try (refine ⟨by kernel_rfl, ?_⟩; conv => whnf)
      exact ⟨_, rfl, rfl⟩
    · rw [decide_eq_false h1, if_neg (by omega), if_neg (by omega)]
      conv => whnf
      try (refine ⟨by kernel_rfl, ?_⟩; conv => whnf)
      exact ⟨_, rfl, congrArg some (congrArg VV.tup (congrArg (fun x => [x, nI .i64 5]) uV_zero.symm))⟩
  · have hst := euclid_step hI (by omega)
    have q1 := divN_lt (a := r) s (by omega)
    have q2 : modN (divN r s) m < m := by rw [modN_def]; exact Nat.mod_lt _ (by omega)
    rw [← divN_def, ← modN_def, ← modN_def] at hst
    rw [decide_eq_false hs]
    conv => whnf
    try (refine ⟨by kernel_rfl, ?_⟩; conv => whnf)
    refine ⟨_, ret_of_fn G0ok (div_pos (a := r) (b := s) (by omega) (by omega) (by omega)) (by first | rfl | simp only [noHs, noH, nI, bI, Bool.and_self, Bool.and_true, Bool.true_and, ]) (by first | rfl | simp only [noHs, noH, nI, bI, Bool.and_self, Bool.and_true, Bool.true_and, ]), ?_⟩; (conv => whnf); (try (refine ⟨by kernel_rfl, ?_⟩; conv => whnf))
    refine ⟨_, ret_of_fn G0ok (div_pos (a := divN r s) (b := m) q1 hm (by omega)) (by first | rfl | simp only [noHs, noH, nI, bI, Bool.and_self, Bool.and_true, Bool.true_and, ]) (by first | rfl | simp only [noHs, noH, nI, bI, Bool.and_self, Bool.and_true, Bool.true_and, ]), ?_⟩; (conv => whnf); (try (refine ⟨by kernel_rfl, ?_⟩; conv => whnf))
    refine ⟨_, ret_of_fn G0ok (fmul_fn q2 (b := t) (by omega) hm) (by first | rfl | simp only [noHs, noH, nI, bI, Bool.and_self, Bool.and_true, Bool.true_and, ]) (by first | rfl | simp only [noHs, noH, nI, bI, Bool.and_self, Bool.and_true, Bool.true_and, ]), ?_⟩; (conv => whnf); (try (refine ⟨by kernel_rfl, ?_⟩; conv => whnf))
    refine ⟨_, ret_of_fn G0ok (fsub_fn i3 (mulM_lt (a := modN (divN r s) m) (b := t) (by omega)) hm) (by first | rfl | simp only [noHs, noH, nI, bI, Bool.and_self, Bool.and_true, Bool.true_and, ]) (by first | rfl | simp only [noHs, noH, nI, bI, Bool.and_self, Bool.and_true, Bool.true_and, ]), ?_⟩; (conv => whnf); (try (refine ⟨by kernel_rfl, ?_⟩; conv => whnf))
    refine next_round (y := ⟨r, s, u, t⟩) (μ := fun x : EuS => x.s) (I := fun x : EuS => euclid m a x.r x.s x.u x.t) G0ok ⟨s, modN r s, t, subM m u (mulM m (modN (divN r s) m) t)⟩ [(0, some 0), (1, some 1), (2, some 2), (3, some 3), (4, some 4), (5, some 5)] rfl ⟨⟨_, rfl, .ptr rfl⟩, ⟨_, rfl, .ptr rfl⟩, ⟨_, rfl, .ptr rfl⟩, ⟨_, rfl, .ptr rfl⟩, ⟨_, rfl, .ptr rfl⟩, ⟨_, rfl, .ptr rfl⟩, trivial⟩ ⟨.inr ⟨_, _, rfl, rfl, convs_eq rfl (words_noHs _)⟩, .inr ⟨_, _, rfl, rfl, convs_eq rfl (words_noHs _)⟩, .inr ⟨_, _, rfl, rfl, convs_eq rfl (words_noHs _)⟩, .inr ⟨_, _, rfl, rfl, convs_eq rfl (words_noHs _)⟩, .inr ⟨_, _, rfl, rfl, convs_eq rfl (words_noHs _)⟩, .inr ⟨_, _, rfl, rfl, convs_eq rfl (rfl)⟩, trivial⟩ hst ?_
    rw [modN_def]
    exact Nat.mod_lt _ (by omega)
end Go.Proofs.YtidkdlaihmpjfaaDoor
