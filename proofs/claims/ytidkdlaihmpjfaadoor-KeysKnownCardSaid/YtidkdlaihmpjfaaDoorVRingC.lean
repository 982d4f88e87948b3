/- curve.ring: its methods, by the engine. -/
import Derived.Test.YtidkdlaihmpjfaaDoorVGroupN
import Derived.Test.YtidkdlaihmpjfaaDoorVInv
namespace Go.Proofs.YtidkdlaihmpjfaaDoor
set_option linter.unusedVariables false
set_option linter.unusedSimpArgs false
set_option linter.unusedSectionVars false
open Go.ChangeShapes Go.WideShapes Go.ChangeAt Go.RowKit Go.Joins
set_option maxRecDepth 10000
noncomputable def ringV (m h : Nat) : VV := .agg (uC m ++ [.ptr h 0])
def HB (f : Bool) : HL := [(0, some [bI f])]
theorem outHB (f : Bool) : outH 1 (HB f) 1 := ⟨trivial, fun cs h => (Option.some.inj (show some [bI f] = some cs from h)) ▸ rfl⟩
theorem outHB0 (f : Bool) : outH 1 (HB f) 0 := trivial
theorem take_ok {m : Nat} (a : Nat) (f : Bool) : FnH Tryd.prog G0 82 [ringV m 0, uV a, nI .i64 0] (HB f) 1 (uV a) (HB f) 0 := by
  unfold ringV HB
  refine fnH_of_vwp Γok G0ok Tryd.func82 (by kernel_rfl) rfl (by simp [Tryd.ntmps82]) (wpv_ok Γok (by kernel_rfl) _ _ _ ?_); conv => whnf
  exact ⟨_, rfl, [(0, some 0)], rfl, rfl, .same (words_noHs _), ⟨.inr ⟨_, _, rfl, rfl, .same rfl⟩, trivial⟩⟩
theorem take_bad {m : Nat} (a : Nat) (f : Bool) : FnH Tryd.prog G0 82 [ringV m 0, uV a, nI .i64 5] (HB f) 1 (uV a) (HB true) 0 := by
  unfold ringV HB
  refine fnH_of_vwp Γok G0ok Tryd.func82 (by kernel_rfl) rfl (by simp [Tryd.ntmps82]) (wpv_ok Γok (by kernel_rfl) _ _ _ ?_); conv => whnf
  exact ⟨_, rfl, [(0, some 0)], rfl, rfl, .same (words_noHs _), ⟨.inr ⟨_, _, rfl, rfl, .same rfl⟩, trivial⟩⟩
theorem ringOf_fnH (c : CvD) : FnH Tryd.prog G0 71 [c.v] [] 0 (ringV c.P 0) (HB false) 1 := by
  unfold ringV HB CvD.v CvD.cells
  refine fnH_of_vwp Γok G0ok Tryd.func71 (by kernel_rfl) rfl (by simp [Tryd.ntmps71]) (wpv_ok Γok (by kernel_rfl) _ _ _ ?_); conv => whnf
  exact ⟨_, rfl, [(0, some 2)], rfl, rfl, .agg (.cons (.same rfl) (.cons (.same rfl) (.cons (.same rfl) (.cons (.same rfl) (.cons (.ptr rfl) .nil))))), ⟨.inr ⟨_, _, rfl, rfl, .same rfl⟩, trivial⟩⟩
theorem radd_fnH {a b m : Nat} (f : Bool) (ha : a < m) (hb : b < m) (hm : m < T256) : FnH Tryd.prog G0 74 [ringV m 0, uV a, uV b] (HB f) 1 (uV (addM m a b)) (HB f) 0 := by
  have h := take_ok (m := m) (addM m a b) f
  have t := add_by ha hb hm
  unfold ringV HB at *
  refine fnH_of_vwp Γok G0ok Tryd.func74 (by kernel_rfl) rfl (by simp [Tryd.ntmps74]) (wpv_ok Γok (by kernel_rfl) _ _ _ ?_); conv => whnf
  refine ⟨_, ret_of_fn G0ok (t) (by first | rfl | simp only [noHs, noH, nI, bI, Bool.and_self, Bool.and_true, Bool.true_and, ]) (by first | rfl | simp only [noHs, noH, nI, bI, Bool.and_self, Bool.and_true, Bool.true_and, ]), ?_⟩; (conv => whnf); (try (refine ⟨by kernel_rfl, ?_⟩; conv => whnf))
  refine ⟨_, ret_fnH G0ok h [0] (res' := uV (addM m a b)) rfl rfl rfl rfl rfl ⟨trivial, _, rfl, rfl, rfl⟩ (outHB _) rfl rfl (upd := [(0, some [bI f])]) (by rfl), ?_⟩
  conv => whnf
  try (refine ⟨by kernel_rfl, ?_⟩; conv => whnf)
  exact ⟨_, rfl, [(0, some 0)], rfl, rfl, .same (words_noHs _), ⟨.inr ⟨_, _, rfl, rfl, .same rfl⟩, trivial⟩⟩
theorem rsub_fnH {a b m : Nat} (f : Bool) (ha : a < m) (hb : b < m) (hm : m < T256) : FnH Tryd.prog G0 90 [ringV m 0, uV a, uV b] (HB f) 1 (uV (subM m a b)) (HB f) 0 := by
  have h := take_ok (m := m) (subM m a b) f
  have t := sub_by ha hb hm
  unfold ringV HB at *
  refine fnH_of_vwp Γok G0ok Tryd.func90 (by kernel_rfl) rfl (by simp [Tryd.ntmps90]) (wpv_ok Γok (by kernel_rfl) _ _ _ ?_); conv => whnf
  refine ⟨_, ret_of_fn G0ok (t) (by first | rfl | simp only [noHs, noH, nI, bI, Bool.and_self, Bool.and_true, Bool.true_and, ]) (by first | rfl | simp only [noHs, noH, nI, bI, Bool.and_self, Bool.and_true, Bool.true_and, ]), ?_⟩; (conv => whnf); (try (refine ⟨by kernel_rfl, ?_⟩; conv => whnf))
  refine ⟨_, ret_fnH G0ok h [0] (res' := uV (subM m a b)) rfl rfl rfl rfl rfl ⟨trivial, _, rfl, rfl, rfl⟩ (outHB _) rfl rfl (upd := [(0, some [bI f])]) (by rfl), ?_⟩
  conv => whnf
  try (refine ⟨by kernel_rfl, ?_⟩; conv => whnf)
  exact ⟨_, rfl, [(0, some 0)], rfl, rfl, .same (words_noHs _), ⟨.inr ⟨_, _, rfl, rfl, .same rfl⟩, trivial⟩⟩
theorem rmul_fnH {a b m : Nat} (f : Bool) (ha : a < m) (hb : b < m) (hm : m < T256) : FnH Tryd.prog G0 72 [ringV m 0, uV a, uV b] (HB f) 1 (uV (mulM m a b)) (HB f) 0 := by
  have h := take_ok (m := m) (mulM m a b) f
  have t := mul_by ha hb hm
  unfold ringV HB at *
  refine fnH_of_vwp Γok G0ok Tryd.func72 (by kernel_rfl) rfl (by simp [Tryd.ntmps72]) (wpv_ok Γok (by kernel_rfl) _ _ _ ?_); conv => whnf
  refine ⟨_, ret_of_fn G0ok (t) (by first | rfl | simp only [noHs, noH, nI, bI, Bool.and_self, Bool.and_true, Bool.true_and, ]) (by first | rfl | simp only [noHs, noH, nI, bI, Bool.and_self, Bool.and_true, Bool.true_and, ]), ?_⟩; (conv => whnf); (try (refine ⟨by kernel_rfl, ?_⟩; conv => whnf))
  refine ⟨_, ret_fnH G0ok h [0] (res' := uV (mulM m a b)) rfl rfl rfl rfl rfl ⟨trivial, _, rfl, rfl, rfl⟩ (outHB _) rfl rfl (upd := [(0, some [bI f])]) (by rfl), ?_⟩
  conv => whnf
  try (refine ⟨by kernel_rfl, ?_⟩; conv => whnf)
  exact ⟨_, rfl, [(0, some 0)], rfl, rfl, .same (words_noHs _), ⟨.inr ⟨_, _, rfl, rfl, .same rfl⟩, trivial⟩⟩
theorem rinv_ok {a m : Nat} (f : Bool) (ha : a < m) (hm : m < T256) (hg : Nat.gcd a m = 1) : FnH Tryd.prog G0 91 [ringV m 0, uV a] (HB f) 1 (uV (invM m a)) (HB f) 0 := by
  have h := take_ok (m := m) (invM m a) f
  have t := inv_all ha hm
  have e1 : invR a m = invM m a := by unfold invR; rw [if_pos hg]
  have e2 : invE a m = 0 := by unfold invE; rw [if_pos hg]
  rw [e1, e2] at t
  unfold ringV HB at *
  refine fnH_of_vwp Γok G0ok Tryd.func91 (by kernel_rfl) rfl (by simp [Tryd.ntmps91]) (wpv_ok Γok (by kernel_rfl) _ _ _ ?_); conv => whnf
  refine ⟨_, ret_of_fn G0ok (t) (by first | rfl | simp only [noHs, noH, nI, bI, Bool.and_self, Bool.and_true, Bool.true_and, ]) (by first | rfl | simp only [noHs, noH, nI, bI, Bool.and_self, Bool.and_true, Bool.true_and, ]), ?_⟩; (conv => whnf); (try (refine ⟨by kernel_rfl, ?_⟩; conv => whnf))
  refine ⟨_, ret_fnH G0ok h [0] (res' := uV (invM m a)) rfl rfl rfl rfl rfl ⟨trivial, _, rfl, rfl, rfl⟩ (outHB _) rfl rfl (upd := [(0, some [bI f])]) (by rfl), ?_⟩
  conv => whnf
  try (refine ⟨by kernel_rfl, ?_⟩; conv => whnf)
  exact ⟨_, rfl, [(0, some 0)], rfl, rfl, .same (words_noHs _), ⟨.inr ⟨_, _, rfl, rfl, .same rfl⟩, trivial⟩⟩
theorem rinv_bad {a m : Nat} (f : Bool) (ha : a < m) (hm : m < T256) (hg : Nat.gcd a m ≠ 1) : FnH Tryd.prog G0 91 [ringV m 0, uV a] (HB f) 1 (uV 0) (HB true) 0 := by
  have h := take_bad (m := m) 0 f
  have t := inv_all ha hm
  have e1 : invR a m = 0 := by unfold invR; rw [if_neg hg]
  have e2 : invE a m = 5 := by unfold invE; rw [if_neg hg]
  rw [e1, e2] at t
  unfold ringV HB at *
  refine fnH_of_vwp Γok G0ok Tryd.func91 (by kernel_rfl) rfl (by simp [Tryd.ntmps91]) (wpv_ok Γok (by kernel_rfl) _ _ _ ?_); conv => whnf
  refine ⟨_, ret_of_fn G0ok (t) (by first | rfl | simp only [noHs, noH, nI, bI, Bool.and_self, Bool.and_true, Bool.true_and, ]) (by first | rfl | simp only [noHs, noH, nI, bI, Bool.and_self, Bool.and_true, Bool.true_and, ]), ?_⟩; (conv => whnf); (try (refine ⟨by kernel_rfl, ?_⟩; conv => whnf))
  refine ⟨_, ret_fnH G0ok h [0] (res' := uV 0) rfl rfl rfl rfl rfl ⟨trivial, _, rfl, rfl, rfl⟩ (outHB _) rfl rfl (upd := [(0, some [bI true])]) (by rfl), ?_⟩
  conv => whnf
  try (refine ⟨by kernel_rfl, ?_⟩; conv => whnf)
  exact ⟨_, rfl, [(0, some 0)], rfl, rfl, .same (words_noHs _), ⟨.inr ⟨_, _, rfl, rfl, .same rfl⟩, trivial⟩⟩
theorem rsmall_fnH {n m : Nat} (f : Bool) (hn : n < B64) (h0 : 0 < m) (hm : m < T256) : FnH Tryd.prog G0 73 [ringV m 0, nI .u64 n] (HB f) 1 (uV (modN n m)) (HB f) 0 := by
  have t := div_pos (a := n) (b := m) (by rw [T256_lit]; unfold B64 at hn; omega) hm h0
  rw [show uV n = .agg (words [n, 0, 0, 0]) from congrArg VV.agg (uC_lit hn)] at t
  unfold ringV HB at *
  refine fnH_of_vwp Γok G0ok Tryd.func73 (by kernel_rfl) rfl (by simp [Tryd.ntmps73]) (wpv_ok Γok (by kernel_rfl) _ _ _ ?_); conv => whnf
  refine ⟨_, ret_of_fn G0ok (t) (by first | rfl | simp only [noHs, noH, nI, bI, Bool.and_self, Bool.and_true, Bool.true_and, ]) (by first | rfl | simp only [noHs, noH, nI, bI, Bool.and_self, Bool.and_true, Bool.true_and, ]), ?_⟩; (conv => whnf); (try (refine ⟨by kernel_rfl, ?_⟩; conv => whnf))
  exact ⟨_, rfl, [(0, some 0)], rfl, rfl, .same (words_noHs _), ⟨.inr ⟨_, _, rfl, rfl, .same rfl⟩, trivial⟩⟩
end Go.Proofs.YtidkdlaihmpjfaaDoor
