/- curve.side, on, Check, fault, On by the engine. -/
import Derived.Test.YtidkdlaihmpjfaaDoorVRingC
namespace Go.Proofs.YtidkdlaihmpjfaaDoor
set_option linter.unusedVariables false
set_option linter.unusedSimpArgs false
set_option linter.unusedSectionVars false
open Go.ChangeShapes Go.WideShapes Go.ChangeAt Go.RowKit Go.Joins
set_option maxRecDepth 10000
noncomputable def sideM (c : CvD) (x : Nat) : Nat := addM c.P (addM c.P (mulM c.P x (mulM c.P x x)) (mulM c.P c.A x)) c.B
theorem side_fnH {c : CvD} {x : Nat} (f : Bool) (hP : c.P < T256) (hA : c.A < c.P) (hB : c.B < c.P) (hx : x < c.P) : FnH Tryd.prog G0 84 [c.v, ringV c.P 0, uV x] (HB f) 1 (uV (sideM c x)) (HB f) 0 := by
  have hp : 0 < c.P := by omega
  have t1 := rmul_fnH f hx hx hP
  have t2 := rmul_fnH f hx (mulM_lt (a := x) (b := x) hp) hP
  have t3 := rmul_fnH f hA hx hP
  have t4 := radd_fnH f (mulM_lt (a := x) (b := mulM c.P x x) hp) (mulM_lt (a := c.A) (b := x) hp) hP
  have t5 := radd_fnH f (addM_lt (a := mulM c.P x (mulM c.P x x)) (b := mulM c.P c.A x) hp) hB hP
  unfold CvD.v CvD.cells ringV HB sideM at *
  refine fnH_of_vwp Γok G0ok Tryd.func84 (by kernel_rfl) rfl (by simp [Tryd.ntmps84]) (wpv_ok Γok (by kernel_rfl) _ _ _ ?_); conv => whnf
  refine ⟨_, ret_fnH G0ok (t1) [0] (res' := uV (mulM c.P x x)) rfl rfl rfl rfl rfl ⟨trivial, _, rfl, rfl, rfl⟩ (outHB _) rfl rfl (upd := [(0, some [bI f])]) (by rfl), ?_⟩; (conv => whnf); (try (refine ⟨by kernel_rfl, ?_⟩; conv => whnf))
  refine ⟨_, ret_fnH G0ok (t2) [0] (res' := uV (mulM c.P x (mulM c.P x x))) rfl rfl rfl rfl rfl ⟨trivial, _, rfl, rfl, rfl⟩ (outHB _) rfl rfl (upd := [(0, some [bI f])]) (by rfl), ?_⟩; (conv => whnf); (try (refine ⟨by kernel_rfl, ?_⟩; conv => whnf))
  refine ⟨_, ret_fnH G0ok (t3) [0] (res' := uV (mulM c.P c.A x)) rfl rfl rfl rfl rfl ⟨trivial, _, rfl, rfl, rfl⟩ (outHB _) rfl rfl (upd := [(0, some [bI f])]) (by rfl), ?_⟩; (conv => whnf); (try (refine ⟨by kernel_rfl, ?_⟩; conv => whnf))
  refine ⟨_, ret_fnH G0ok (t4) [0] (res' := uV (addM c.P (mulM c.P x (mulM c.P x x)) (mulM c.P c.A x))) rfl rfl rfl rfl rfl ⟨trivial, _, rfl, rfl, rfl⟩ (outHB _) rfl rfl (upd := [(0, some [bI f])]) (by rfl), ?_⟩; (conv => whnf); (try (refine ⟨by kernel_rfl, ?_⟩; conv => whnf))
  refine ⟨_, ret_fnH G0ok (t5) [0] (res' := uV (addM c.P (addM c.P (mulM c.P x (mulM c.P x x)) (mulM c.P c.A x)) c.B)) rfl rfl rfl rfl rfl ⟨trivial, _, rfl, rfl, rfl⟩ (outHB _) rfl rfl (upd := [(0, some [bI f])]) (by rfl), ?_⟩; (conv => whnf); (try (refine ⟨by kernel_rfl, ?_⟩; conv => whnf))
  exact ⟨_, rfl, [(0, some 0)], rfl, rfl, .same (words_noHs _), ⟨.inr ⟨_, _, rfl, rfl, .same rfl⟩, trivial⟩⟩
theorem sideM_lt {c : CvD} {x : Nat} (h : 0 < c.P) : sideM c x < c.P := by unfold sideM; exact addM_lt h
noncomputable def onB (c : CvD) (p : PtD) : Bool := if p.far = true then decide (p.x = 0) && decide (p.y = 0) else decide (mulM c.P p.y p.y = sideM c p.x)
theorem on_fn {c : CvD} {p : PtD} (hP : c.P < T256) (hA : c.A < c.P) (hB : c.B < c.P) (hp : p.lt c.P) : FnV Tryd.prog G0 75 [c.v, p.v] (bI (onB c p)) := by
  obtain ⟨hx, hy⟩ := hp
  have h0 : 0 < c.P := by omega
  have r0 := ringOf_fnH c
  have t1 := rmul_fnH false hy hy hP
  have t2 := side_fnH false hP hA hB hx
  have c1 := cmp_fn (a := p.x) (b := c.P) (by omega) hP
  have c2 := cmp_fn (a := p.y) (b := c.P) (by omega) hP
  rw [cmpN_lt hx] at c1
  rw [cmpN_lt hy] at c2
  have e1 := eq_zero (a := p.x) (by omega)
  have e2 := eq_zero (a := p.y) (by omega)
  have e3 := eq_uC (a := mulM c.P p.y p.y) (b := sideM c p.x) (by have := mulM_lt (m := c.P) (a := p.y) (b := p.y) h0; omega) (by have := sideM_lt (c := c) (x := p.x) h0; omega)
  obtain ⟨x, y, far⟩ := p
  dsimp only at *
  unfold onB
  unfold CvD.v CvD.cells PtD.v PtD.cells ringV HB at *
  dsimp only at *
  cases far
  · rw [if_neg Bool.false_ne_true]
    refine fn_of_vwp Γok Tryd.func75 (by kernel_rfl) rfl (by simp [Tryd.ntmps75]) (wpv_ok Γok (by kernel_rfl) _ _ _ ?_); conv => whnf
    refine ⟨_, ret_of_fn G0ok (c1) (by first | rfl | simp only [noHs, noH, nI, bI, Bool.and_self, Bool.and_true, Bool.true_and, ]) (by first | rfl | simp only [noHs, noH, nI, bI, Bool.and_self, Bool.and_true, Bool.true_and, ]), ?_⟩; (conv => whnf); (try (refine ⟨by kernel_rfl, ?_⟩; conv => whnf))
    refine ⟨_, ret_of_fn G0ok (c2) (by first | rfl | simp only [noHs, noH, nI, bI, Bool.and_self, Bool.and_true, Bool.true_and, ]) (by first | rfl | simp only [noHs, noH, nI, bI, Bool.and_self, Bool.and_true, Bool.true_and, ]), ?_⟩; (conv => whnf); (try (refine ⟨by kernel_rfl, ?_⟩; conv => whnf))
    refine ⟨_, ret_fnH G0ok (r0) [] (res' := .agg (uC c.P ++ [.ptr 2 0])) rfl rfl rfl rfl rfl trivial (outHB _) rfl rfl (upd := [(2, some [bI false])]) (by rfl), ?_⟩; (conv => whnf); (try (refine ⟨by kernel_rfl, ?_⟩; conv => whnf))
    refine ⟨_, ret_fnH G0ok (t1) [2] (res' := uV (mulM c.P y y)) rfl rfl rfl rfl rfl ⟨trivial, _, rfl, rfl, rfl⟩ (outHB _) rfl rfl (upd := [(2, some [bI false])]) (by rfl), ?_⟩; (conv => whnf); (try (refine ⟨by kernel_rfl, ?_⟩; conv => whnf))
    refine ⟨_, ret_fnH G0ok (t2) [2] (res' := uV (sideM c x)) rfl rfl rfl rfl rfl ⟨trivial, _, rfl, rfl, rfl⟩ (outHB _) rfl rfl (upd := [(2, some [bI false])]) (by rfl), ?_⟩; (conv => whnf); (try (refine ⟨by kernel_rfl, ?_⟩; conv => whnf))
    refine ⟨_, e3, ?_⟩
    conv => whnf
    try (refine ⟨by kernel_rfl, ?_⟩; conv => whnf)
    exact ⟨_, rfl, rfl⟩
  · rw [if_pos rfl]
    refine fn_of_vwp Γok Tryd.func75 (by kernel_rfl) rfl (by simp [Tryd.ntmps75]) (wpv_ok Γok (by kernel_rfl) _ _ _ ?_); conv => whnf
    refine ⟨_, e1, ?_⟩
    by_cases h : x = 0
    · rw [decide_eq_true h]
      conv => whnf
      try (refine ⟨by kernel_rfl, ?_⟩; conv => whnf)
      refine ⟨_, e2, ?_⟩
      conv => whnf
      try (refine ⟨by kernel_rfl, ?_⟩; conv => whnf)
      exact ⟨_, rfl, rfl⟩
    · rw [decide_eq_false h]
      conv => whnf
      try (refine ⟨by kernel_rfl, ?_⟩; conv => whnf)
      exact ⟨_, rfl, rfl⟩
/-- A curve that passes. -/
structure Good (c : CvD) : Prop where
  p3 : 3 < c.P
  P : c.P < T256
  p4 : c.P % 4 = 3
  A : c.A < c.P
  B : c.B < c.P
  n1 : 1 < c.N
  N : c.N < T256
  X : c.X < c.P
  Y : c.Y < c.P
  disc : addM c.P (mulM c.P (modN 4 c.P) (mulM c.P c.A (mulM c.P c.A c.A))) (mulM c.P (modN 27 c.P) (mulM c.P c.B c.B)) ≠ 0
  base : mulM c.P c.Y c.Y = sideM c c.X
def CvD.base (c : CvD) : PtD := ⟨c.X, c.Y, false⟩
theorem lim0_mod {a : Nat} (k : Nat) : lim a 0 % 2 ^ k = if k ≤ 64 then a % 2 ^ k else lim a 0 % 2 ^ k := by
  split
  · rw [lim_def, Nat.pow_zero, Nat.div_one, B64_eq, show (2 : Nat) ^ 64 = 2 ^ k * 2 ^ (64 - k) by rw [← Nat.pow_add]; congr 1; omega, Nat.mod_mul_right_mod]
  · rfl
theorem chk_ok {c : CvD} (g : Good c) : FnV Tryd.prog G0 49 [c.v] (nI .i64 0) := by
  obtain ⟨p3, hP, p4, hA, hB, n1, hN, hX, hY, disc, base⟩ := g
  have h0 : 0 < c.P := by omega
  have r0 := ringOf_fnH c
  have u4 : ∀ {n : Nat}, n < B64 → uV n = .agg (words [n, 0, 0, 0]) := fun h => congrArg VV.agg (uC_lit h)
  have m3 : (modN 4 c.P) < c.P := by rw [modN_def]; exact Nat.mod_lt _ h0
  have m27 : (modN 27 c.P) < c.P := by rw [modN_def]; exact Nat.mod_lt _ h0
  have c1 := cmp_fn (a := c.P) (b := 3) hP (by decide)
  rw [cmpN_gt p3, u4 (n := 3) (by decide)] at c1
  have c2 := cmp_fn (a := c.A) (b := c.P) (by omega) hP
  rw [cmpN_lt hA] at c2
  have c3 := cmp_fn (a := c.B) (b := c.P) (by omega) hP
  rw [cmpN_lt hB] at c3
  have c4 := cmp_fn (a := c.N) (b := 1) hN (by decide)
  rw [cmpN_gt n1, u4 (n := 1) (by decide)] at c4
  have s4 := rsmall_fnH (n := 4) false (by decide) h0 hP
  have a1 := rmul_fnH false hA hA hP
  have a2 := rmul_fnH false hA (mulM_lt (a := c.A) (b := c.A) h0) hP
  have a3 := rmul_fnH false m3 (mulM_lt (a := c.A) (b := mulM c.P c.A c.A) h0) hP
  have s27 := rsmall_fnH (n := 27) false (by decide) h0 hP
  have b1 := rmul_fnH false hB hB hP
  have b2 := rmul_fnH false m27 (mulM_lt (a := c.B) (b := c.B) h0) hP
  have ab := radd_fnH false (mulM_lt (m := c.P) (a := modN 4 c.P) (b := mulM c.P c.A (mulM c.P c.A c.A)) h0) (mulM_lt (m := c.P) (a := modN 27 c.P) (b := mulM c.P c.B c.B) h0) hP
  have ez := eq_zero (a := addM c.P (mulM c.P (modN 4 c.P) (mulM c.P c.A (mulM c.P c.A c.A))) (mulM c.P (modN 27 c.P) (mulM c.P c.B c.B))) (Nat.lt_trans (addM_lt h0) hP)
  rw [decide_eq_false disc] at ez
  have on := on_fn (c := c) (p := c.base) hP hA hB ⟨hX, hY⟩
  have e1 : onB c c.base = true := by unfold onB; rw [if_neg (show ¬ c.base.far = true from Bool.false_ne_true)]; exact decide_eq_true base
  rw [e1] at on
  have ht : ((lim c.P 0 : Nat) : Int).tmod 4 = 3 := by
    have := lim0_mod (a := c.P) 2
    rw [if_pos (by decide)] at this
    have h4 : lim c.P 0 % 4 = 3 := this.trans p4
    rw [Int.tmod_eq_emod_of_nonneg (by omega)]
    omega
  unfold CvD.v CvD.cells PtD.v PtD.cells ringV HB CvD.base at *
  dsimp only at *
  refine fn_of_vwp Γok Tryd.func49 (by kernel_rfl) rfl (by simp [Tryd.ntmps49]) (wpv_ok Γok (by kernel_rfl) _ _ _ ?_); conv => whnf
  refine ⟨_, ret_of_fn G0ok (c1) (by first | rfl | simp only [noHs, noH, nI, bI, Bool.and_self, Bool.and_true, Bool.true_and, ]) (by first | rfl | simp only [noHs, noH, nI, bI, Bool.and_self, Bool.and_true, Bool.true_and, ]), ?_⟩; (conv => whnf); (try (refine ⟨by kernel_rfl, ?_⟩; conv => whnf))
  rw [ht]
  conv => whnf
  try (refine ⟨by kernel_rfl, ?_⟩; conv => whnf)
  refine ⟨_, ret_of_fn G0ok (c2) (by first | rfl | simp only [noHs, noH, nI, bI, Bool.and_self, Bool.and_true, Bool.true_and, ]) (by first | rfl | simp only [noHs, noH, nI, bI, Bool.and_self, Bool.and_true, Bool.true_and, ]), ?_⟩; (conv => whnf); (try (refine ⟨by kernel_rfl, ?_⟩; conv => whnf))
  refine ⟨_, ret_of_fn G0ok (c3) (by first | rfl | simp only [noHs, noH, nI, bI, Bool.and_self, Bool.and_true, Bool.true_and, ]) (by first | rfl | simp only [noHs, noH, nI, bI, Bool.and_self, Bool.and_true, Bool.true_and, ]), ?_⟩; (conv => whnf); (try (refine ⟨by kernel_rfl, ?_⟩; conv => whnf))
  refine ⟨_, ret_of_fn G0ok (c4) (by first | rfl | simp only [noHs, noH, nI, bI, Bool.and_self, Bool.and_true, Bool.true_and, ]) (by first | rfl | simp only [noHs, noH, nI, bI, Bool.and_self, Bool.and_true, Bool.true_and, ]), ?_⟩; (conv => whnf); (try (refine ⟨by kernel_rfl, ?_⟩; conv => whnf))
  refine ⟨_, ret_fnH G0ok (r0) [] (res' := .agg (uC c.P ++ [.ptr 1 0])) rfl rfl rfl rfl rfl trivial (outHB _) rfl rfl (upd := [(1, some [bI false])]) (by rfl), ?_⟩; (conv => whnf); (try (refine ⟨by kernel_rfl, ?_⟩; conv => whnf))
  refine ⟨_, ret_fnH G0ok (s4) [1] (res' := uV (modN 4 c.P)) rfl rfl rfl rfl rfl ⟨trivial, _, rfl, rfl, rfl⟩ (outHB _) rfl rfl (upd := [(1, some [bI false])]) (by rfl), ?_⟩; (conv => whnf); (try (refine ⟨by kernel_rfl, ?_⟩; conv => whnf))
  refine ⟨_, ret_fnH G0ok (a1) [1] (res' := uV (mulM c.P c.A c.A)) rfl rfl rfl rfl rfl ⟨trivial, _, rfl, rfl, rfl⟩ (outHB _) rfl rfl (upd := [(1, some [bI false])]) (by rfl), ?_⟩; (conv => whnf); (try (refine ⟨by kernel_rfl, ?_⟩; conv => whnf))
  refine ⟨_, ret_fnH G0ok (a2) [1] (res' := uV (mulM c.P c.A (mulM c.P c.A c.A))) rfl rfl rfl rfl rfl ⟨trivial, _, rfl, rfl, rfl⟩ (outHB _) rfl rfl (upd := [(1, some [bI false])]) (by rfl), ?_⟩; (conv => whnf); (try (refine ⟨by kernel_rfl, ?_⟩; conv => whnf))
  refine ⟨_, ret_fnH G0ok (a3) [1] (res' := uV (mulM c.P (modN 4 c.P) (mulM c.P c.A (mulM c.P c.A c.A)))) rfl rfl rfl rfl rfl ⟨trivial, _, rfl, rfl, rfl⟩ (outHB _) rfl rfl (upd := [(1, some [bI false])]) (by rfl), ?_⟩; (conv => whnf); (try (refine ⟨by kernel_rfl, ?_⟩; conv => whnf))
  refine ⟨_, ret_fnH G0ok (s27) [1] (res' := uV (modN 27 c.P)) rfl rfl rfl rfl rfl ⟨trivial, _, rfl, rfl, rfl⟩ (outHB _) rfl rfl (upd := [(1, some [bI false])]) (by rfl), ?_⟩; (conv => whnf); (try (refine ⟨by kernel_rfl, ?_⟩; conv => whnf))
  refine ⟨_, ret_fnH G0ok (b1) [1] (res' := uV (mulM c.P c.B c.B)) rfl rfl rfl rfl rfl ⟨trivial, _, rfl, rfl, rfl⟩ (outHB _) rfl rfl (upd := [(1, some [bI false])]) (by rfl), ?_⟩; (conv => whnf); (try (refine ⟨by kernel_rfl, ?_⟩; conv => whnf))
  refine ⟨_, ret_fnH G0ok (b2) [1] (res' := uV (mulM c.P (modN 27 c.P) (mulM c.P c.B c.B))) rfl rfl rfl rfl rfl ⟨trivial, _, rfl, rfl, rfl⟩ (outHB _) rfl rfl (upd := [(1, some [bI false])]) (by rfl), ?_⟩; (conv => whnf); (try (refine ⟨by kernel_rfl, ?_⟩; conv => whnf))
  refine ⟨_, ret_fnH G0ok (ab) [1] (res' := uV (addM c.P (mulM c.P (modN 4 c.P) (mulM c.P c.A (mulM c.P c.A c.A))) (mulM c.P (modN 27 c.P) (mulM c.P c.B c.B)))) rfl rfl rfl rfl rfl ⟨trivial, _, rfl, rfl, rfl⟩ (outHB _) rfl rfl (upd := [(1, some [bI false])]) (by rfl), ?_⟩; (conv => whnf); (try (refine ⟨by kernel_rfl, ?_⟩; conv => whnf))
  refine ⟨_, ez, ?_⟩
  conv => whnf
  try (refine ⟨by kernel_rfl, ?_⟩; conv => whnf)
  refine ⟨_, ret_of_fn G0ok (on) (by first | rfl | simp only [noHs, noH, nI, bI, Bool.and_self, Bool.and_true, Bool.true_and, ]) (by first | rfl | simp only [noHs, noH, nI, bI, Bool.and_self, Bool.and_true, Bool.true_and, ]), ?_⟩; (conv => whnf); (try (refine ⟨by kernel_rfl, ?_⟩; conv => whnf))
  exact ⟨_, rfl, rfl⟩
end Go.Proofs.YtidkdlaihmpjfaaDoor
