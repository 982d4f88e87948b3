/- basculekeep.small, Curve: the small curves, by the engine. -/
import Derived.Test.YtidkdlaihmpjfaaDoorVEq
import Derived.Test.YtidkdlaihmpjfaaDoorPicked
namespace Go.Proofs.YtidkdlaihmpjfaaDoor
set_option linter.unusedVariables false
set_option linter.unusedSimpArgs false
set_option linter.unusedSectionVars false
open Go.ChangeShapes Go.WideShapes Go.ChangeAt Go.RowKit Go.Joins
set_option maxRecDepth 10000
/-- A curve. -/
structure CvD where
  P : Nat
  A : Nat
  B : Nat
  N : Nat
  X : Nat
  Y : Nat
noncomputable def CvD.cells (c : CvD) : List VV := uC c.P ++ (uC c.A ++ (uC c.B ++ (uC c.N ++ (uC c.X ++ (uC c.Y ++ [bI false])))))
noncomputable def CvD.v (c : CvD) : VV := .agg c.cells
def CvD.ok (c : CvD) : Prop := c.P < T256 ∧ c.A < T256 ∧ c.B < T256 ∧ c.N < T256 ∧ c.X < T256 ∧ c.Y < T256
def smallC (p b n x y : Nat) : CvD := ⟨p, 0, b, n, x, y⟩
theorem small_cells {p b n x y : Nat} (hp : p < B64) (hb : b < B64) (hn : n < B64) (hx : x < B64) (hy : y < B64) :
    (smallC p b n x y).cells = words [p, 0, 0, 0, 0, 0, 0, 0, b, 0, 0, 0, n, 0, 0, 0, x, 0, 0, 0, y, 0, 0, 0] ++ [bI false] := by
  unfold CvD.cells smallC
  rw [uC_lit hp, uC_lit (n := 0) (by decide), uC_lit hb, uC_lit hn, uC_lit hx, uC_lit hy]
  rfl
theorem small_fn {p b n x y : Nat} (hp : p < B64) (hb : b < B64) (hn : n < B64) (hx : x < B64) (hy : y < B64) :
    FnV Tryd.prog G0 53 [nI .u64 p, nI .u64 b, nI .u64 n, nI .u64 x, nI .u64 y] (smallC p b n x y).v := by
  unfold CvD.v
  rw [small_cells hp hb hn hx hy]
  refine fn_of_vwp Γok Tryd.func53 (by kernel_rfl) rfl (by simp [Tryd.ntmps53]) (wpv_ok Γok (by kernel_rfl) _ _ _ ?_); conv => whnf
  exact ⟨_, rfl, rfl⟩
/-- The small curves. -/
def crv (k : Nat) : CvD := match k with
  | 0 => smallC 43 7 31 2 12
  | 1 => smallC 67 2 73 2 12
  | 2 => smallC 79 6 67 5 17
  | 3 => smallC 139 2 163 3 53
  | 4 => smallC 163 3 181 1 2
  | 5 => smallC 211 3 199 1 2
  | 6 => smallC 379 2 409 5 49
  | _ => smallC 691 3 643 1 2
theorem curve_fn (n : Int) : FnV Tryd.prog G0 27 [nI .i64 n] (crv (n % 8).toNat).v := by
  have pk := picked_fn n 8 (by decide) (by decide)
  have c0 := small_fn (p := 43) (b := 7) (n := 31) (x := 2) (y := 12) (by decide) (by decide) (by decide) (by decide) (by decide)
  have c1 := small_fn (p := 67) (b := 2) (n := 73) (x := 2) (y := 12) (by decide) (by decide) (by decide) (by decide) (by decide)
  have c2 := small_fn (p := 79) (b := 6) (n := 67) (x := 5) (y := 17) (by decide) (by decide) (by decide) (by decide) (by decide)
  have c3 := small_fn (p := 139) (b := 2) (n := 163) (x := 3) (y := 53) (by decide) (by decide) (by decide) (by decide) (by decide)
  have c4 := small_fn (p := 163) (b := 3) (n := 181) (x := 1) (y := 2) (by decide) (by decide) (by decide) (by decide) (by decide)
  have c5 := small_fn (p := 211) (b := 3) (n := 199) (x := 1) (y := 2) (by decide) (by decide) (by decide) (by decide) (by decide)
  have c6 := small_fn (p := 379) (b := 2) (n := 409) (x := 5) (y := 49) (by decide) (by decide) (by decide) (by decide) (by decide)
  have c7 := small_fn (p := 691) (b := 3) (n := 643) (x := 1) (y := 2) (by decide) (by decide) (by decide) (by decide) (by decide)
  obtain ⟨k, hk, lk⟩ : ∃ k : Nat, n % 8 = (k : Int) ∧ k < 8 := ⟨(n % 8).toNat, by omega, by omega⟩
  rw [hk] at pk ⊢
  rw [show ((k : Int)).toNat = k from rfl]
  clear hk
  have hk : k = 0 ∨ k = 1 ∨ k = 2 ∨ k = 3 ∨ k = 4 ∨ k = 5 ∨ k = 6 ∨ k = 7 := by omega
  clear lk
  rcases hk with rfl | rfl | rfl | rfl | rfl | rfl | rfl | rfl
  all_goals
    refine fn_of_vwp Γok Tryd.func27 (by kernel_rfl) rfl (by simp [Tryd.ntmps27]) (wpv_ok Γok (by kernel_rfl) _ _ _ ?_); conv => whnf
    refine ⟨_, ret_of_fn G0ok (c0) (by first | rfl | simp only [noHs, noH, nI, bI, Bool.and_self, Bool.and_true, Bool.true_and, ]) (by first | rfl | simp only [noHs, noH, nI, bI, Bool.and_self, Bool.and_true, Bool.true_and, ]), ?_⟩; (conv => whnf); (try (refine ⟨by kernel_rfl, ?_⟩; conv => whnf))
    refine ⟨_, ret_of_fn G0ok (c1) (by first | rfl | simp only [noHs, noH, nI, bI, Bool.and_self, Bool.and_true, Bool.true_and, ]) (by first | rfl | simp only [noHs, noH, nI, bI, Bool.and_self, Bool.and_true, Bool.true_and, ]), ?_⟩; (conv => whnf); (try (refine ⟨by kernel_rfl, ?_⟩; conv => whnf))
    refine ⟨_, ret_of_fn G0ok (c2) (by first | rfl | simp only [noHs, noH, nI, bI, Bool.and_self, Bool.and_true, Bool.true_and, ]) (by first | rfl | simp only [noHs, noH, nI, bI, Bool.and_self, Bool.and_true, Bool.true_and, ]), ?_⟩; (conv => whnf); (try (refine ⟨by kernel_rfl, ?_⟩; conv => whnf))
    refine ⟨_, ret_of_fn G0ok (c3) (by first | rfl | simp only [noHs, noH, nI, bI, Bool.and_self, Bool.and_true, Bool.true_and, ]) (by first | rfl | simp only [noHs, noH, nI, bI, Bool.and_self, Bool.and_true, Bool.true_and, ]), ?_⟩; (conv => whnf); (try (refine ⟨by kernel_rfl, ?_⟩; conv => whnf))
    refine ⟨_, ret_of_fn G0ok (c4) (by first | rfl | simp only [noHs, noH, nI, bI, Bool.and_self, Bool.and_true, Bool.true_and, ]) (by first | rfl | simp only [noHs, noH, nI, bI, Bool.and_self, Bool.and_true, Bool.true_and, ]), ?_⟩; (conv => whnf); (try (refine ⟨by kernel_rfl, ?_⟩; conv => whnf))
    refine ⟨_, ret_of_fn G0ok (c5) (by first | rfl | simp only [noHs, noH, nI, bI, Bool.and_self, Bool.and_true, Bool.true_and, ]) (by first | rfl | simp only [noHs, noH, nI, bI, Bool.and_self, Bool.and_true, Bool.true_and, ]), ?_⟩; (conv => whnf); (try (refine ⟨by kernel_rfl, ?_⟩; conv => whnf))
    refine ⟨_, ret_of_fn G0ok (c6) (by first | rfl | simp only [noHs, noH, nI, bI, Bool.and_self, Bool.and_true, Bool.true_and, ]) (by first | rfl | simp only [noHs, noH, nI, bI, Bool.and_self, Bool.and_true, Bool.true_and, ]), ?_⟩; (conv => whnf); (try (refine ⟨by kernel_rfl, ?_⟩; conv => whnf))
    refine ⟨_, ret_of_fn G0ok (c7) (by first | rfl | simp only [noHs, noH, nI, bI, Bool.and_self, Bool.and_true, Bool.true_and, ]) (by first | rfl | simp only [noHs, noH, nI, bI, Bool.and_self, Bool.and_true, Bool.true_and, ]), ?_⟩; (conv => whnf); (try (refine ⟨by kernel_rfl, ?_⟩; conv => whnf))
    refine ⟨_, ret_of_fn G0ok (pk) (by first | rfl | simp only [noHs, noH, nI, bI, Bool.and_self, Bool.and_true, Bool.true_and, ]) (by first | rfl | simp only [noHs, noH, nI, bI, Bool.and_self, Bool.and_true, Bool.true_and, ]), ?_⟩; (conv => whnf); (try (refine ⟨by kernel_rfl, ?_⟩; conv => whnf))
    exact ⟨_, rfl, rfl⟩
end Go.Proofs.YtidkdlaihmpjfaaDoor
