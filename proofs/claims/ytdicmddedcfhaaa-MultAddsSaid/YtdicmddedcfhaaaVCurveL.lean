/- What the laws of curves ask: the small curves' points, their sums and multiples, by the engine. -/
import Derived.Test.YtdicmddedcfhaaaVEqP
import Derived.Test.YtdicmddedcfhaaaVGroup
namespace Go.Proofs.Ytdicmddedcfhaaa
set_option linter.unusedVariables false
set_option linter.unusedSimpArgs false
set_option linter.unusedSectionVars false
open Go.ChangeShapes Go.WideShapes Go.ChangeAt Go.RowKit Go.Joins
set_option maxRecDepth 10000
theorem good_crv {k : Nat} (h : k < 8) : Good (crv k) := by
  refine crv_cases (Q := fun k => Good (crv k)) h ?_ ?_ ?_ ?_ ?_ ?_ ?_ ?_
  all_goals
    refine ⟨by decide, by decide, by decide, by decide, by decide, by decide, by decide, by decide, by decide, ?_, ?_⟩
    · simp only [addM_def, mulM_def, modN_def]; decide
    · unfold sideM; simp only [addM_def, mulM_def]; decide
def gk (k i : Nat) : PtD := gpt (crv k) (tbl k) i
theorem gk_mod {k i j : Nat} (h : i % (crv k).N = j % (crv k).N) : gk k i = gk k j := by unfold gk gpt; rw [h]
theorem gk_sum {k : Nat} (h : k < 8) (i j : Nat) : padd (crv k) (gk k i) (gk k j) = (gk k (i + j), true) := padd_gpt (tells h) i j
theorem gk_far {k : Nat} (i : Nat) : (gk k i).far = decide (i % (crv k).N = 0) := by
  unfold gk gpt
  by_cases h : i % (crv k).N = 0
  · rw [if_pos h, decide_eq_true h]; rfl
  · rw [if_neg h, decide_eq_false h]; rfl
theorem gk_zero {k i : Nat} (h : i % (crv k).N = 0) : gk k i = farP := by unfold gk gpt; rw [if_pos h]
theorem gk_on {k : Nat} (h : k < 8) (i : Nat) : OnP (crv k) (gk k i) := by
  have t := tells h
  have hp := t.p3
  unfold gk gpt
  by_cases h0 : i % (crv k).N = 0
  · rw [if_pos h0]
    exact ⟨⟨by show 0 < _; omega, by show 0 < _; omega⟩, by unfold onB farP; simp⟩
  · rw [if_neg h0]
    obtain ⟨h1, h2, h3, _⟩ := one_at t (show 0 < i % (crv k).N by omega) (Nat.mod_lt _ (by have := t.n1; omega))
    refine ⟨h1, ?_⟩
    unfold onB
    rw [if_neg (show ¬ (pt (tbl k) (i % (crv k).N)).far = true from Bool.false_ne_true)]
    refine decide_eq_true ?_
    unfold sideM
    simp only [addM_def, mulM_def, t.A, Nat.zero_mul, Nat.zero_mod, Nat.add_zero, Nat.mod_mod, Nat.mod_add_mod]
    rw [h3, ← Nat.mod_add_mod (_ * _), ← Nat.mod_add_mod (_ * (_ * _ % _)), Nat.mul_mod_mod]
theorem gk_lt {k : Nat} (h : k < 8) (i : Nat) : (gk k i).lt T256 := by
  have h1 := (gk_on h i).lt
  have h2 := (good_crv h).P
  exact ⟨Nat.lt_trans h1.1 h2, Nat.lt_trans h1.2 h2⟩
theorem gk_steps {k : Nat} (h : k < 8) (i n : Nat) : Steps2 (crv k) (gk k i) n (fun v => gk k (v * i)) where
  zero := gk_zero (by rw [Nat.zero_mul, Nat.zero_mod])
  twice := fun v _ => by
    rw [gk_sum h, Nat.mul_comm 2 v, Nat.mul_assoc, Nat.two_mul, Nat.mul_add]
  more := fun v _ => by
    rw [gk_sum h, Nat.add_mul, Nat.one_mul]
  lt := fun v _ => (gk_on h _).lt
theorem mult_gk {k : Nat} (h : k < 8) (i : Nat) {n : Nat} (hn : n < T256) : FnV Try.prog G0 25 [(crv k).v, uV n, (gk k i).v] (.tup [(gk k (n * i)).v, nI .i64 0]) :=
  mult_ok (good_crv h) (gk_on h i) hn (gk_steps h i n)
theorem add_gk {k : Nat} (h : k < 8) (i j : Nat) : FnV Try.prog G0 30 [(crv k).v, (gk k i).v, (gk k j).v] (.tup [(gk k (i + j)).v, nI .i64 0]) :=
  cadd_ok (good_crv h) (gk_on h i) (gk_on h j) (gk_sum h i j)
theorem gk_base {k : Nat} (h : k < 8) : gk k 1 = (crv k).base := by
  refine crv_cases (Q := fun k => gk k 1 = (crv k).base) h ?_ ?_ ?_ ?_ ?_ ?_ ?_ ?_ <;> rfl
theorem uV_w4 {n : Nat} (h : n < B64) : uV n = .agg (words [n, 0, 0, 0]) := congrArg VV.agg (uC_lit h)
theorem crv_B64 {k : Nat} (h : k < 8) : (crv k).N < B64 ∧ (crv k).P < B64 := by
  obtain ⟨_, b1, _, b2, _⟩ := crv_bounds h
  have : 1000 < B64 := by decide
  omega
theorem point_fn {k : Nat} (h : k < 8) (i : Int) : FnV Try.prog G0 24 [(crv k).v, nI .i64 i] (gk k (i % (crv k).N).toNat).v := by
  obtain ⟨b1, b2, b3, b4, _⟩ := crv_bounds h
  obtain ⟨l1, l2⟩ := crv_B64 h
  have tT : B64 < T256 := by decide
  have pk := picked_fn i ((crv k).N : Int) (by omega) (by omega)
  obtain ⟨j, hj, lj⟩ : ∃ j : Nat, i % ((crv k).N : Int) = (j : Int) ∧ j < (crv k).N := ⟨(i % ((crv k).N : Int)).toNat, by have := Int.emod_nonneg i (show ((crv k).N : Int) ≠ 0 by omega); omega, by have := Int.emod_nonneg i (show ((crv k).N : Int) ≠ 0 by omega); have := Int.emod_lt_of_pos i (show 0 < ((crv k).N : Int) by omega); omega⟩
  have m := mult_gk h 1 (n := j) (by omega)
  rw [hj] at pk ⊢
  rw [Nat.mul_one, gk_base h, uV_w4 (n := j) (by omega)] at m
  rw [show ((j : Int)).toNat = j from rfl]
  have w1 : wS .i64 ((crv k).N : Int) = ((crv k).N : Int) := ws_i64 (by omega) (by omega)
  have w2 : wS .u64 (j : Int) = (j : Int) := ws_u64n (by omega) (by omega)
  unfold CvD.base at m
  unfold CvD.v CvD.cells PtD.v PtD.cells at *
  refine gen_ex (gk k j) fun q eq => ?_
  rw [← eq] at m ⊢
  clear eq hj
  refine gen_ex (crv k) fun c ec => ?_
  rw [← ec] at m pk l1 w1 ⊢
  clear ec
  obtain ⟨P, A, B, N, X, Y⟩ := c
  dsimp only at *
  rw [uC_lit (n := N) l1] at m ⊢
  refine fn_of_vwp Γok Try.func24 (by kernel_rfl) rfl (by simp [Try.ntmps24]) (wpv_ok Γok (by kernel_rfl) _ _ _ ?_); conv => whnf
  rw [w1]
  conv => whnf
  try (refine ⟨by kernel_rfl, ?_⟩; conv => whnf)
  refine ⟨_, ret_of_fn G0ok (pk) (by first | rfl | simp only [noHs, noH, nI, bI, Bool.and_self, Bool.and_true, Bool.true_and, ]) (by first | rfl | simp only [noHs, noH, nI, bI, Bool.and_self, Bool.and_true, Bool.true_and, ]), ?_⟩; (conv => whnf); (try (refine ⟨by kernel_rfl, ?_⟩; conv => whnf))
  rw [w2]
  conv => whnf
  try (refine ⟨by kernel_rfl, ?_⟩; conv => whnf)
  refine ⟨_, ret_of_fn G0ok (m) (by first | rfl | simp only [noHs, noH, nI, bI, Bool.and_self, Bool.and_true, Bool.true_and, ]) (by first | rfl | simp only [noHs, noH, nI, bI, Bool.and_self, Bool.and_true, Bool.true_and, ]), ?_⟩; (conv => whnf); (try (refine ⟨by kernel_rfl, ?_⟩; conv => whnf))
  exact ⟨_, rfl, rfl⟩
end Go.Proofs.Ytdicmddedcfhaaa
