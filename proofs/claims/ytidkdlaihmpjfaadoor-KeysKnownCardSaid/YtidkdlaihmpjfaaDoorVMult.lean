/- curve.Add, Mult by the engine. -/
import Derived.Test.YtidkdlaihmpjfaaDoorVAddP
namespace Go.Proofs.YtidkdlaihmpjfaaDoor
set_option linter.unusedVariables false
set_option linter.unusedSimpArgs false
set_option linter.unusedSectionVars false
open Go.ChangeShapes Go.WideShapes Go.ChangeAt Go.RowKit Go.Joins
set_option maxRecDepth 10000
theorem cadd_ok {c : CvD} (g : Good c) {p q r : PtD} (hp : OnP c p) (hq : OnP c q) (h : padd c p q = (r, true)) : FnV Tryd.prog G0 89 [c.v, p.v, q.v] (.tup [r.v, nI .i64 0]) := by
  have f := cfault2_fn g hp hq
  have s := padd_fn g hp.lt hq.lt
  rw [h] at s
  unfold CvD.v CvD.cells PtD.v PtD.cells at *
  refine fn_of_vwp Γok Tryd.func89 (by kernel_rfl) rfl (by simp [Tryd.ntmps89]) (wpv_ok Γok (by kernel_rfl) _ _ _ ?_); conv => whnf
  refine .read 2 ((uC p.x ++ (uC p.y ++ [bI p.far])) ++ (uC q.x ++ (uC q.y ++ [bI q.far]))) (by rfl) (by rfl) (by rfl) (by rfl) ?_
  conv => whnf
  try (refine ⟨by kernel_rfl, ?_⟩; conv => whnf)
  refine ⟨_, ret_of_fn G0ok (f) (by first | rfl | simp only [noHs, noH, nI, bI, Bool.and_self, Bool.and_true, Bool.true_and, ]) (by first | rfl | simp only [noHs, noH, nI, bI, Bool.and_self, Bool.and_true, Bool.true_and, ]), ?_⟩; (conv => whnf); (try (refine ⟨by kernel_rfl, ?_⟩; conv => whnf))
  refine ⟨_, ret_of_fn G0ok (s) (by first | rfl | simp only [noHs, noH, nI, bI, Bool.and_self, Bool.and_true, Bool.true_and, ]) (by first | rfl | simp only [noHs, noH, nI, bI, Bool.and_self, Bool.and_true, Bool.true_and, ]), ?_⟩; (conv => whnf); (try (refine ⟨by kernel_rfl, ?_⟩; conv => whnf))
  exact ⟨_, rfl, rfl⟩
/-- What a multiple is. -/
structure Steps2 (c : CvD) (p : PtD) (k : Nat) (e : Nat → PtD) : Prop where
  zero : e 0 = farP
  twice : ∀ v, 2 * v ≤ k → padd c (e v) (e v) = (e (2 * v), true)
  more : ∀ v, 2 * v + 1 ≤ k → padd c (e (2 * v)) p = (e (2 * v + 1), true)
  lt : ∀ v, v ≤ k → (e v).lt c.P
theorem mult_ok {c : CvD} (g : Good c) {p : PtD} (hp : OnP c p) {k : Nat} (hk : k < T256) {e : Nat → PtD} (he : Steps2 c p k e) : FnV Tryd.prog G0 51 [c.v, uV k, p.v] (.tup [(e k).v, nI .i64 0]) := by
  have f := cfault1_fn g hp
  have hP := g.P
  have hf0 : uC farP.x ++ (uC farP.y ++ [bI farP.far]) = words [0, 0, 0, 0, 0, 0, 0, 0] ++ [bI true] := by
    unfold farP
    rw [uC_lit (n := 0) (by decide)]
    rfl
  have stp := fun v => padd_fn g (p := e v) (q := e v)
  have stq := fun v => padd_fn g (p := e v) (q := p)
  unfold CvD.v CvD.cells PtD.v PtD.cells at *
  refine fn_of_vwp Γok Tryd.func51 (by kernel_rfl) rfl (by simp [Tryd.ntmps51]) (wpv_ok Γok (by kernel_rfl) _ _ _ ?_); conv => whnf
  refine .read 1 (uC p.x ++ (uC p.y ++ [bI p.far])) (by rfl) (by rfl) (by rfl) (by rfl) ?_
  conv => whnf
  try (refine ⟨by kernel_rfl, ?_⟩; conv => whnf)
  refine ⟨_, ret_of_fn G0ok (f) (by first | rfl | simp only [noHs, noH, nI, bI, Bool.and_self, Bool.and_true, Bool.true_and, ]) (by first | rfl | simp only [noHs, noH, nI, bI, Bool.and_self, Bool.and_true, Bool.true_and, ]), ?_⟩; (conv => whnf); (try (refine ⟨by kernel_rfl, ?_⟩; conv => whnf))
  refine vloop_invK G0ok [(0, some 0), (1, some 1), (2, some 2), (3, some 3), (4, some 5)] 5 (X := Nat)
    (fun j => [(11, nI .i64 ((j : Int) - 1)), (10, bI true), (9, .ptr 4 0), (7, nI .i64 0), (6, .ptr 3 0), (5, .ptr 2 0), (4, .ptr 1 0), (3, .ptr 0 0)])
    (fun j => [(0, some (uC c.P ++ (uC c.A ++ (uC c.B ++ (uC c.N ++ (uC c.X ++ (uC c.Y ++ [bI false]))))))), (1, some (uC k)), (2, some (uC p.x ++ (uC p.y ++ [bI p.far]))), (3, some (words [0, 0, 0, 0, 0, 0, 0, 0] ++ [bI false])), (4, some (uC (e (k / 2 ^ j)).x ++ (uC (e (k / 2 ^ j)).y ++ [bI (e (k / 2 ^ j)).far])))])
    (fun j => j ≤ 256) (fun j => j) 256 rfl ⟨⟨_, rfl, conv_nI (rfl)⟩, ⟨_, rfl, .same rfl⟩, ⟨_, rfl, .ptr rfl⟩, ⟨_, rfl, conv_nI (rfl)⟩, ⟨_, rfl, .ptr rfl⟩, ⟨_, rfl, .ptr rfl⟩, ⟨_, rfl, .ptr rfl⟩, ⟨_, rfl, .ptr rfl⟩, trivial⟩ ⟨.inr ⟨_, _, rfl, rfl, .same rfl⟩, .inr ⟨_, _, rfl, rfl, .same rfl⟩, .inr ⟨_, _, rfl, rfl, .same rfl⟩, .inr ⟨_, _, rfl, rfl, .same rfl⟩, .inr ⟨_, _, rfl, rfl, convs_eq (by rw [Nat.div_eq_of_lt (show k < 2 ^ 256 from hk), he.zero]; exact hf0.symm) (rfl)⟩, trivial⟩ (Nat.le_refl _) ?_
  intro j hj
  dsimp only at hj ⊢
  refine wpv_ok Γok (by kernel_rfl) _ _ _ ?_; conv => whnf
  by_cases hc : j = 0
  · subst hc
    conv => whnf
    try (refine ⟨by kernel_rfl, ?_⟩; conv => whnf)
    rw [Nat.pow_zero, Nat.div_one]
    exact ⟨_, rfl, rfl⟩
  · obtain ⟨i, rfl⟩ : ∃ i, j = i + 1 := ⟨j - 1, by omega⟩
    have hb := bit_down (b := k) (i := i / 64) (k := i % 64) (by omega) (by omega)
    rw [show 64 * (i / 64) + i % 64 = i by omega, show 64 * (i / 64) + (i % 64 + 1) = i + 1 by omega] at hb
    have hle : k / 2 ^ i ≤ k := Nat.div_le_self _ _
    have hle2 : k / 2 ^ (i + 1) ≤ k := Nat.div_le_self _ _
    have hl64 := lim_lt k (i / 64)
    have ht2 : lim k (i / 64) / 2 ^ (i % 64) < 2 ^ 64 := Nat.lt_of_le_of_lt (Nat.div_le_self _ _) (by rw [← B64_eq]; exact hl64)
    have s1 := stp (k / 2 ^ (i + 1)) (he.lt _ hle2) (he.lt _ hle2)
    rw [he.twice _ (by omega)] at s1
    rw [show ((i + 1 : Nat) : Int) - 1 = (i : Int) from by omega, decide_eq_true (show (i : Int) ≥ 0 by omega)]
    conv => whnf
    try (refine ⟨by kernel_rfl, ?_⟩; conv => whnf)
    refine ⟨_, ret_of_fn G0ok (s1) (by first | rfl | simp only [noHs, noH, nI, bI, Bool.and_self, Bool.and_true, Bool.true_and, ]) (by first | rfl | simp only [noHs, noH, nI, bI, Bool.and_self, Bool.and_true, Bool.true_and, ]), ?_⟩; (conv => whnf); (try (refine ⟨by kernel_rfl, ?_⟩; conv => whnf))
    rw [Int.tdiv_eq_ediv_of_nonneg (by omega), ws_i64 (by omega) (by omega)]
    conv => whnf
    try (refine ⟨by kernel_rfl, ?_⟩; conv => whnf)
    refine bindP_intro (if_pos (inB_ok (by omega) (by omega))) ?_; conv => whnf
    refine bindP_intro (words_ix (i := i / 64) (by dsimp only; omega) (by simp; omega)) ?_
    conv => whnf
    try (refine ⟨by kernel_rfl, ?_⟩; conv => whnf)
    rw [Int.tmod_eq_emod_of_nonneg (by omega), show (i : Int) % 64 = ((i % 64 : Nat) : Int) from by omega, limC_getD _ (by omega)]
    conv => whnf
    try (refine ⟨by kernel_rfl, ?_⟩; conv => whnf)
    rw [shr_val (k := .u64) (x := lim k (i / 64)) (n := i % 64) (by simp only [IntKind.bits]; omega), u64_and1 ht2, show (((lim k (i / 64) / 2 ^ (i % 64) % 2 : Nat) : Int) == 1) = decide (lim k (i / 64) / 2 ^ (i % 64) % 2 = 1) from beq_lit _ 1]
    refine gen_ex (lim k (i / 64) / 2 ^ (i % 64) % 2) fun t et => ?_
    have ht : t ≤ 1 := by omega
    rw [← et] at hb ⊢
    clear et ht2
    by_cases h1 : t = 1
    · subst h1
      have s2 := stq (2 * (k / 2 ^ (i + 1))) (he.lt _ (by omega)) hp.lt
      rw [he.more _ (by omega)] at s2
      rw [decide_eq_true rfl]
      conv => whnf
      try (refine ⟨by kernel_rfl, ?_⟩; conv => whnf)
      refine ⟨_, ret_of_fn G0ok (s2) (by first | rfl | simp only [noHs, noH, nI, bI, Bool.and_self, Bool.and_true, Bool.true_and, ]) (by first | rfl | simp only [noHs, noH, nI, bI, Bool.and_self, Bool.and_true, Bool.true_and, ]), ?_⟩; (conv => whnf); (try (refine ⟨by kernel_rfl, ?_⟩; conv => whnf))
      refine next_round (y := i + 1) G0ok i [(0, some 0), (1, some 1), (2, some 2), (3, some 3), (4, some 4)] rfl ⟨⟨_, rfl, conv_nI (ws_i64 (by omega) (by omega))⟩, ⟨_, rfl, .same rfl⟩, ⟨_, rfl, .ptr rfl⟩, ⟨_, rfl, conv_nI (rfl)⟩, ⟨_, rfl, .ptr rfl⟩, ⟨_, rfl, .ptr rfl⟩, ⟨_, rfl, .ptr rfl⟩, ⟨_, rfl, .ptr rfl⟩, trivial⟩ ⟨.inr ⟨_, _, rfl, rfl, .same rfl⟩, .inr ⟨_, _, rfl, rfl, .same rfl⟩, .inr ⟨_, _, rfl, rfl, .same rfl⟩, .inr ⟨_, _, rfl, rfl, .same rfl⟩, .inr ⟨_, _, rfl, rfl, convs_eq (by rw [hb]) (rfl)⟩, trivial⟩ (by omega) (by omega)
    · have h0 : t = 0 := by omega
      subst h0
      rw [decide_eq_false h1]
      conv => whnf
      try (refine ⟨by kernel_rfl, ?_⟩; conv => whnf)
      refine next_round (y := i + 1) G0ok i [(0, some 0), (1, some 1), (2, some 2), (3, some 3), (4, some 4)] rfl ⟨⟨_, rfl, conv_nI (ws_i64 (by omega) (by omega))⟩, ⟨_, rfl, .same rfl⟩, ⟨_, rfl, .ptr rfl⟩, ⟨_, rfl, conv_nI (rfl)⟩, ⟨_, rfl, .ptr rfl⟩, ⟨_, rfl, .ptr rfl⟩, ⟨_, rfl, .ptr rfl⟩, ⟨_, rfl, .ptr rfl⟩, trivial⟩ ⟨.inr ⟨_, _, rfl, rfl, .same rfl⟩, .inr ⟨_, _, rfl, rfl, .same rfl⟩, .inr ⟨_, _, rfl, rfl, .same rfl⟩, .inr ⟨_, _, rfl, rfl, .same rfl⟩, .inr ⟨_, _, rfl, rfl, convs_eq (by rw [hb]; rfl) (rfl)⟩, trivial⟩ (by omega) (by omega)
end Go.Proofs.YtidkdlaihmpjfaaDoor
