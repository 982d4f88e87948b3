/- curve.Lift by the engine. -/
import Derived.Test.YtdicmddedcfhaaaVOn
import Derived.Test.YtdicmddedcfhaaaVAddP
namespace Go.Proofs.Ytdicmddedcfhaaa
set_option linter.unusedVariables false
set_option linter.unusedSimpArgs false
set_option linter.unusedSectionVars false
open Go.ChangeShapes Go.WideShapes Go.ChangeAt Go.RowKit Go.Joins
set_option maxRecDepth 10000
theorem prod_nz' {p a b : Nat} (h : fermatOk p = true) (hp : 2 ≤ p) (ha : 0 < a) (ha2 : a < p) (hb : 0 < b) (hb2 : b < p) : a * b % p ≠ 0 := by
  intro e
  have h1 := fermat_at h ha ha2
  have h2 := fermat_at h hb hb2
  have h3 : (a * b) ^ (p - 1) % p = 1 := by
    rw [Nat.mul_pow, Nat.mul_mod, h1, h2]
    exact Nat.mod_eq_of_lt (by omega)
  rw [Nat.pow_mod, e, Nat.zero_pow (by omega), Nat.zero_mod] at h3
  omega
theorem sqrt_two {p y z : Nat} (h : fermatOk p = true) (hp : 2 ≤ p) (hy : 0 < y) (hy2 : y < p) (hz2 : z < p) (e : z * z % p = y * y % p) : z = y ∨ z + y = p := by
  by_cases h1 : z = y
  · exact .inl h1
  · refine .inr (Classical.byContradiction fun h2 => ?_)
    have ha : 0 < (z + (p - y)) % p := by
      rcases Nat.lt_or_gt_of_ne h1 with h3 | h3
      · rw [Nat.mod_eq_of_lt (by omega)]; omega
      · rw [show z + (p - y) = (z - y) + p by omega, Nat.add_mod_right, Nat.mod_eq_of_lt (by omega)]; omega
    have hb : 0 < (z + y) % p := by
      rcases Nat.lt_or_ge (z + y) p with h3 | h3
      · rw [Nat.mod_eq_of_lt h3]; omega
      · rw [show z + y = (z + y - p) + p by omega, Nat.add_mod_right, Nat.mod_eq_of_lt (by omega)]; omega
    refine prod_nz' h hp ha (Nat.mod_lt _ (by omega)) hb (Nat.mod_lt _ (by omega)) ?_
    rw [← Nat.mul_mod]
    have e2 : (z + (p - y)) * (z + y) + y * y = z * z + p * (z + y) := by
      have : p - y + y = p := by omega
      refine gen_ex (p - y) fun q hq => ?_
      rw [← hq] at this ⊢
      clear hq
      rw [← this]
      grind
    have e3 : ((z + (p - y)) * (z + y) + y * y) % p = y * y % p := by rw [e2, Nat.add_mul_mod_self_left, e]
    have e4 := Nat.div_add_mod ((z + (p - y)) * (z + y) + y * y) p
    have e5 := Nat.div_add_mod (y * y) p
    rw [e3] at e4
    have e6 : (z + (p - y)) * (z + y) + p * (y * y / p) = p * (((z + (p - y)) * (z + y) + y * y) / p) := by omega
    have e7 : ((z + (p - y)) * (z + y) + p * (y * y / p)) % p = 0 := by rw [e6, Nat.mul_mod_right]
    rwa [Nat.add_mul_mod_self_left] at e7
theorem root_sq {p y s : Nat} (h : fermatOk p = true) (h4 : p % 4 = 3) (hy : 0 < y) (hy2 : y < p) (hs : s = y * y % p) : powM p s (p / 4 + 1) * powM p s (p / 4 + 1) % p = y * y % p := by
  have e1 : y * y % p = y ^ 2 % p := by rw [Nat.pow_two]
  rw [powM_def, ← Nat.mul_mod, ← Nat.pow_add, hs, e1, ← Nat.pow_mod, ← Nat.pow_mul, show 2 * (p / 4 + 1 + (p / 4 + 1)) = (p - 1) + 2 by omega, Nat.pow_add, Nat.mul_mod, fermat_at h hy hy2, Nat.one_mul, Nat.mod_mod]
theorem odd_lim (a : Nat) : (((lim a 0 : Nat) : Int).tmod 2 == 1) = decide (a % 2 = 1) := by
  have := lim0_mod (a := a) 1
  rw [if_pos (by decide)] at this
  have h4 : lim a 0 % 2 = a % 2 := this
  rw [Int.tmod_eq_emod_of_nonneg (by omega), show ((lim a 0 : Nat) : Int) % 2 = ((a % 2 : Nat) : Int) from by rw [← h4]; omega]
  exact beq_lit _ 1
theorem lift_bad {c : CvD} (g : Good c) {x : Nat} (b : Bool) (hx : x < T256) (h : c.P ≤ x) : FnV Try.prog G0 36 [c.v, uV x, bI b] (.tup [nilP.v, nI .i64 6]) := by
  have k := chk_ok g
  have c1 := cmp_fn (a := x) (b := c.P) hx g.P
  have c2 := cmpN_ge.2 h
  have zx : uC 0 = words [0, 0, 0, 0] := uC_lit (n := 0) (by decide)
  unfold CvD.v CvD.cells PtD.v PtD.cells nilP at *
  dsimp only
  rw [zx]
  refine fn_of_vwp Γok Try.func36 (by kernel_rfl) rfl (by simp [Try.ntmps36]) (wpv_ok Γok (by kernel_rfl) _ _ _ ?_); conv => whnf
  refine ⟨_, ret_of_fn G0ok (k) (by first | rfl | simp only [noHs, noH, nI, bI, Bool.and_self, Bool.and_true, Bool.true_and, ]) (by first | rfl | simp only [noHs, noH, nI, bI, Bool.and_self, Bool.and_true, Bool.true_and, ]), ?_⟩; (conv => whnf); (try (refine ⟨by kernel_rfl, ?_⟩; conv => whnf))
  refine ⟨_, ret_of_fn G0ok (c1) (by first | rfl | simp only [noHs, noH, nI, bI, Bool.and_self, Bool.and_true, Bool.true_and, ]) (by first | rfl | simp only [noHs, noH, nI, bI, Bool.and_self, Bool.and_true, Bool.true_and, ]), ?_⟩; (conv => whnf); (try (refine ⟨by kernel_rfl, ?_⟩; conv => whnf))
  rw [decide_eq_true c2]
  conv => whnf
  try (refine ⟨by kernel_rfl, ?_⟩; conv => whnf)
  exact ⟨_, rfl, rfl⟩
theorem lift_ok {c : CvD} (g : Good c) (hf : fermatOk c.P = true) {x y : Nat} (h : OnP c ⟨x, y, false⟩) (hy0 : 0 < y) : FnV Try.prog G0 36 [c.v, uV x, bI (decide (y % 2 = 1))] (.tup [(PtD.mk x y false).v, nI .i64 0]) := by
  have k := chk_ok g
  have o := on_ok g h
  obtain ⟨⟨hx, hy⟩, hon⟩ := h
  dsimp only at hx hy
  have hs : mulM c.P y y = sideM c x := by
    unfold onB at hon
    rw [if_neg Bool.false_ne_true] at hon
    exact of_decide_eq_true hon
  have hP := g.P
  have h4 := g.p4
  have h0 : 0 < c.P := by omega
  have ls : sideM c x < c.P := sideM_lt h0
  have c1 := cmp_fn (a := x) (b := c.P) (by omega) hP
  rw [cmpN_lt hx] at c1
  have r0 := ringOf_fnH c
  have sd := side_fnH false hP g.A g.B hx
  have dv := div_pos (a := c.P) (b := 4) hP (by decide) (by decide)
  rw [divN_def, show uV 4 = .agg (words [4, 0, 0, 0]) from congrArg VV.agg (uC_lit (n := 4) (by decide))] at dv
  have lh : c.P / 4 + 1 < T256 := by omega
  have ad := add_fn (a := c.P / 4) (b := 1) (by omega) (by decide)
  rw [addS_def, addO_def, Nat.mod_eq_of_lt lh, show uV 1 = .agg (words [1, 0, 0, 0]) from congrArg VV.agg (uC_lit (n := 1) (by decide))] at ad
  have pw := pow_fn ls lh hP
  have rs := root_sq (s := sideM c x) hf h4 hy0 hy (by rw [← hs, mulM_def])
  have lz : powM c.P (sideM c x) (c.P / 4 + 1) < c.P := powM_lt h0
  have two := sqrt_two hf (by omega) hy0 hy lz rs
  refine gen_ex (powM c.P (sideM c x) (c.P / 4 + 1)) fun z ez => ?_
  rw [← ez] at pw two lz
  clear ez rs
  have tk := take_ok (m := c.P) z false
  have oz := odd_lim z
  have oy := odd_lim y
  have nz := ne_zero (a := z) (by omega)
  have sb := sub_fn (a := c.P) (b := z) hP (by omega)
  rw [subS_def] at sb
  unfold CvD.v CvD.cells PtD.v PtD.cells ringV HB at *
  dsimp only at *
  refine gen_ex (sideM c x) fun S eS => ?_
  rw [← eS] at sd pw
  clear eS hs ls hon
  refine gen_ex (c.P / 4 + 1) fun Hf eH => ?_
  rw [← eH] at ad pw
  clear eH lh
  refine gen_ex (decide (y % 2 = 1)) fun b eb => ?_
  rw [← eb] at oy ⊢
  rcases two with rfl | two
  · rw [← eb] at oz
    clear eb
    cases b
    all_goals
      refine fn_of_vwp Γok Try.func36 (by kernel_rfl) rfl (by simp [Try.ntmps36]) (wpv_ok Γok (by kernel_rfl) _ _ _ ?_); conv => whnf
      refine ⟨_, ret_of_fn G0ok (k) (by first | rfl | simp only [noHs, noH, nI, bI, Bool.and_self, Bool.and_true, Bool.true_and, ]) (by first | rfl | simp only [noHs, noH, nI, bI, Bool.and_self, Bool.and_true, Bool.true_and, ]), ?_⟩; (conv => whnf); (try (refine ⟨by kernel_rfl, ?_⟩; conv => whnf))
      refine ⟨_, ret_of_fn G0ok (c1) (by first | rfl | simp only [noHs, noH, nI, bI, Bool.and_self, Bool.and_true, Bool.true_and, ]) (by first | rfl | simp only [noHs, noH, nI, bI, Bool.and_self, Bool.and_true, Bool.true_and, ]), ?_⟩; (conv => whnf); (try (refine ⟨by kernel_rfl, ?_⟩; conv => whnf))
      refine ⟨_, ret_fnH G0ok (r0) [] (res' := .agg (uC c.P ++ [.ptr 3 0])) rfl rfl rfl rfl rfl trivial (outHB _) rfl rfl (upd := [(3, some [bI false])]) (by rfl), ?_⟩; (conv => whnf); (try (refine ⟨by kernel_rfl, ?_⟩; conv => whnf))
      refine ⟨_, ret_of_fn G0ok (dv) (by first | rfl | simp only [noHs, noH, nI, bI, Bool.and_self, Bool.and_true, Bool.true_and, ]) (by first | rfl | simp only [noHs, noH, nI, bI, Bool.and_self, Bool.and_true, Bool.true_and, ]), ?_⟩; (conv => whnf); (try (refine ⟨by kernel_rfl, ?_⟩; conv => whnf))
      refine ⟨_, ret_of_fn G0ok (ad) (by first | rfl | simp only [noHs, noH, nI, bI, Bool.and_self, Bool.and_true, Bool.true_and, ]) (by first | rfl | simp only [noHs, noH, nI, bI, Bool.and_self, Bool.and_true, Bool.true_and, ]), ?_⟩; (conv => whnf); (try (refine ⟨by kernel_rfl, ?_⟩; conv => whnf))
      refine ⟨_, ret_fnH G0ok (sd) [3] (res' := uV S) rfl rfl rfl rfl rfl ⟨trivial, _, rfl, rfl, rfl⟩ (outHB _) rfl rfl (upd := [(3, some [bI false])]) (by rfl), ?_⟩; (conv => whnf); (try (refine ⟨by kernel_rfl, ?_⟩; conv => whnf))
      refine ⟨_, ret_of_fn G0ok (pw) (by first | rfl | simp only [noHs, noH, nI, bI, Bool.and_self, Bool.and_true, Bool.true_and, ]) (by first | rfl | simp only [noHs, noH, nI, bI, Bool.and_self, Bool.and_true, Bool.true_and, ]), ?_⟩; (conv => whnf); (try (refine ⟨by kernel_rfl, ?_⟩; conv => whnf))
      refine ⟨_, ret_fnH G0ok (tk) [3] (res' := uV z) rfl rfl rfl rfl rfl ⟨trivial, _, rfl, rfl, rfl⟩ (outHB _) rfl rfl (upd := [(3, some [bI false])]) (by rfl), ?_⟩; (conv => whnf); (try (refine ⟨by kernel_rfl, ?_⟩; conv => whnf))
      rw [oz]
      conv => whnf
      try (refine ⟨by kernel_rfl, ?_⟩; conv => whnf)
      rw [oz]
      conv => whnf
      try (refine ⟨by kernel_rfl, ?_⟩; conv => whnf)
      refine ⟨_, ret_of_fn G0ok (o) (by first | rfl | simp only [noHs, noH, nI, bI, Bool.and_self, Bool.and_true, Bool.true_and, ]) (by first | rfl | simp only [noHs, noH, nI, bI, Bool.and_self, Bool.and_true, Bool.true_and, ]), ?_⟩; (conv => whnf); (try (refine ⟨by kernel_rfl, ?_⟩; conv => whnf))
      exact ⟨_, rfl, rfl⟩
  · have hzo : decide (z % 2 = 1) = !b := by
      rw [eb]
      have : z % 2 = 1 ↔ ¬ y % 2 = 1 := by omega
      by_cases h : y % 2 = 1
      · rw [decide_eq_true h, decide_eq_false (by omega)]; rfl
      · rw [decide_eq_false h, decide_eq_true (by omega)]; rfl
    have hsb : (c.P + T256 - z) % T256 = y := by
      rw [show c.P + T256 - z = y + T256 by omega, Nat.add_mod_right, Nat.mod_eq_of_lt (by omega)]
    rw [hsb] at sb
    rw [hzo] at oz
    clear eb hzo hsb
    cases b
    all_goals
      refine fn_of_vwp Γok Try.func36 (by kernel_rfl) rfl (by simp [Try.ntmps36]) (wpv_ok Γok (by kernel_rfl) _ _ _ ?_); conv => whnf
      refine ⟨_, ret_of_fn G0ok (k) (by first | rfl | simp only [noHs, noH, nI, bI, Bool.and_self, Bool.and_true, Bool.true_and, ]) (by first | rfl | simp only [noHs, noH, nI, bI, Bool.and_self, Bool.and_true, Bool.true_and, ]), ?_⟩; (conv => whnf); (try (refine ⟨by kernel_rfl, ?_⟩; conv => whnf))
      refine ⟨_, ret_of_fn G0ok (c1) (by first | rfl | simp only [noHs, noH, nI, bI, Bool.and_self, Bool.and_true, Bool.true_and, ]) (by first | rfl | simp only [noHs, noH, nI, bI, Bool.and_self, Bool.and_true, Bool.true_and, ]), ?_⟩; (conv => whnf); (try (refine ⟨by kernel_rfl, ?_⟩; conv => whnf))
      refine ⟨_, ret_fnH G0ok (r0) [] (res' := .agg (uC c.P ++ [.ptr 3 0])) rfl rfl rfl rfl rfl trivial (outHB _) rfl rfl (upd := [(3, some [bI false])]) (by rfl), ?_⟩; (conv => whnf); (try (refine ⟨by kernel_rfl, ?_⟩; conv => whnf))
      refine ⟨_, ret_of_fn G0ok (dv) (by first | rfl | simp only [noHs, noH, nI, bI, Bool.and_self, Bool.and_true, Bool.true_and, ]) (by first | rfl | simp only [noHs, noH, nI, bI, Bool.and_self, Bool.and_true, Bool.true_and, ]), ?_⟩; (conv => whnf); (try (refine ⟨by kernel_rfl, ?_⟩; conv => whnf))
      refine ⟨_, ret_of_fn G0ok (ad) (by first | rfl | simp only [noHs, noH, nI, bI, Bool.and_self, Bool.and_true, Bool.true_and, ]) (by first | rfl | simp only [noHs, noH, nI, bI, Bool.and_self, Bool.and_true, Bool.true_and, ]), ?_⟩; (conv => whnf); (try (refine ⟨by kernel_rfl, ?_⟩; conv => whnf))
      refine ⟨_, ret_fnH G0ok (sd) [3] (res' := uV S) rfl rfl rfl rfl rfl ⟨trivial, _, rfl, rfl, rfl⟩ (outHB _) rfl rfl (upd := [(3, some [bI false])]) (by rfl), ?_⟩; (conv => whnf); (try (refine ⟨by kernel_rfl, ?_⟩; conv => whnf))
      refine ⟨_, ret_of_fn G0ok (pw) (by first | rfl | simp only [noHs, noH, nI, bI, Bool.and_self, Bool.and_true, Bool.true_and, ]) (by first | rfl | simp only [noHs, noH, nI, bI, Bool.and_self, Bool.and_true, Bool.true_and, ]), ?_⟩; (conv => whnf); (try (refine ⟨by kernel_rfl, ?_⟩; conv => whnf))
      refine ⟨_, ret_fnH G0ok (tk) [3] (res' := uV z) rfl rfl rfl rfl rfl ⟨trivial, _, rfl, rfl, rfl⟩ (outHB _) rfl rfl (upd := [(3, some [bI false])]) (by rfl), ?_⟩; (conv => whnf); (try (refine ⟨by kernel_rfl, ?_⟩; conv => whnf))
      rw [oz]
      conv => whnf
      try (refine ⟨by kernel_rfl, ?_⟩; conv => whnf)
      refine ⟨_, nz, ?_⟩
      rw [decide_eq_false (show ¬ z = 0 by omega)]
      conv => whnf
      try (refine ⟨by kernel_rfl, ?_⟩; conv => whnf)
      refine ⟨_, ret_of_fn G0ok (sb) (by first | rfl | simp only [noHs, noH, nI, bI, Bool.and_self, Bool.and_true, Bool.true_and, ]) (by first | rfl | simp only [noHs, noH, nI, bI, Bool.and_self, Bool.and_true, Bool.true_and, ]), ?_⟩; (conv => whnf); (try (refine ⟨by kernel_rfl, ?_⟩; conv => whnf))
      rw [oy]
      conv => whnf
      try (refine ⟨by kernel_rfl, ?_⟩; conv => whnf)
      refine ⟨_, ret_of_fn G0ok (o) (by first | rfl | simp only [noHs, noH, nI, bI, Bool.and_self, Bool.and_true, Bool.true_and, ]) (by first | rfl | simp only [noHs, noH, nI, bI, Bool.and_self, Bool.and_true, Bool.true_and, ]), ?_⟩; (conv => whnf); (try (refine ⟨by kernel_rfl, ?_⟩; conv => whnf))
      exact ⟨_, rfl, rfl⟩
end Go.Proofs.Ytdicmddedcfhaaa
