/- curve.Lift by the engine. -/
import Derived.Test.YtidkdlaihmpjfaaDoorBUb
import Derived.Test.YtidkdlaihmpjfaaDoorBUa
namespace Go.Proofs.YtidkdlaihmpjfaaDoor
set_option linter.unusedVariables false
set_option linter.unusedSimpArgs false
set_option linter.unusedSectionVars false
open Go.ChangeShapes Go.WideShapes Go.ChangeAt Go.RowKit Go.Joins
set_option maxRecDepth 10000
theorem prod_nz' {p a b : Nat} (h : fermatOk p = true) (hp : 2 ≤ p) (ha : 0 < a) (ha2 : a < p) (hb : 0 < b) (hb2 : b < p) : a * b % p ≠ 0 := by
  intro e
  have h1 := fermat_at h ha ha2
  have h2 := fermat_at h hb hb2
  have h3 : (a * b) ^ (p - 1) % p = 1 := by
    rw [Nat.mul_pow, Nat.mul_mod, h1, h2]
    exact Nat.mod_eq_of_lt (by omega)
  rw [Nat.pow_mod, e, Nat.zero_pow (by omega), Nat.zero_mod] at h3
  omega
theorem sqrt_two {p y z : Nat} (h : fermatOk p = true) (hp : 2 ≤ p) (hy : 0 < y) (hy2 : y < p) (hz2 : z < p) (e : z * z % p = y * y % p) : z = y ∨ z + y = p := by
  by_cases h1 : z = y
  · exact .inl h1
  · refine .inr (Classical.byContradiction fun h2 => ?_)
    have ha : 0 < (z + (p - y)) % p := by
      rcases Nat.lt_or_gt_of_ne h1 with h3 | h3
      · rw [Nat.mod_eq_of_lt (by omega)]; omega
      · rw [show z + (p - y) = (z - y) + p by omega, Nat.add_mod_right, Nat.mod_eq_of_lt (by omega)]; omega
    have hb : 0 < (z + y) % p := by
      rcases Nat.lt_or_ge (z + y) p with h3 | h3
      · rw [Nat.mod_eq_of_lt h3]; omega
      · rw [show z + y = (z + y - p) + p by omega, Nat.add_mod_right, Nat.mod_eq_of_lt (by omega)]; omega
    refine prod_nz' h hp ha (Nat.mod_lt _ (by omega)) hb (Nat.mod_lt _ (by omega)) ?_
    rw [← Nat.mul_mod]
    have e2 : (z + (p - y)) * (z + y) + y * y = z * z + p * (z + y) := by
      have : p - y + y = p := by omega
      refine gen_ex (p - y) fun q hq => ?_
      rw [← hq] at this ⊢
      clear hq
      rw [← this]
      grind
    have e3 : ((z + (p - y)) * (z + y) + y * y) % p = y * y % p := by rw [e2, Nat.add_mul_mod_self_left, e]
    have e4 := Nat.div_add_mod ((z + (p - y)) * (z + y) + y * y) p
    have e5 := Nat.div_add_mod (y * y) p
    rw [e3] at e4
    have e6 : (z + (p - y)) * (z + y) + p * (y * y / p) = p * (((z + (p - y)) * (z + y) + y * y) / p) := by omega
    have e7 : ((z + (p - y)) * (z + y) + p * (y * y / p)) % p = 0 := by rw [e6, Nat.mul_mod_right]
    rwa [Nat.add_mul_mod_self_left] at e7
theorem root_sq {p y s : Nat} (h : fermatOk p = true) (h4 : p % 4 = 3) (hy : 0 < y) (hy2 : y < p) (hs : s = y * y % p) : powM p s (p / 4 + 1) * powM p s (p / 4 + 1) % p = y * y % p := by
  have e1 : y * y % p = y ^ 2 % p := by rw [Nat.pow_two]
  rw [powM_def, ← Nat.mul_mod, ← Nat.pow_add, hs, e1, ← Nat.pow_mod, ← Nat.pow_mul, show 2 * (p / 4 + 1 + (p / 4 + 1)) = (p - 1) + 2 by omega, Nat.pow_add, Nat.mul_mod, fermat_at h hy hy2, Nat.one_mul, Nat.mod_mod]
theorem odd_lim (a : Nat) : (((lim a 0 : Nat) : Int).tmod 2 == 1) = decide (a % 2 = 1) := by
  have := lim0_mod (a := a) 1
  rw [if_pos (by decide)] at this
  have h4 : lim a 0 % 2 = a % 2 := this
  rw [Int.tmod_eq_emod_of_nonneg (by omega), show ((lim a 0 : Nat) : Int) % 2 = ((a % 2 : Nat) : Int) from by rw [← h4]; omega]
  exact beq_lit _ 1
theorem lift_bad {c : CvD} (g : Good c) {x : Nat} (b : Bool) (hx : x < T256) (h : c.P ≤ x) : FnV Tryd.prog G0 61 [c.v, uV x, bI b] (.tup [nilP.v, nI .i64 6]) := by
  have k := chk_ok g
  have c1 := cmp_fn (a := x) (b := c.P) hx g.P
  have c2 := cmpN_ge.2 h
  have zx : uC 0 = words [0, 0, 0, 0] := uC_lit (n := 0) (by decide)
  unfold CvD.v CvD.cells PtD.v PtD.cells nilP at *
  dsimp only
  rw [zx]
  refine fn_of_vwp Γok Tryd.func61 (by kernel_rfl) rfl (by simp [Tryd.ntmps61]) (wpv_ok Γok (by kernel_rfl) _ _ _ ?_); conv => whnf
  refine ⟨_, ret_of_fn G0ok (k) (by first | rfl | simp only [noHs, noH, nI, bI, Bool.and_self, Bool.and_true, Bool.true_and, ]) (by first | rfl | simp only [noHs, noH, nI, bI, Bool.and_self, Bool.and_true, Bool.true_and, ]), ?_⟩; (conv => whnf); (try (refine ⟨by kernel_rfl, ?_⟩; conv => whnf))
  refine ⟨_, ret_of_fn G0ok (c1) (by first | rfl | simp only [noHs, noH, nI, bI, Bool.and_self, Bool.and_true, Bool.true_and, ]) (by first | rfl | simp only [noHs, noH, nI, bI, Bool.and_self, Bool.and_true, Bool.true_and, ]), ?_⟩; (conv => whnf); (try (refine ⟨by kernel_rfl, ?_⟩; conv => whnf))
  rw [decide_eq_true c2]
  conv => whnf
  try (refine ⟨by kernel_rfl, ?_⟩; conv => whnf)
  exact ⟨_, rfl, rfl⟩
theorem lift_ok {c : CvD} (g : Good c) (hf : fermatOk c.P = true) {x y : Nat} (h : OnP c ⟨x, y, false⟩) (hy0 : 0 < y) : FnV Tryd.prog G0 61 [c.v, uV x, bI (decide (y % 2 = 1))] (.tup [(PtD.mk x y false).v, nI .i64 0]) := by
  have k := chk_ok g
  have o := on_ok g h
  obtain ⟨⟨hx, hy⟩, hon⟩ := h
  dsimp only at hx hy
  have hs : mulM c.P y y = sideM c x := by
    unfold onB at hon
    rw [if_neg Bool.false_ne_true] at hon
    exact of_decide_eq_true hon
  have hP := g.P
  have h4 := g.p4
  have h0 : 0 < c.P := by omega
  have ls : sideM c x < c.P := sideM_lt h0
  have c1 := cmp_fn (a := x) (b := c.P) (by omega) hP
  rw [cmpN_lt hx] at c1
  have r0 := ringOf_fnH c
  have sd := side_fnH false hP g.A g.B hx
  have dv := div_pos (a := c.P) (b := 4) hP (by decide) (by decide)
  rw [divN_def, show uV 4 = .agg (words [4, 0, 0, 0]) from congrArg VV.agg (uC_lit (n := 4) (by decide))] at dv
  have lh : c.P / 4 + 1 < T256 := by omega
  have ad := add_fn (a := c.P / 4) (b := 1) (by omega) (by decide)
  rw [addS_def, addO_def, Nat.mod_eq_of_lt lh, show uV 1 = .agg (words [1, 0, 0, 0]) from congrArg VV.agg (uC_lit (n := 1) (by decide))] at ad
  have pw := pow_fn ls lh hP
  have rs := root_sq (s := sideM c x) hf h4 hy0 hy (by rw [← hs, mulM_def])
  have lz : powM c.P (sideM c x) (c.P / 4 + 1) < c.P := powM_lt h0
  have two := sqrt_two hf (by omega) hy0 hy lz rs
  refine gen_ex (powM c.P (sideM c x) (c.P / 4 + 1)) fun z ez => ?_
  rw [← ez] at pw two lz
  clear ez rs
  have tk := take_ok (m := c.P) z false
  have oz := odd_lim z
  have oy := odd_lim y
  have nz := ne_zero (a := z) (by omega)
  have sb := sub_fn (a := c.P) (b := z) hP (by omega)
  rw [subS_def] at sb
  unfold CvD.v CvD.cells PtD.v PtD.cells ringV HB at *
  dsimp only at *
  refine gen_ex (sideM c x) fun S eS => ?_
  rw [← eS] at sd pw
  clear eS hs ls hon
  refine gen_ex (c.P / 4 + 1) fun Hf eH => ?_
  rw [← eH] at ad pw
  clear eH lh
  refine gen_ex (decide (y % 2 = 1)) fun b eb => ?_
  rw [← eb] at oy ⊢
  rcases two with rfl | two
  · rw [← eb] at oz
    clear eb
    cases b
    all_goals
      refine fn_of_vwp Γok Tryd.func61 (by kernel_rfl) rfl (by simp [Tryd.ntmps61]) (wpv_ok Γok (by kernel_rfl) _ _ _ ?_); conv => whnf
      refine ⟨_, ret_of_fn G0ok (k) (by first | rfl | simp only [noHs, noH, nI, bI, Bool.and_self, Bool.and_true, Bool.true_and, ]) (by first | rfl | simp only [noHs, noH, nI, bI, Bool.and_self, Bool.and_true, Bool.true_and, ]), ?_⟩; (conv => whnf); (try (refine ⟨by kernel_rfl, ?_⟩; conv => whnf))
      refine ⟨_, ret_of_fn G0ok (c1) (by first | rfl | simp only [noHs, noH, nI, bI, Bool.and_self, Bool.and_true, Bool.true_and, ]) (by first | rfl | simp only [noHs, noH, nI, bI, Bool.and_self, Bool.and_true, Bool.true_and, ]), ?_⟩; (conv => whnf); (try (refine ⟨by kernel_rfl, ?_⟩; conv => whnf))
      refine ⟨_, ret_fnH G0ok (r0) [] (res' := .agg (uC c.P ++ [.ptr 3 0])) rfl rfl rfl rfl rfl trivial (outHB _) rfl rfl (upd := [(3, some [bI false])]) (by rfl), ?_⟩; (conv => whnf); (try (refine ⟨by kernel_rfl, ?_⟩; conv => whnf))
      refine ⟨_, ret_of_fn G0ok (dv) (by first | rfl | simp only [noHs, noH, nI, bI, Bool.and_self, Bool.and_true, Bool.true_and, ]) (by first | rfl | simp only [noHs, noH, nI, bI, Bool.and_self, Bool.and_true, Bool.true_and, ]), ?_⟩; (conv => whnf); (try (refine ⟨by kernel_rfl, ?_⟩; conv => whnf))
      refine ⟨_, ret_of_fn G0ok (ad) (by first | rfl | simp only [noHs, noH, nI, bI, Bool.and_self, Bool.and_true, Bool.true_and, ]) (by first | rfl | simp only [noHs, noH, nI, bI, Bool.and_self, Bool.and_true, Bool.true_and, ]), ?_⟩; (conv => whnf); (try (refine ⟨by kernel_rfl, ?_⟩; conv => whnf))
      refine ⟨_, ret_fnH G0ok (sd) [3] (res' := uV S) rfl rfl rfl rfl rfl ⟨trivial, _, rfl, rfl, rfl⟩ (outHB _) rfl rfl (upd := [(3, some [bI false])]) (by rfl), ?_⟩; (conv => whnf); (try (refine ⟨by kernel_rfl, ?_⟩; conv => whnf))
      refine ⟨_, ret_of_fn G0ok (pw) (by first | rfl | simp only [noHs, noH, nI, bI, Bool.and_self, Bool.and_true, Bool.true_and, ]) (by first | rfl | simp only [noHs, noH, nI, bI, Bool.and_self, Bool.and_true, Bool.true_and, ]), ?_⟩; (conv => whnf); (try (refine ⟨by kernel_rfl, ?_⟩; conv => whnf))
      refine ⟨_, ret_fnH G0ok (tk) [3] (res' := uV z) rfl rfl rfl rfl rfl ⟨trivial, _, rfl, rfl, rfl⟩ (outHB _) rfl rfl (upd := [(3, some [bI false])]) (by rfl), ?_⟩; (conv => whnf); (try (refine ⟨by kernel_rfl, ?_⟩; conv => whnf))
      rw [oz]
      conv => whnf
      try (refine ⟨by kernel_rfl, ?_⟩; conv => whnf)
      rw [oz]
      conv => whnf
      try (refine ⟨by kernel_rfl, ?_⟩; conv => whnf)
      refine ⟨_, ret_of_fn G0ok (o) (by first | rfl | simp only [noHs, noH, nI, bI, Bool.and_self, Bool.and_true, Bool.true_and, ]) (by first | rfl | simp only [noHs, noH, nI, bI, Bool.and_self, Bool.and_true, Bool.true_and, ]), ?_⟩; (conv => whnf); (try (refine ⟨by kernel_rfl, ?_⟩; conv => whnf))
      exact ⟨_, rfl, rfl⟩
  · have hzo : decide (z % 2 = 1) = !b := by
      rw [eb]
      have : z % 2 = 1 ↔ ¬ y % 2 = 1 := by omega
      by_cases h : y % 2 = 1
      · rw [decide_eq_true h, decide_eq_false (by omega)]; rfl
      · rw [decide_eq_false h, decide_eq_true (by omega)]; rfl
    have hsb : (c.P + T256 - z) % T256 = y := by
      rw [show c.P + T256 - z = y + T256 by omega, Nat.add_mod_right, Nat.mod_eq_of_lt (by omega)]
    rw [hsb] at sb
    rw [hzo] at oz
    clear eb hzo hsb
    cases b
    all_goals
      refine fn_of_vwp Γok Tryd.func61 (by kernel_rfl) rfl (by simp [Tryd.ntmps61]) (wpv_ok Γok (by kernel_rfl) _ _ _ ?_); conv => whnf
      refine ⟨_, ret_of_fn G0ok (k) (by first | rfl | simp only [noHs, noH, nI, bI, Bool.and_self, Bool.and_true, Bool.true_and, ]) (by first | rfl | simp only [noHs, noH, nI, bI, Bool.and_self, Bool.and_true, Bool.true_and, ]), ?_⟩; (conv => whnf); (try (refine ⟨by kernel_rfl, ?_⟩; conv => whnf))
      refine ⟨_, ret_of_fn G0ok (c1) (by first | rfl | simp only [noHs, noH, nI, bI, Bool.and_self, Bool.and_true, Bool.true_and, ]) (by first | rfl | simp only [noHs, noH, nI, bI, Bool.and_self, Bool.and_true, Bool.true_and, ]), ?_⟩; (conv => whnf); (try (refine ⟨by kernel_rfl, ?_⟩; conv => whnf))
      refine ⟨_, ret_fnH G0ok (r0) [] (res' := .agg (uC c.P ++ [.ptr 3 0])) rfl rfl rfl rfl rfl trivial (outHB _) rfl rfl (upd := [(3, some [bI false])]) (by rfl), ?_⟩; (conv => whnf); (try (refine ⟨by kernel_rfl, ?_⟩; conv => whnf))
      refine ⟨_, ret_of_fn G0ok (dv) (by first | rfl | simp only [noHs, noH, nI, bI, Bool.and_self, Bool.and_true, Bool.true_and, ]) (by first | rfl | simp only [noHs, noH, nI, bI, Bool.and_self, Bool.and_true, Bool.true_and, ]), ?_⟩; (conv => whnf); (try (refine ⟨by kernel_rfl, ?_⟩; conv => whnf))
      refine ⟨_, ret_of_fn G0ok (ad) (by first | rfl | simp only [noHs, noH, nI, bI, Bool.and_self, Bool.and_true, Bool.true_and, ]) (by first | rfl | simp only [noHs, noH, nI, bI, Bool.and_self, Bool.and_true, Bool.true_and, ]), ?_⟩; (conv => whnf); (try (refine ⟨by kernel_rfl, ?_⟩; conv => whnf))
      refine ⟨_, ret_fnH G0ok (sd) [3] (res' := uV S) rfl rfl rfl rfl rfl ⟨trivial, _, rfl, rfl, rfl⟩ (outHB _) rfl rfl (upd := [(3, some [bI false])]) (by rfl), ?_⟩; (conv => whnf); (try (refine ⟨by kernel_rfl, ?_⟩; conv => whnf))
      refine ⟨_, ret_of_fn G0ok (pw) (by first | rfl | simp only [noHs, noH, nI, bI, Bool.and_self, Bool.and_true, Bool.true_and, ]) (by first | rfl | simp only [noHs, noH, nI, bI, Bool.and_self, Bool.and_true, Bool.true_and, ]), ?_⟩; (conv => whnf); (try (refine ⟨by kernel_rfl, ?_⟩; conv => whnf))
      refine ⟨_, ret_fnH G0ok (tk) [3] (res' := uV z) rfl rfl rfl rfl rfl ⟨trivial, _, rfl, rfl, rfl⟩ (outHB _) rfl rfl (upd := [(3, some [bI false])]) (by rfl), ?_⟩; (conv => whnf); (try (refine ⟨by kernel_rfl, ?_⟩; conv => whnf))
      rw [oz]
      conv => whnf
      try (refine ⟨by kernel_rfl, ?_⟩; conv => whnf)
      refine ⟨_, nz, ?_⟩
      rw [decide_eq_false (show ¬ z = 0 by omega)]
      conv => whnf
      try (refine ⟨by kernel_rfl, ?_⟩; conv => whnf)
      refine ⟨_, ret_of_fn G0ok (sb) (by first | rfl | simp only [noHs, noH, nI, bI, Bool.and_self, Bool.and_true, Bool.true_and, ]) (by first | rfl | simp only [noHs, noH, nI, bI, Bool.and_self, Bool.and_true, Bool.true_and, ]), ?_⟩; (conv => whnf); (try (refine ⟨by kernel_rfl, ?_⟩; conv => whnf))
      rw [oy]
      conv => whnf
      try (refine ⟨by kernel_rfl, ?_⟩; conv => whnf)
      refine ⟨_, ret_of_fn G0ok (o) (by first | rfl | simp only [noHs, noH, nI, bI, Bool.and_self, Bool.and_true, Bool.true_and, ]) (by first | rfl | simp only [noHs, noH, nI, bI, Bool.and_self, Bool.and_true, Bool.true_and, ]), ?_⟩; (conv => whnf); (try (refine ⟨by kernel_rfl, ?_⟩; conv => whnf))
      exact ⟨_, rfl, rfl⟩
end Go.Proofs.YtidkdlaihmpjfaaDoor
namespace Go.Proofs.YtidkdlaihmpjfaaDoor
set_option linter.unusedVariables false
set_option linter.unusedSimpArgs false
set_option linter.unusedSectionVars false
open Go.ChangeShapes Go.WideShapes Go.ChangeAt Go.RowKit Go.Joins
set_option maxRecDepth 10000
theorem sum2_of {c : CvD} {u v : Nat} {p q a b r : PtD}
    (h1 : FnV Tryd.prog G0 51 [c.v, uV u, p.v] (.tup [a.v, nI .i64 0]))
    (h2 : FnV Tryd.prog G0 51 [c.v, uV v, q.v] (.tup [b.v, nI .i64 0]))
    (h3 : FnV Tryd.prog G0 89 [c.v, a.v, b.v] (.tup [r.v, nI .i64 0])) :
    FnV Tryd.prog G0 65 [c.v, uV u, p.v, uV v, q.v] (.tup [r.v, nI .i64 0]) := by
  unfold CvD.v CvD.cells PtD.v PtD.cells at *
  refine fn_of_vwp Γok Tryd.func65 (by kernel_rfl) rfl (by simp [Tryd.ntmps65]) (wpv_ok Γok (by kernel_rfl) _ _ _ ?_); conv => whnf
  refine ⟨_, ret_of_fn G0ok (h1) (by first | rfl | simp only [noHs, noH, nI, bI, Bool.and_self, Bool.and_true, Bool.true_and, ]) (by first | rfl | simp only [noHs, noH, nI, bI, Bool.and_self, Bool.and_true, Bool.true_and, ]), ?_⟩; (conv => whnf); (try (refine ⟨by kernel_rfl, ?_⟩; conv => whnf))
  refine ⟨_, ret_of_fn G0ok (h2) (by first | rfl | simp only [noHs, noH, nI, bI, Bool.and_self, Bool.and_true, Bool.true_and, ]) (by first | rfl | simp only [noHs, noH, nI, bI, Bool.and_self, Bool.and_true, Bool.true_and, ]), ?_⟩; (conv => whnf); (try (refine ⟨by kernel_rfl, ?_⟩; conv => whnf))
  refine ⟨_, ret_of_fn G0ok (h3) (by first | rfl | simp only [noHs, noH, nI, bI, Bool.and_self, Bool.and_true, Bool.true_and, ]) (by first | rfl | simp only [noHs, noH, nI, bI, Bool.and_self, Bool.and_true, Bool.true_and, ]), ?_⟩; (conv => whnf); (try (refine ⟨by kernel_rfl, ?_⟩; conv => whnf))
  exact ⟨_, rfl, rfl⟩
/-- What Check answers where all is well formed. -/
noncomputable def chkE (c : CvD) (p : PtD) (R : Nat) : Bool := !p.far && decide (modN p.x c.N = R)
theorem check_of {c : CvD} (g : Good c) {q : PtD} (hq : OnP c q) (qf : q.far = false) {h : List Nat} (lh : h.length = 32) (hh : ∀ x ∈ h, x < 256) {s : SgD} (hs : formB c s = true) (hR : s.R < c.N) (hS : s.S < c.N) (hg : Nat.gcd s.S c.N = 1) {p : PtD} (hp : p.x < T256)
    (h2 : FnV Tryd.prog G0 65 [c.v, uV (mulM c.N (modN (fromV h 32) c.N) (invM c.N s.S)), c.base.v, uV (mulM c.N s.R (invM c.N s.S)), q.v] (.tup [p.v, nI .i64 0])) : FnV Tryd.prog G0 35 [c.v, q.v, .agg (bts h), s.v] (nI .i64 (if chkE c p s.R then 0 else 10)) := by
  obtain ⟨px, py, pf⟩ := p
  have ec : chkE c ⟨px, py, pf⟩ s.R = (!pf && decide (modN px c.N = s.R)) := rfl
  rw [ec]
  clear ec
  dsimp only at hp
  have hN := g.N
  have n1 := g.n1
  have on := con_ok g hq
  have fm := formed_fn (s := s) hN (by omega) (by omega)
  rw [hs] at fm
  have iv := inv_all hS hN
  have hi : invR s.S c.N = invM c.N s.S := by unfold invR; rw [if_pos hg]
  have hi2 : invE s.S c.N = 0 := by unfold invE; rw [if_pos hg]
  have li : invM c.N s.S < c.N := (invM_ok hS hg).1
  rw [hi, hi2] at iv
  have f := from_fn h lh hh
  have r := rest_fn (fromV_lt h hh) hN (by omega)
  have hz : modN (fromV h 32) c.N < c.N := by rw [modN_def]; exact Nat.mod_lt _ (by omega)
  have mu := mul_by hz li hN
  have mv := mul_by hR li hN
  have r2 := rest_fn hp hN (by omega)
  have nu := ne_uC (a := modN px c.N) (b := s.R) (modN_lt _ hp) (by omega)
  have m2 : (bts h).length = 32 := by rw [bts_length, lh]
  unfold CvD.base at h2
  unfold CvD.v CvD.cells PtD.v PtD.cells SgD.v SgD.cells at *
  dsimp only at *
  rw [qf] at *
  refine fn_of_vwp Γok Tryd.func35 (by kernel_rfl) rfl (by simp [Tryd.ntmps35]) (wpv_ok Γok (by kernel_rfl) _ _ _ ?_); conv => whnf
  refine ⟨_, ret_of_fn G0ok (on) (by first | rfl | simp only [noHs, noH, nI, bI, Bool.and_self, Bool.and_true, Bool.true_and, ]) (by first | rfl | simp only [noHs, noH, nI, bI, Bool.and_self, Bool.and_true, Bool.true_and, ]), ?_⟩; (conv => whnf); (try (refine ⟨by kernel_rfl, ?_⟩; conv => whnf))
  refine ⟨_, ret_of_fn G0ok (fm) (by first | rfl | simp only [noHs, noH, nI, bI, Bool.and_self, Bool.and_true, Bool.true_and, ]) (by first | rfl | simp only [noHs, noH, nI, bI, Bool.and_self, Bool.and_true, Bool.true_and, ]), ?_⟩; (conv => whnf); (try (refine ⟨by kernel_rfl, ?_⟩; conv => whnf))
  refine ⟨_, ret_of_fn G0ok (iv) (by first | rfl | simp only [noHs, noH, nI, bI, Bool.and_self, Bool.and_true, Bool.true_and, ]) (by first | rfl | simp only [noHs, noH, nI, bI, Bool.and_self, Bool.and_true, Bool.true_and, ]), ?_⟩; (conv => whnf); (try (refine ⟨by kernel_rfl, ?_⟩; conv => whnf))
  refine bindP_intro (load_agg rfl rfl m2) ?_
  conv => whnf
  try (refine ⟨by kernel_rfl, ?_⟩; conv => whnf)
  refine ⟨_, ret_of_fn G0ok (f) (by first | rfl | simp only [noHs, noH, nI, bI, Bool.and_self, Bool.and_true, Bool.true_and, bts_noHs]) (by first | rfl | simp only [noHs, noH, nI, bI, Bool.and_self, Bool.and_true, Bool.true_and, bts_noHs]), ?_⟩; (conv => whnf); (try (refine ⟨by kernel_rfl, ?_⟩; conv => whnf))
  refine ⟨_, ret_of_fn G0ok (r) (by first | rfl | simp only [noHs, noH, nI, bI, Bool.and_self, Bool.and_true, Bool.true_and, ]) (by first | rfl | simp only [noHs, noH, nI, bI, Bool.and_self, Bool.and_true, Bool.true_and, ]), ?_⟩; (conv => whnf); (try (refine ⟨by kernel_rfl, ?_⟩; conv => whnf))
  refine ⟨_, ret_of_fn G0ok (mu) (by first | rfl | simp only [noHs, noH, nI, bI, Bool.and_self, Bool.and_true, Bool.true_and, ]) (by first | rfl | simp only [noHs, noH, nI, bI, Bool.and_self, Bool.and_true, Bool.true_and, ]), ?_⟩; (conv => whnf); (try (refine ⟨by kernel_rfl, ?_⟩; conv => whnf))
  refine ⟨_, ret_of_fn G0ok (mv) (by first | rfl | simp only [noHs, noH, nI, bI, Bool.and_self, Bool.and_true, Bool.true_and, ]) (by first | rfl | simp only [noHs, noH, nI, bI, Bool.and_self, Bool.and_true, Bool.true_and, ]), ?_⟩; (conv => whnf); (try (refine ⟨by kernel_rfl, ?_⟩; conv => whnf))
  refine ⟨_, ret_of_fn G0ok (h2) (by first | rfl | simp only [noHs, noH, nI, bI, Bool.and_self, Bool.and_true, Bool.true_and, ]) (by first | rfl | simp only [noHs, noH, nI, bI, Bool.and_self, Bool.and_true, Bool.true_and, ]), ?_⟩; (conv => whnf); (try (refine ⟨by kernel_rfl, ?_⟩; conv => whnf))
  cases pf
  · conv => whnf
    try (refine ⟨by kernel_rfl, ?_⟩; conv => whnf)
    refine ⟨_, ret_of_fn G0ok (r2) (by first | rfl | simp only [noHs, noH, nI, bI, Bool.and_self, Bool.and_true, Bool.true_and, ]) (by first | rfl | simp only [noHs, noH, nI, bI, Bool.and_self, Bool.and_true, Bool.true_and, ]), ?_⟩; (conv => whnf); (try (refine ⟨by kernel_rfl, ?_⟩; conv => whnf))
    refine ⟨_, nu, ?_⟩
    conv => whnf
    try (refine ⟨by kernel_rfl, ?_⟩; conv => whnf)
    refine gen_ex (decide (modN px c.N = s.R)) fun b eb => ?_
    rw [← eb]
    cases b
    · conv => whnf
      try (refine ⟨by kernel_rfl, ?_⟩; conv => whnf)
      exact ⟨_, rfl, rfl⟩
    · conv => whnf
      try (refine ⟨by kernel_rfl, ?_⟩; conv => whnf)
      exact ⟨_, rfl, rfl⟩
  · conv => whnf
    try (refine ⟨by kernel_rfl, ?_⟩; conv => whnf)
    exact ⟨_, rfl, rfl⟩
end Go.Proofs.YtidkdlaihmpjfaaDoor
namespace Go.Proofs.YtidkdlaihmpjfaaDoor
set_option linter.unusedVariables false
set_option linter.unusedSimpArgs false
set_option linter.unusedSectionVars false
open Go.ChangeShapes Go.WideShapes Go.ChangeAt Go.RowKit Go.Joins
set_option maxRecDepth 10000
theorem sec_true {c : CvD} {d : Nat} (h0 : d ≠ 0) (h : d < c.N) : secB c d = true := by unfold secB; rw [decide_eq_false h0, decide_eq_true h]; rfl
theorem form_true {c : CvD} {s : SgD} (r0 : s.R ≠ 0) (r1 : s.R < c.N) (s0 : s.S ≠ 0) (s1 : s.S < c.N) (s2 : s.S ≤ c.N / 2) (o0 : 0 ≤ s.odd) (o3 : s.odd ≤ 3) : formB c s = true := by
  unfold formB
  rw [sec_true r0 r1, sec_true s0 s1, decide_eq_true s2, decide_eq_true o0, decide_eq_true o3]
  rfl
theorem recover_of {c : CvD} (g : Good c) {h : List Nat} (lh : h.length = 32) (hh : ∀ x ∈ h, x < 256) {s : SgD} {o : Nat} (ho : s.odd = (o : Int)) (ho3 : o ≤ 3) (hs : formB c s = true) (hR : s.R < c.N) (hS : s.S < c.N) (hg : Nat.gcd s.R c.N = 1) {x : Nat} (hx : x = s.R + if 2 ≤ o then c.N else 0) (hxP : x < c.P) {p q : PtD}
    (hl : FnV Tryd.prog G0 61 [c.v, uV x, bI (decide (o % 2 = 1))] (.tup [p.v, nI .i64 0]))
    (h2 : FnV Tryd.prog G0 65 [c.v, uV (mulM c.N s.S (invM c.N s.R)), p.v, uV (subM c.N 0 (mulM c.N (modN (fromV h 32) c.N) (invM c.N s.R))), c.base.v] (.tup [q.v, nI .i64 0])) (qf : q.far = false) : FnV Tryd.prog G0 33 [c.v, .agg (bts h), s.v] (.tup [q.v, nI .i64 0]) := by
  have hN := g.N
  have n1 := g.n1
  have hP := g.P
  have k := chk_ok g
  have fm := formed_fn (s := s) hN (by omega) (by omega)
  rw [hs] at fm
  have iv := inv_all hR hN
  have hi : invR s.R c.N = invM c.N s.R := by unfold invR; rw [if_pos hg]
  have hi2 : invE s.R c.N = 0 := by unfold invE; rw [if_pos hg]
  have li : invM c.N s.R < c.N := (invM_ok hR hg).1
  rw [hi, hi2] at iv
  have f := from_fn h lh hh
  have r := rest_fn (fromV_lt h hh) hN (by omega)
  have hz : modN (fromV h 32) c.N < c.N := by rw [modN_def]; exact Nat.mod_lt _ (by omega)
  have mu := mul_by hS li hN
  have mv := mul_by hz li hN
  have sv := sub_by (a := 0) (b := mulM c.N (modN (fromV h 32) c.N) (invM c.N s.R)) (by omega) (mulM_lt (by omega)) hN
  rw [show uV 0 = .agg (words [0, 0, 0, 0]) from congrArg VV.agg (uC_lit (n := 0) (by decide))] at sv
  have cm := cmp_fn (a := x) (b := c.P) (by omega) hP
  rw [cmpN_lt hxP] at cm
  have m2 : (bts h).length = 32 := by rw [bts_length, lh]
  have ad := add_fn (a := s.R) (b := c.N) (by omega) hN
  have e1 : decide ((2 : Int) ≤ (o : Int)) = decide (2 ≤ o) := decide_eq_decide.2 (by omega)
  have e2 : ((o : Int).tmod 2 == 1) = decide (o % 2 = 1) := by
    rw [Int.tmod_eq_emod_of_nonneg (by omega), show (o : Int) % 2 = ((o % 2 : Nat) : Int) from by omega]
    have : o % 2 = 0 ∨ o % 2 = 1 := by omega
    rcases this with h | h <;> rw [h] <;> rfl
  obtain ⟨sR, sS, sO⟩ := s
  dsimp only at *
  subst ho
  unfold CvD.base at h2
  unfold CvD.v CvD.cells PtD.v PtD.cells SgD.v SgD.cells at *
  dsimp only at *
  rw [qf] at *
  refine fn_of_vwp Γok Tryd.func33 (by kernel_rfl) rfl (by simp [Tryd.ntmps33]) (wpv_ok Γok (by kernel_rfl) _ _ _ ?_); conv => whnf
  refine ⟨_, ret_of_fn G0ok (k) (by first | rfl | simp only [noHs, noH, nI, bI, Bool.and_self, Bool.and_true, Bool.true_and, ]) (by first | rfl | simp only [noHs, noH, nI, bI, Bool.and_self, Bool.and_true, Bool.true_and, ]), ?_⟩; (conv => whnf); (try (refine ⟨by kernel_rfl, ?_⟩; conv => whnf))
  refine ⟨_, ret_of_fn G0ok (fm) (by first | rfl | simp only [noHs, noH, nI, bI, Bool.and_self, Bool.and_true, Bool.true_and, ]) (by first | rfl | simp only [noHs, noH, nI, bI, Bool.and_self, Bool.and_true, Bool.true_and, ]), ?_⟩; (conv => whnf); (try (refine ⟨by kernel_rfl, ?_⟩; conv => whnf))
  by_cases ho2 : 2 ≤ o
  · rw [decide_eq_true (show (2 : Int) ≤ (o : Int) by omega)]
    rw [if_pos ho2] at hx
    rw [addS_def, addO_def, ← hx, Nat.mod_eq_of_lt (by omega), decide_eq_false (by omega)] at ad
    conv => whnf
    try (refine ⟨by kernel_rfl, ?_⟩; conv => whnf)
    refine ⟨_, ret_of_fn G0ok (ad) (by first | rfl | simp only [noHs, noH, nI, bI, Bool.and_self, Bool.and_true, Bool.true_and, ]) (by first | rfl | simp only [noHs, noH, nI, bI, Bool.and_self, Bool.and_true, Bool.true_and, ]), ?_⟩; (conv => whnf); (try (refine ⟨by kernel_rfl, ?_⟩; conv => whnf))
    refine ⟨_, ret_of_fn G0ok (cm) (by first | rfl | simp only [noHs, noH, nI, bI, Bool.and_self, Bool.and_true, Bool.true_and, ]) (by first | rfl | simp only [noHs, noH, nI, bI, Bool.and_self, Bool.and_true, Bool.true_and, ]), ?_⟩; (conv => whnf); (try (refine ⟨by kernel_rfl, ?_⟩; conv => whnf))
    rw [e2]
    conv => whnf
    try (refine ⟨by kernel_rfl, ?_⟩; conv => whnf)
    refine ⟨_, ret_of_fn G0ok (hl) (by first | rfl | simp only [noHs, noH, nI, bI, Bool.and_self, Bool.and_true, Bool.true_and, ]) (by first | rfl | simp only [noHs, noH, nI, bI, Bool.and_self, Bool.and_true, Bool.true_and, ]), ?_⟩; (conv => whnf); (try (refine ⟨by kernel_rfl, ?_⟩; conv => whnf))
    refine ⟨_, ret_of_fn G0ok (iv) (by first | rfl | simp only [noHs, noH, nI, bI, Bool.and_self, Bool.and_true, Bool.true_and, ]) (by first | rfl | simp only [noHs, noH, nI, bI, Bool.and_self, Bool.and_true, Bool.true_and, ]), ?_⟩; (conv => whnf); (try (refine ⟨by kernel_rfl, ?_⟩; conv => whnf))
    refine ⟨_, ret_of_fn G0ok (mu) (by first | rfl | simp only [noHs, noH, nI, bI, Bool.and_self, Bool.and_true, Bool.true_and, ]) (by first | rfl | simp only [noHs, noH, nI, bI, Bool.and_self, Bool.and_true, Bool.true_and, ]), ?_⟩; (conv => whnf); (try (refine ⟨by kernel_rfl, ?_⟩; conv => whnf))
    refine bindP_intro (load_agg rfl rfl m2) ?_
    conv => whnf
    try (refine ⟨by kernel_rfl, ?_⟩; conv => whnf)
    refine ⟨_, ret_of_fn G0ok (f) (by first | rfl | simp only [noHs, noH, nI, bI, Bool.and_self, Bool.and_true, Bool.true_and, bts_noHs]) (by first | rfl | simp only [noHs, noH, nI, bI, Bool.and_self, Bool.and_true, Bool.true_and, bts_noHs]), ?_⟩; (conv => whnf); (try (refine ⟨by kernel_rfl, ?_⟩; conv => whnf))
    refine ⟨_, ret_of_fn G0ok (r) (by first | rfl | simp only [noHs, noH, nI, bI, Bool.and_self, Bool.and_true, Bool.true_and, ]) (by first | rfl | simp only [noHs, noH, nI, bI, Bool.and_self, Bool.and_true, Bool.true_and, ]), ?_⟩; (conv => whnf); (try (refine ⟨by kernel_rfl, ?_⟩; conv => whnf))
    refine ⟨_, ret_of_fn G0ok (mv) (by first | rfl | simp only [noHs, noH, nI, bI, Bool.and_self, Bool.and_true, Bool.true_and, ]) (by first | rfl | simp only [noHs, noH, nI, bI, Bool.and_self, Bool.and_true, Bool.true_and, ]), ?_⟩; (conv => whnf); (try (refine ⟨by kernel_rfl, ?_⟩; conv => whnf))
    refine ⟨_, ret_of_fn G0ok (sv) (by first | rfl | simp only [noHs, noH, nI, bI, Bool.and_self, Bool.and_true, Bool.true_and, ]) (by first | rfl | simp only [noHs, noH, nI, bI, Bool.and_self, Bool.and_true, Bool.true_and, ]), ?_⟩; (conv => whnf); (try (refine ⟨by kernel_rfl, ?_⟩; conv => whnf))
    refine ⟨_, ret_of_fn G0ok (h2) (by first | rfl | simp only [noHs, noH, nI, bI, Bool.and_self, Bool.and_true, Bool.true_and, ]) (by first | rfl | simp only [noHs, noH, nI, bI, Bool.and_self, Bool.and_true, Bool.true_and, ]), ?_⟩; (conv => whnf); (try (refine ⟨by kernel_rfl, ?_⟩; conv => whnf))
    exact ⟨_, rfl, rfl⟩
  · rw [decide_eq_false (show ¬ (2 : Int) ≤ (o : Int) by omega)]
    rw [if_neg ho2, Nat.add_zero] at hx
    subst hx
    conv => whnf
    try (refine ⟨by kernel_rfl, ?_⟩; conv => whnf)
    refine ⟨_, ret_of_fn G0ok (cm) (by first | rfl | simp only [noHs, noH, nI, bI, Bool.and_self, Bool.and_true, Bool.true_and, ]) (by first | rfl | simp only [noHs, noH, nI, bI, Bool.and_self, Bool.and_true, Bool.true_and, ]), ?_⟩; (conv => whnf); (try (refine ⟨by kernel_rfl, ?_⟩; conv => whnf))
    rw [e2]
    conv => whnf
    try (refine ⟨by kernel_rfl, ?_⟩; conv => whnf)
    refine ⟨_, ret_of_fn G0ok (hl) (by first | rfl | simp only [noHs, noH, nI, bI, Bool.and_self, Bool.and_true, Bool.true_and, ]) (by first | rfl | simp only [noHs, noH, nI, bI, Bool.and_self, Bool.and_true, Bool.true_and, ]), ?_⟩; (conv => whnf); (try (refine ⟨by kernel_rfl, ?_⟩; conv => whnf))
    refine ⟨_, ret_of_fn G0ok (iv) (by first | rfl | simp only [noHs, noH, nI, bI, Bool.and_self, Bool.and_true, Bool.true_and, ]) (by first | rfl | simp only [noHs, noH, nI, bI, Bool.and_self, Bool.and_true, Bool.true_and, ]), ?_⟩; (conv => whnf); (try (refine ⟨by kernel_rfl, ?_⟩; conv => whnf))
    refine ⟨_, ret_of_fn G0ok (mu) (by first | rfl | simp only [noHs, noH, nI, bI, Bool.and_self, Bool.and_true, Bool.true_and, ]) (by first | rfl | simp only [noHs, noH, nI, bI, Bool.and_self, Bool.and_true, Bool.true_and, ]), ?_⟩; (conv => whnf); (try (refine ⟨by kernel_rfl, ?_⟩; conv => whnf))
    refine bindP_intro (load_agg rfl rfl m2) ?_
    conv => whnf
    try (refine ⟨by kernel_rfl, ?_⟩; conv => whnf)
    refine ⟨_, ret_of_fn G0ok (f) (by first | rfl | simp only [noHs, noH, nI, bI, Bool.and_self, Bool.and_true, Bool.true_and, bts_noHs]) (by first | rfl | simp only [noHs, noH, nI, bI, Bool.and_self, Bool.and_true, Bool.true_and, bts_noHs]), ?_⟩; (conv => whnf); (try (refine ⟨by kernel_rfl, ?_⟩; conv => whnf))
    refine ⟨_, ret_of_fn G0ok (r) (by first | rfl | simp only [noHs, noH, nI, bI, Bool.and_self, Bool.and_true, Bool.true_and, ]) (by first | rfl | simp only [noHs, noH, nI, bI, Bool.and_self, Bool.and_true, Bool.true_and, ]), ?_⟩; (conv => whnf); (try (refine ⟨by kernel_rfl, ?_⟩; conv => whnf))
    refine ⟨_, ret_of_fn G0ok (mv) (by first | rfl | simp only [noHs, noH, nI, bI, Bool.and_self, Bool.and_true, Bool.true_and, ]) (by first | rfl | simp only [noHs, noH, nI, bI, Bool.and_self, Bool.and_true, Bool.true_and, ]), ?_⟩; (conv => whnf); (try (refine ⟨by kernel_rfl, ?_⟩; conv => whnf))
    refine ⟨_, ret_of_fn G0ok (sv) (by first | rfl | simp only [noHs, noH, nI, bI, Bool.and_self, Bool.and_true, Bool.true_and, ]) (by first | rfl | simp only [noHs, noH, nI, bI, Bool.and_self, Bool.and_true, Bool.true_and, ]), ?_⟩; (conv => whnf); (try (refine ⟨by kernel_rfl, ?_⟩; conv => whnf))
    refine ⟨_, ret_of_fn G0ok (h2) (by first | rfl | simp only [noHs, noH, nI, bI, Bool.and_self, Bool.and_true, Bool.true_and, ]) (by first | rfl | simp only [noHs, noH, nI, bI, Bool.and_self, Bool.and_true, Bool.true_and, ]), ?_⟩; (conv => whnf); (try (refine ⟨by kernel_rfl, ?_⟩; conv => whnf))
    exact ⟨_, rfl, rfl⟩
end Go.Proofs.YtidkdlaihmpjfaaDoor
namespace Go.Proofs.YtidkdlaihmpjfaaDoor
set_option linter.unusedVariables false
set_option linter.unusedSimpArgs false
set_option linter.unusedSectionVars false
open Go.ChangeShapes Go.WideShapes Go.ChangeAt Go.RowKit Go.Joins
set_option maxRecDepth 10000
theorem nil_v : nilP.v = .agg (words [0, 0, 0, 0, 0, 0, 0, 0] ++ [bI false]) := by
  unfold PtD.v PtD.cells nilP
  rw [show uC 0 = words [0, 0, 0, 0] from uC_lit (n := 0) (by decide)]
  rfl
theorem rec_unformed {c : CvD} (g : Good c) {h : List Nat} {s : SgD} (hR : s.R < T256) (hS : s.S < T256) (hs : formB c s = false) : FnV Tryd.prog G0 33 [c.v, .agg (bts h), s.v] (.tup [nilP.v, nI .i64 10]) := by
  have k := chk_ok g
  have fm := formed_fn (s := s) g.N hR hS
  rw [hs] at fm
  rw [nil_v]
  unfold CvD.v CvD.cells SgD.v SgD.cells at *
  refine fn_of_vwp Γok Tryd.func33 (by kernel_rfl) rfl (by simp [Tryd.ntmps33]) (wpv_ok Γok (by kernel_rfl) _ _ _ ?_); conv => whnf
  refine ⟨_, ret_of_fn G0ok (k) (by first | rfl | simp only [noHs, noH, nI, bI, Bool.and_self, Bool.and_true, Bool.true_and, ]) (by first | rfl | simp only [noHs, noH, nI, bI, Bool.and_self, Bool.and_true, Bool.true_and, ]), ?_⟩; (conv => whnf); (try (refine ⟨by kernel_rfl, ?_⟩; conv => whnf))
  refine ⟨_, ret_of_fn G0ok (fm) (by first | rfl | simp only [noHs, noH, nI, bI, Bool.and_self, Bool.and_true, Bool.true_and, ]) (by first | rfl | simp only [noHs, noH, nI, bI, Bool.and_self, Bool.and_true, Bool.true_and, ]), ?_⟩; (conv => whnf); (try (refine ⟨by kernel_rfl, ?_⟩; conv => whnf))
  exact ⟨_, rfl, rfl⟩
theorem check_unformed {c : CvD} (g : Good c) {q : PtD} (hq : OnP c q) (qf : q.far = false) {h : List Nat} {s : SgD} (hR : s.R < T256) (hS : s.S < T256) (hs : formB c s = false) : FnV Tryd.prog G0 35 [c.v, q.v, .agg (bts h), s.v] (nI .i64 10) := by
  have on := con_ok g hq
  have fm := formed_fn (s := s) g.N hR hS
  rw [hs] at fm
  unfold CvD.v CvD.cells PtD.v PtD.cells SgD.v SgD.cells at *
  rw [qf] at *
  refine fn_of_vwp Γok Tryd.func35 (by kernel_rfl) rfl (by simp [Tryd.ntmps35]) (wpv_ok Γok (by kernel_rfl) _ _ _ ?_); conv => whnf
  refine ⟨_, ret_of_fn G0ok (on) (by first | rfl | simp only [noHs, noH, nI, bI, Bool.and_self, Bool.and_true, Bool.true_and, ]) (by first | rfl | simp only [noHs, noH, nI, bI, Bool.and_self, Bool.and_true, Bool.true_and, ]), ?_⟩; (conv => whnf); (try (refine ⟨by kernel_rfl, ?_⟩; conv => whnf))
  refine ⟨_, ret_of_fn G0ok (fm) (by first | rfl | simp only [noHs, noH, nI, bI, Bool.and_self, Bool.and_true, Bool.true_and, ]) (by first | rfl | simp only [noHs, noH, nI, bI, Bool.and_self, Bool.and_true, Bool.true_and, ]), ?_⟩; (conv => whnf); (try (refine ⟨by kernel_rfl, ?_⟩; conv => whnf))
  exact ⟨_, rfl, rfl⟩
theorem par_o {o : Nat} : ((o : Int).tmod 2 == 1) = decide (o % 2 = 1) := by
  rw [Int.tmod_eq_emod_of_nonneg (by omega), show (o : Int) % 2 = ((o % 2 : Nat) : Int) from by omega]
  have : o % 2 = 0 ∨ o % 2 = 1 := by omega
  rcases this with h | h <;> rw [h] <;> rfl
theorem rec_big {c : CvD} (g : Good c) {h : List Nat} {s : SgD} {o : Nat} (ho : s.odd = (o : Int)) (hs : formB c s = true) (hR : s.R < c.N) (hS : s.S < c.N) (hNP : s.R + c.N < T256) {x : Nat} (hx : x = s.R + if 2 ≤ o then c.N else 0) (hxP : c.P ≤ x) : FnV Tryd.prog G0 33 [c.v, .agg (bts h), s.v] (.tup [nilP.v, nI .i64 10]) := by
  have hN := g.N
  have hP := g.P
  have k := chk_ok g
  have fm := formed_fn (s := s) hN (by omega) (by omega)
  rw [hs] at fm
  have cm := cmp_fn (a := x) (b := c.P) (by rw [hx]; split <;> omega) hP
  have c2 := cmpN_ge.2 hxP
  have ad := add_fn (a := s.R) (b := c.N) (by omega) hN
  rw [nil_v]
  obtain ⟨sR, sS, sO⟩ := s
  dsimp only at *
  subst ho
  unfold CvD.v CvD.cells SgD.v SgD.cells at *
  dsimp only at *
  refine fn_of_vwp Γok Tryd.func33 (by kernel_rfl) rfl (by simp [Tryd.ntmps33]) (wpv_ok Γok (by kernel_rfl) _ _ _ ?_); conv => whnf
  refine ⟨_, ret_of_fn G0ok (k) (by first | rfl | simp only [noHs, noH, nI, bI, Bool.and_self, Bool.and_true, Bool.true_and, ]) (by first | rfl | simp only [noHs, noH, nI, bI, Bool.and_self, Bool.and_true, Bool.true_and, ]), ?_⟩; (conv => whnf); (try (refine ⟨by kernel_rfl, ?_⟩; conv => whnf))
  refine ⟨_, ret_of_fn G0ok (fm) (by first | rfl | simp only [noHs, noH, nI, bI, Bool.and_self, Bool.and_true, Bool.true_and, ]) (by first | rfl | simp only [noHs, noH, nI, bI, Bool.and_self, Bool.and_true, Bool.true_and, ]), ?_⟩; (conv => whnf); (try (refine ⟨by kernel_rfl, ?_⟩; conv => whnf))
  by_cases ho2 : 2 ≤ o
  · rw [decide_eq_true (show (2 : Int) ≤ (o : Int) by omega)]
    rw [if_pos ho2] at hx
    rw [addS_def, addO_def, ← hx, Nat.mod_eq_of_lt (by omega), decide_eq_false (by omega)] at ad
    conv => whnf
    try (refine ⟨by kernel_rfl, ?_⟩; conv => whnf)
    refine ⟨_, ret_of_fn G0ok (ad) (by first | rfl | simp only [noHs, noH, nI, bI, Bool.and_self, Bool.and_true, Bool.true_and, ]) (by first | rfl | simp only [noHs, noH, nI, bI, Bool.and_self, Bool.and_true, Bool.true_and, ]), ?_⟩; (conv => whnf); (try (refine ⟨by kernel_rfl, ?_⟩; conv => whnf))
    refine ⟨_, ret_of_fn G0ok (cm) (by first | rfl | simp only [noHs, noH, nI, bI, Bool.and_self, Bool.and_true, Bool.true_and, ]) (by first | rfl | simp only [noHs, noH, nI, bI, Bool.and_self, Bool.and_true, Bool.true_and, ]), ?_⟩; (conv => whnf); (try (refine ⟨by kernel_rfl, ?_⟩; conv => whnf))
    rw [decide_eq_true c2]
    conv => whnf
    try (refine ⟨by kernel_rfl, ?_⟩; conv => whnf)
    exact ⟨_, rfl, rfl⟩
  · rw [decide_eq_false (show ¬ (2 : Int) ≤ (o : Int) by omega)]
    rw [if_neg ho2, Nat.add_zero] at hx
    subst hx
    conv => whnf
    try (refine ⟨by kernel_rfl, ?_⟩; conv => whnf)
    refine ⟨_, ret_of_fn G0ok (cm) (by first | rfl | simp only [noHs, noH, nI, bI, Bool.and_self, Bool.and_true, Bool.true_and, ]) (by first | rfl | simp only [noHs, noH, nI, bI, Bool.and_self, Bool.and_true, Bool.true_and, ]), ?_⟩; (conv => whnf); (try (refine ⟨by kernel_rfl, ?_⟩; conv => whnf))
    rw [decide_eq_true c2]
    conv => whnf
    try (refine ⟨by kernel_rfl, ?_⟩; conv => whnf)
    exact ⟨_, rfl, rfl⟩
theorem rec_none {c : CvD} (g : Good c) {h : List Nat} {s : SgD} {o : Nat} (ho : s.odd = (o : Int)) (hs : formB c s = true) (hR : s.R < c.N) (hS : s.S < c.N) {x : Nat} (hx : x = s.R + if 2 ≤ o then c.N else 0) (hxP : x < c.P)
    (hl : FnV Tryd.prog G0 61 [c.v, uV x, bI (decide (o % 2 = 1))] (.tup [nilP.v, nI .i64 16])) : FnV Tryd.prog G0 33 [c.v, .agg (bts h), s.v] (.tup [nilP.v, nI .i64 10]) := by
  have hN := g.N
  have hP := g.P
  have k := chk_ok g
  have fm := formed_fn (s := s) hN (by omega) (by omega)
  rw [hs] at fm
  have cm := cmp_fn (a := x) (b := c.P) (by omega) hP
  rw [cmpN_lt hxP] at cm
  have ad := add_fn (a := s.R) (b := c.N) (by omega) hN
  have e2 := par_o (o := o)
  rw [nil_v] at *
  obtain ⟨sR, sS, sO⟩ := s
  dsimp only at *
  subst ho
  unfold CvD.v CvD.cells SgD.v SgD.cells at *
  dsimp only at *
  refine fn_of_vwp Γok Tryd.func33 (by kernel_rfl) rfl (by simp [Tryd.ntmps33]) (wpv_ok Γok (by kernel_rfl) _ _ _ ?_); conv => whnf
  refine ⟨_, ret_of_fn G0ok (k) (by first | rfl | simp only [noHs, noH, nI, bI, Bool.and_self, Bool.and_true, Bool.true_and, ]) (by first | rfl | simp only [noHs, noH, nI, bI, Bool.and_self, Bool.and_true, Bool.true_and, ]), ?_⟩; (conv => whnf); (try (refine ⟨by kernel_rfl, ?_⟩; conv => whnf))
  refine ⟨_, ret_of_fn G0ok (fm) (by first | rfl | simp only [noHs, noH, nI, bI, Bool.and_self, Bool.and_true, Bool.true_and, ]) (by first | rfl | simp only [noHs, noH, nI, bI, Bool.and_self, Bool.and_true, Bool.true_and, ]), ?_⟩; (conv => whnf); (try (refine ⟨by kernel_rfl, ?_⟩; conv => whnf))
  by_cases ho2 : 2 ≤ o
  · rw [decide_eq_true (show (2 : Int) ≤ (o : Int) by omega)]
    rw [if_pos ho2] at hx
    rw [addS_def, addO_def, ← hx, Nat.mod_eq_of_lt (by omega), decide_eq_false (by omega)] at ad
    conv => whnf
    try (refine ⟨by kernel_rfl, ?_⟩; conv => whnf)
    refine ⟨_, ret_of_fn G0ok (ad) (by first | rfl | simp only [noHs, noH, nI, bI, Bool.and_self, Bool.and_true, Bool.true_and, ]) (by first | rfl | simp only [noHs, noH, nI, bI, Bool.and_self, Bool.and_true, Bool.true_and, ]), ?_⟩; (conv => whnf); (try (refine ⟨by kernel_rfl, ?_⟩; conv => whnf))
    refine ⟨_, ret_of_fn G0ok (cm) (by first | rfl | simp only [noHs, noH, nI, bI, Bool.and_self, Bool.and_true, Bool.true_and, ]) (by first | rfl | simp only [noHs, noH, nI, bI, Bool.and_self, Bool.and_true, Bool.true_and, ]), ?_⟩; (conv => whnf); (try (refine ⟨by kernel_rfl, ?_⟩; conv => whnf))
    rw [e2]
    conv => whnf
    try (refine ⟨by kernel_rfl, ?_⟩; conv => whnf)
    refine ⟨_, ret_of_fn G0ok (hl) (by first | rfl | simp only [noHs, noH, nI, bI, Bool.and_self, Bool.and_true, Bool.true_and, ]) (by first | rfl | simp only [noHs, noH, nI, bI, Bool.and_self, Bool.and_true, Bool.true_and, ]), ?_⟩; (conv => whnf); (try (refine ⟨by kernel_rfl, ?_⟩; conv => whnf))
    exact ⟨_, rfl, rfl⟩
  · rw [decide_eq_false (show ¬ (2 : Int) ≤ (o : Int) by omega)]
    rw [if_neg ho2, Nat.add_zero] at hx
    subst hx
    conv => whnf
    try (refine ⟨by kernel_rfl, ?_⟩; conv => whnf)
    refine ⟨_, ret_of_fn G0ok (cm) (by first | rfl | simp only [noHs, noH, nI, bI, Bool.and_self, Bool.and_true, Bool.true_and, ]) (by first | rfl | simp only [noHs, noH, nI, bI, Bool.and_self, Bool.and_true, Bool.true_and, ]), ?_⟩; (conv => whnf); (try (refine ⟨by kernel_rfl, ?_⟩; conv => whnf))
    rw [e2]
    conv => whnf
    try (refine ⟨by kernel_rfl, ?_⟩; conv => whnf)
    refine ⟨_, ret_of_fn G0ok (hl) (by first | rfl | simp only [noHs, noH, nI, bI, Bool.and_self, Bool.and_true, Bool.true_and, ]) (by first | rfl | simp only [noHs, noH, nI, bI, Bool.and_self, Bool.and_true, Bool.true_and, ]), ?_⟩; (conv => whnf); (try (refine ⟨by kernel_rfl, ?_⟩; conv => whnf))
    exact ⟨_, rfl, rfl⟩
theorem recover_far {c : CvD} (g : Good c) {h : List Nat} (lh : h.length = 32) (hh : ∀ x ∈ h, x < 256) {s : SgD} {o : Nat} (ho : s.odd = (o : Int)) (hs : formB c s = true) (hR : s.R < c.N) (hS : s.S < c.N) (hg : Nat.gcd s.R c.N = 1) {x : Nat} (hx : x = s.R + if 2 ≤ o then c.N else 0) (hxP : x < c.P) {p q : PtD}
    (hl : FnV Tryd.prog G0 61 [c.v, uV x, bI (decide (o % 2 = 1))] (.tup [p.v, nI .i64 0]))
    (h2 : FnV Tryd.prog G0 65 [c.v, uV (mulM c.N s.S (invM c.N s.R)), p.v, uV (subM c.N 0 (mulM c.N (modN (fromV h 32) c.N) (invM c.N s.R))), c.base.v] (.tup [q.v, nI .i64 0])) (qf : q.far = true) : FnV Tryd.prog G0 33 [c.v, .agg (bts h), s.v] (.tup [nilP.v, nI .i64 10]) := by
  have hN := g.N
  have n1 := g.n1
  have hP := g.P
  have k := chk_ok g
  have fm := formed_fn (s := s) hN (by omega) (by omega)
  rw [hs] at fm
  have iv := inv_all hR hN
  have hi : invR s.R c.N = invM c.N s.R := by unfold invR; rw [if_pos hg]
  have hi2 : invE s.R c.N = 0 := by unfold invE; rw [if_pos hg]
  have li : invM c.N s.R < c.N := (invM_ok hR hg).1
  rw [hi, hi2] at iv
  have f := from_fn h lh hh
  have r := rest_fn (fromV_lt h hh) hN (by omega)
  have hz : modN (fromV h 32) c.N < c.N := by rw [modN_def]; exact Nat.mod_lt _ (by omega)
  have mu := mul_by hS li hN
  have mv := mul_by hz li hN
  have sv := sub_by (a := 0) (b := mulM c.N (modN (fromV h 32) c.N) (invM c.N s.R)) (by omega) (mulM_lt (by omega)) hN
  rw [show uV 0 = .agg (words [0, 0, 0, 0]) from congrArg VV.agg (uC_lit (n := 0) (by decide))] at sv
  have cm := cmp_fn (a := x) (b := c.P) (by omega) hP
  rw [cmpN_lt hxP] at cm
  have m2 : (bts h).length = 32 := by rw [bts_length, lh]
  have ad := add_fn (a := s.R) (b := c.N) (by omega) hN
  have e2 := par_o (o := o)
  rw [nil_v]
  obtain ⟨sR, sS, sO⟩ := s
  dsimp only at *
  subst ho
  unfold CvD.base at h2
  unfold CvD.v CvD.cells PtD.v PtD.cells SgD.v SgD.cells at *
  dsimp only at *
  rw [qf] at *
  refine fn_of_vwp Γok Tryd.func33 (by kernel_rfl) rfl (by simp [Tryd.ntmps33]) (wpv_ok Γok (by kernel_rfl) _ _ _ ?_); conv => whnf
  refine ⟨_, ret_of_fn G0ok (k) (by first | rfl | simp only [noHs, noH, nI, bI, Bool.and_self, Bool.and_true, Bool.true_and, ]) (by first | rfl | simp only [noHs, noH, nI, bI, Bool.and_self, Bool.and_true, Bool.true_and, ]), ?_⟩; (conv => whnf); (try (refine ⟨by kernel_rfl, ?_⟩; conv => whnf))
  refine ⟨_, ret_of_fn G0ok (fm) (by first | rfl | simp only [noHs, noH, nI, bI, Bool.and_self, Bool.and_true, Bool.true_and, ]) (by first | rfl | simp only [noHs, noH, nI, bI, Bool.and_self, Bool.and_true, Bool.true_and, ]), ?_⟩; (conv => whnf); (try (refine ⟨by kernel_rfl, ?_⟩; conv => whnf))
  by_cases ho2 : 2 ≤ o
  · rw [decide_eq_true (show (2 : Int) ≤ (o : Int) by omega)]
    rw [if_pos ho2] at hx
    rw [addS_def, addO_def, ← hx, Nat.mod_eq_of_lt (by omega), decide_eq_false (by omega)] at ad
    conv => whnf
    try (refine ⟨by kernel_rfl, ?_⟩; conv => whnf)
    refine ⟨_, ret_of_fn G0ok (ad) (by first | rfl | simp only [noHs, noH, nI, bI, Bool.and_self, Bool.and_true, Bool.true_and, ]) (by first | rfl | simp only [noHs, noH, nI, bI, Bool.and_self, Bool.and_true, Bool.true_and, ]), ?_⟩; (conv => whnf); (try (refine ⟨by kernel_rfl, ?_⟩; conv => whnf))
    refine ⟨_, ret_of_fn G0ok (cm) (by first | rfl | simp only [noHs, noH, nI, bI, Bool.and_self, Bool.and_true, Bool.true_and, ]) (by first | rfl | simp only [noHs, noH, nI, bI, Bool.and_self, Bool.and_true, Bool.true_and, ]), ?_⟩; (conv => whnf); (try (refine ⟨by kernel_rfl, ?_⟩; conv => whnf))
    rw [e2]
    conv => whnf
    try (refine ⟨by kernel_rfl, ?_⟩; conv => whnf)
    refine ⟨_, ret_of_fn G0ok (hl) (by first | rfl | simp only [noHs, noH, nI, bI, Bool.and_self, Bool.and_true, Bool.true_and, ]) (by first | rfl | simp only [noHs, noH, nI, bI, Bool.and_self, Bool.and_true, Bool.true_and, ]), ?_⟩; (conv => whnf); (try (refine ⟨by kernel_rfl, ?_⟩; conv => whnf))
    refine ⟨_, ret_of_fn G0ok (iv) (by first | rfl | simp only [noHs, noH, nI, bI, Bool.and_self, Bool.and_true, Bool.true_and, ]) (by first | rfl | simp only [noHs, noH, nI, bI, Bool.and_self, Bool.and_true, Bool.true_and, ]), ?_⟩; (conv => whnf); (try (refine ⟨by kernel_rfl, ?_⟩; conv => whnf))
    refine ⟨_, ret_of_fn G0ok (mu) (by first | rfl | simp only [noHs, noH, nI, bI, Bool.and_self, Bool.and_true, Bool.true_and, ]) (by first | rfl | simp only [noHs, noH, nI, bI, Bool.and_self, Bool.and_true, Bool.true_and, ]), ?_⟩; (conv => whnf); (try (refine ⟨by kernel_rfl, ?_⟩; conv => whnf))
    refine bindP_intro (load_agg rfl rfl m2) ?_
    conv => whnf
    try (refine ⟨by kernel_rfl, ?_⟩; conv => whnf)
    refine ⟨_, ret_of_fn G0ok (f) (by first | rfl | simp only [noHs, noH, nI, bI, Bool.and_self, Bool.and_true, Bool.true_and, bts_noHs]) (by first | rfl | simp only [noHs, noH, nI, bI, Bool.and_self, Bool.and_true, Bool.true_and, bts_noHs]), ?_⟩; (conv => whnf); (try (refine ⟨by kernel_rfl, ?_⟩; conv => whnf))
    refine ⟨_, ret_of_fn G0ok (r) (by first | rfl | simp only [noHs, noH, nI, bI, Bool.and_self, Bool.and_true, Bool.true_and, ]) (by first | rfl | simp only [noHs, noH, nI, bI, Bool.and_self, Bool.and_true, Bool.true_and, ]), ?_⟩; (conv => whnf); (try (refine ⟨by kernel_rfl, ?_⟩; conv => whnf))
    refine ⟨_, ret_of_fn G0ok (mv) (by first | rfl | simp only [noHs, noH, nI, bI, Bool.and_self, Bool.and_true, Bool.true_and, ]) (by first | rfl | simp only [noHs, noH, nI, bI, Bool.and_self, Bool.and_true, Bool.true_and, ]), ?_⟩; (conv => whnf); (try (refine ⟨by kernel_rfl, ?_⟩; conv => whnf))
    refine ⟨_, ret_of_fn G0ok (sv) (by first | rfl | simp only [noHs, noH, nI, bI, Bool.and_self, Bool.and_true, Bool.true_and, ]) (by first | rfl | simp only [noHs, noH, nI, bI, Bool.and_self, Bool.and_true, Bool.true_and, ]), ?_⟩; (conv => whnf); (try (refine ⟨by kernel_rfl, ?_⟩; conv => whnf))
    refine ⟨_, ret_of_fn G0ok (h2) (by first | rfl | simp only [noHs, noH, nI, bI, Bool.and_self, Bool.and_true, Bool.true_and, ]) (by first | rfl | simp only [noHs, noH, nI, bI, Bool.and_self, Bool.and_true, Bool.true_and, ]), ?_⟩; (conv => whnf); (try (refine ⟨by kernel_rfl, ?_⟩; conv => whnf))
    exact ⟨_, rfl, rfl⟩
  · rw [decide_eq_false (show ¬ (2 : Int) ≤ (o : Int) by omega)]
    rw [if_neg ho2, Nat.add_zero] at hx
    subst hx
    conv => whnf
    try (refine ⟨by kernel_rfl, ?_⟩; conv => whnf)
    refine ⟨_, ret_of_fn G0ok (cm) (by first | rfl | simp only [noHs, noH, nI, bI, Bool.and_self, Bool.and_true, Bool.true_and, ]) (by first | rfl | simp only [noHs, noH, nI, bI, Bool.and_self, Bool.and_true, Bool.true_and, ]), ?_⟩; (conv => whnf); (try (refine ⟨by kernel_rfl, ?_⟩; conv => whnf))
    rw [e2]
    conv => whnf
    try (refine ⟨by kernel_rfl, ?_⟩; conv => whnf)
    refine ⟨_, ret_of_fn G0ok (hl) (by first | rfl | simp only [noHs, noH, nI, bI, Bool.and_self, Bool.and_true, Bool.true_and, ]) (by first | rfl | simp only [noHs, noH, nI, bI, Bool.and_self, Bool.and_true, Bool.true_and, ]), ?_⟩; (conv => whnf); (try (refine ⟨by kernel_rfl, ?_⟩; conv => whnf))
    refine ⟨_, ret_of_fn G0ok (iv) (by first | rfl | simp only [noHs, noH, nI, bI, Bool.and_self, Bool.and_true, Bool.true_and, ]) (by first | rfl | simp only [noHs, noH, nI, bI, Bool.and_self, Bool.and_true, Bool.true_and, ]), ?_⟩; (conv => whnf); (try (refine ⟨by kernel_rfl, ?_⟩; conv => whnf))
    refine ⟨_, ret_of_fn G0ok (mu) (by first | rfl | simp only [noHs, noH, nI, bI, Bool.and_self, Bool.and_true, Bool.true_and, ]) (by first | rfl | simp only [noHs, noH, nI, bI, Bool.and_self, Bool.and_true, Bool.true_and, ]), ?_⟩; (conv => whnf); (try (refine ⟨by kernel_rfl, ?_⟩; conv => whnf))
    refine bindP_intro (load_agg rfl rfl m2) ?_
    conv => whnf
    try (refine ⟨by kernel_rfl, ?_⟩; conv => whnf)
    refine ⟨_, ret_of_fn G0ok (f) (by first | rfl | simp only [noHs, noH, nI, bI, Bool.and_self, Bool.and_true, Bool.true_and, bts_noHs]) (by first | rfl | simp only [noHs, noH, nI, bI, Bool.and_self, Bool.and_true, Bool.true_and, bts_noHs]), ?_⟩; (conv => whnf); (try (refine ⟨by kernel_rfl, ?_⟩; conv => whnf))
    refine ⟨_, ret_of_fn G0ok (r) (by first | rfl | simp only [noHs, noH, nI, bI, Bool.and_self, Bool.and_true, Bool.true_and, ]) (by first | rfl | simp only [noHs, noH, nI, bI, Bool.and_self, Bool.and_true, Bool.true_and, ]), ?_⟩; (conv => whnf); (try (refine ⟨by kernel_rfl, ?_⟩; conv => whnf))
    refine ⟨_, ret_of_fn G0ok (mv) (by first | rfl | simp only [noHs, noH, nI, bI, Bool.and_self, Bool.and_true, Bool.true_and, ]) (by first | rfl | simp only [noHs, noH, nI, bI, Bool.and_self, Bool.and_true, Bool.true_and, ]), ?_⟩; (conv => whnf); (try (refine ⟨by kernel_rfl, ?_⟩; conv => whnf))
    refine ⟨_, ret_of_fn G0ok (sv) (by first | rfl | simp only [noHs, noH, nI, bI, Bool.and_self, Bool.and_true, Bool.true_and, ]) (by first | rfl | simp only [noHs, noH, nI, bI, Bool.and_self, Bool.and_true, Bool.true_and, ]), ?_⟩; (conv => whnf); (try (refine ⟨by kernel_rfl, ?_⟩; conv => whnf))
    refine ⟨_, ret_of_fn G0ok (h2) (by first | rfl | simp only [noHs, noH, nI, bI, Bool.and_self, Bool.and_true, Bool.true_and, ]) (by first | rfl | simp only [noHs, noH, nI, bI, Bool.and_self, Bool.and_true, Bool.true_and, ]), ?_⟩; (conv => whnf); (try (refine ⟨by kernel_rfl, ?_⟩; conv => whnf))
    exact ⟨_, rfl, rfl⟩
end Go.Proofs.YtidkdlaihmpjfaaDoor
namespace Go.Proofs.YtidkdlaihmpjfaaDoor
set_option linter.unusedVariables false
set_option linter.unusedSimpArgs false
set_option linter.unusedSectionVars false
open Go.ChangeShapes Go.WideShapes Go.ChangeAt Go.RowKit Go.Joins
set_option maxRecDepth 10000
theorem eq_loopF {α : Type} {P : Program} {w : World} (f : α → Sem (ForInStep (Option Bool × Unit))) (q : α → Bool) : ∀ (l : List α), (∀ k ∈ l, (f k).run P w = .ok (if q k = true then .yield (none, ()) else .done (some false, ())) w) →
    (forIn l ((none, ()) : Option Bool × Unit) fun (i : α) (_ : Option Bool × Unit) => f i).run P w = .ok (if l.all q then (none, ()) else (some false, ())) w
  | [], _ => by simp
  | k :: l, h => by
    have h1 := h k (by simp)
    have h2 := eq_loopF f q l fun k hk => h k (by simp [hk])
    rw [List.forIn_cons]
    cases hq : q k with
    | true =>
      rw [hq] at h1
      simp only [if_true] at h1
      simp only [Sem.run_bind, h1, Result.andThen_ok, List.all_cons, hq, Bool.true_and]
      exact h2
    | false =>
      rw [hq] at h1
      simp only [Bool.false_eq_true, if_false] at h1
      simp only [Sem.run_bind, h1, Result.andThen_ok, Sem.run_pure, List.all_cons, hq, Bool.false_and, Bool.false_eq_true, if_false]
theorem equal_struct {P : Program} {t : TypeId} {fields : Array Field} (ht : P.underlying t = some (.struct fields)) (hs : P.stoodInHeld t = false) (us vs : Array Value) (q : Field → Bool) (d : Nat) (w : World)
    (hq : ∀ f ∈ fields.toList, f.name ≠ "_" ∧ (do let x ← part f.type us f.offset; let y ← part f.type vs f.offset; Op.equalIn d f.type x y : Sem Bool).run P w = .ok (q f) w) :
    (Op.equalIn (d + 1) t (.agg us) (.agg vs)).run P w = .ok (fields.toList.all q) w := by
  unfold Op.equalIn
  simp only [Sem.run_bind, run_underlying ht, Result.andThen_ok]
  have hp : (program : Sem Program).run P w = .ok P w := rfl
  simp only [hp, Result.andThen_ok, hs, Bool.false_eq_true, if_false]
  rw [← Array.forIn_toList]
  have h := eq_loopF (P := P) (w := w) (fun (f : Field) => if f.name ≠ "_" then (do
      let x ← part f.type us f.offset
      let y ← part f.type vs f.offset
      let b ← Op.equalIn d f.type x y
      if (!b) = true then pure (ForInStep.done (some false, ())) else pure (ForInStep.yield (none, ())) : Sem (ForInStep (Option Bool × Unit))) else pure (ForInStep.yield (none, ()))) q fields.toList (fun f hf => by
    obtain ⟨h1, h2⟩ := hq f hf
    rw [if_pos h1]
    simp only [← bind_assoc] at h2 ⊢
    simp only [Sem.run_bind] at h2 ⊢
    rw [h2]
    simp only [Result.andThen_ok]
    cases q f <;> rfl)
  rw [Sem.run_bind, h, Result.andThen_ok]
  cases fields.toList.all q <;> simp
section
variable {P : Program} {Γ : Tab} (hΓ : TabOk P Γ)
include hΓ
theorem part_agg {t : TypeId} {r : TR} (hr : Γ t = some r) (ha : r.d.agg = true) (us : List Value) (off : Nat) (w : World) : (part t us.toArray off).run P w = .ok (.agg ((us.drop off).take r.size).toArray) w := by
  have hA := run_isAgg_tab hΓ hr w
  have hS := run_sizeOf_tab hΓ hr w
  unfold part
  simp only [Sem.run_bind, hA, Result.andThen_ok, ha, if_true, hS, Sem.run_pure]
  simp [List.extract_eq_take_drop]
theorem part_one {t : TypeId} {r : TR} (hr : Γ t = some r) (ha : r.d.agg = false) {us : List Value} {off : Nat} {v : Value} (h : us[off]? = some v) (w : World) : (part t us.toArray off).run P w = .ok v w := by
  have hA := run_isAgg_tab hΓ hr w
  unfold part
  simp only [Sem.run_bind, hA, Result.andThen_ok, ha, Bool.false_eq_true, if_false]
  simp [h]
end
theorem eqAgg_of {P : Program} {t : TypeId} (hg : P.eqGuardType P.depth t = false) {us vs : List Value} {r : Bool} (h : ∀ w, (Op.equal t (.agg us.toArray) (.agg vs.toArray)).run P w = .ok r w) :
    EqAgg P .eql t (us.map .v) (vs.map .v) r ∧ EqAgg P .neq t (us.map .v) (vs.map .v) (!r) := by
  have hg1 : ∀ op ox oy w, (eqGuard op t ox oy (.agg us.toArray) (.agg vs.toArray)).run P w = .ok () w := fun op ox oy w => by
    unfold eqGuard
    cases op <;> simp [hg]
  refine ⟨⟨us, vs, rfl, rfl, fun ox oy w => ?_⟩, ⟨us, vs, rfl, rfl, fun ox oy w => ?_⟩⟩
  · simp only [Sem.run_bind, hg1, Result.andThen_ok]
    show (do let b ← Op.equal t _ _; pure (Value.bool b) : Sem Value).run P w = _
    simp only [Sem.run_bind, h w]
    simp
  · simp only [Sem.run_bind, hg1, Result.andThen_ok]
    show (do let b ← Op.equal t _ _; pure (Value.bool (!b)) : Sem Value).run P w = _
    simp only [Sem.run_bind, h w]
    simp
def wI (k : IntKind) (l : List Nat) : List Value := l.map fun (x : Nat) => Value.int k x
theorem equal_nats {P : Program} {Γ : Tab} (hΓ : TabOk P Γ) {t e : TypeId} {n : Nat} {k : IntKind} {r : TR} (ht : P.underlying t = some (.array n e)) (he : Γ e = some r) (hr : r.d = .int k) (hs : r.size = 1) (hd : P.underlying e = some (.int k)) (l m : List Nat) (hl : l.length = n) (hm : m.length = n) (d : Nat) (w : World) :
    (Op.equalIn (d + 2) t (.agg (wI k l).toArray) (.agg (wI k m).toArray)).run P w = .ok (decide (l = m)) w := by
  have h := equal_words hΓ ht he hr hs hd (l.map fun (x : Nat) => (x : Int)) (m.map fun (x : Nat) => (x : Int)) (by simpa using hl) (by simpa using hm) d w
  rw [show decide (l = m) = decide (l.map (fun (x : Nat) => (x : Int)) = m.map fun (x : Nat) => (x : Int)) from decide_eq_decide.2 (map_cast_eq l m).symm]
  simpa only [wI, List.map_map, Function.comp_def] using h
noncomputable def limW (n : Nat) : List Nat := [lim n 0, lim n 1, lim n 2, lim n 3]
theorem limW_inj {a b : Nat} (ha : a < T256) (hb : b < T256) : decide (limW a = limW b) = decide (a = b) := decide_eq_decide.2 ⟨fun h => uV_inj ha hb h, fun h => by rw [h]⟩
theorem words_v (l : List Nat) : words l = (wI .u64 l).map .v := by simp [words, wI, nI]
end Go.Proofs.YtidkdlaihmpjfaaDoor
namespace Go.Proofs.YtidkdlaihmpjfaaDoor
set_option linter.unusedVariables false
set_option linter.unusedSimpArgs false
set_option linter.unusedSectionVars false
open Go.ChangeShapes Go.WideShapes Go.ChangeAt Go.RowKit Go.Joins
set_option maxRecDepth 10000
noncomputable def PtD.vals (p : PtD) : List Value := wI .u64 (limW p.x) ++ (wI .u64 (limW p.y) ++ [.bool p.far])
theorem PtD.cells_v (p : PtD) : p.cells = p.vals.map .v := by
  unfold PtD.cells PtD.vals uC
  rw [words_v, words_v]
  simp [limW, bI]
theorem eq_pts {p q : PtD} (hp : p.lt T256) (hq : q.lt T256) (w : World) : (Op.equal 57 (.agg p.vals.toArray) (.agg q.vals.toArray)).run Tryd.prog w = .ok (decide (p.x = q.x) && (decide (p.y = q.y) && (p.far == q.far))) w := by
  have h := equal_struct (P := Tryd.prog) Tryd.underlying57 (by kernel_rfl) p.vals.toArray q.vals.toArray (fun f => if f.offset = 0 then decide (p.x = q.x) else if f.offset = 4 then decide (p.y = q.y) else (p.far == q.far)) 9999 w ?_
  · exact h.trans (by simp)
  · intro f hf
    simp only [List.mem_cons, List.not_mem_nil, or_false] at hf
    rcases hf with rfl | rfl | rfl
    · refine ⟨by decide, ?_⟩
      simp only [Sem.run_bind, part_agg Γok (show Γ 55 = some _ from rfl) rfl, Result.andThen_ok]
      have := equal_nats (k := .u64) Γok (t := 55) (e := 22) Tryd.underlying55 rfl rfl rfl Tryd.underlying22 (limW p.x) (limW q.x) rfl rfl 9997 w
      rw [limW_inj hp.1 hq.1] at this
      exact this
    · refine ⟨by decide, ?_⟩
      simp only [Sem.run_bind, part_agg Γok (show Γ 55 = some _ from rfl) rfl, Result.andThen_ok]
      have := equal_nats (k := .u64) Γok (t := 55) (e := 22) Tryd.underlying55 rfl rfl rfl Tryd.underlying22 (limW p.y) (limW q.y) rfl rfl 9997 w
      rw [limW_inj hp.2 hq.2] at this
      exact this
    · refine ⟨by decide, ?_⟩
      simp only [Sem.run_bind, part_one Γok (show Γ 4 = some _ from rfl) rfl (show p.vals[8]? = some (.bool p.far) from rfl), part_one Γok (show Γ 4 = some _ from rfl) rfl (show q.vals[8]? = some (.bool q.far) from rfl), Result.andThen_ok]
      unfold Op.equalIn
      simp [run_underlying Tryd.underlying4]
theorem eq_pt {p q : PtD} (hp : p.lt T256) (hq : q.lt T256) : EqAgg Tryd.prog .eql 57 p.cells q.cells (decide (p.x = q.x) && (decide (p.y = q.y) && (p.far == q.far))) := by
  rw [p.cells_v, q.cells_v]
  exact (eqAgg_of (by kernel_rfl) (eq_pts hp hq)).1
theorem eq_pt_self {p : PtD} (hp : p.lt T256) : EqAgg Tryd.prog .eql 57 p.cells p.cells true := by
  have := eq_pt hp hp
  simpa using this
end Go.Proofs.YtidkdlaihmpjfaaDoor
namespace Go.Proofs.YtidkdlaihmpjfaaDoor
set_option linter.unusedVariables false
set_option linter.unusedSimpArgs false
set_option linter.unusedSectionVars false
open Go.ChangeShapes Go.WideShapes Go.ChangeAt Go.RowKit Go.Joins
set_option maxRecDepth 10000
/-- The multiples of the bases, 20 bits each: ten of the first number, ten of the second. -/
def tbl (k : Nat) : Nat := match k with
  | 0 => 8626871376130321674632994364345406955039278229926486559208241011629333554296099131206091593256548470314730857610173073334814479249229969181835710964833759791953642085431833220503044096
  | 1 => 63978736725837396049152264449506929823826000340095891342558659947627774528360152094492131800151623886961578355613274405537925032366084196534749538184981269083293891098061483611193197683789306960409401673407348913386771997750498236392679971899936137205082878852006598971701506460365047258785039430806624307641629089227836656997353101405187631265474294977060596307521855157734340818733252882520042074385351281941004631838774479177000157184
  | 2 => 118603319791191148271948042941307693695312391812922398533280648844179219386808161788295697001737325475163706491000498134284731235996502554985461673561771980577932631873032708679933318654514257406590084850289268818458586517371517754805573444270052730206928546628982007295993424863597721030254210867099009845659951988363976181135677491114223001754951730484433212184734428804781830632675406632696742412288
  | 3 => 6864454195042126685894930821136805249119774903519021230346826511396871411691700951012265325271222171657887218229957539919223562932574903806854755614169986993926681976329595348337742749029796189436190723485910298718877534546382167082157138843735012010086406812267647964947912151328844811063100990158666948979132670093697834858235607042491308491058987327482366099282076914365557727871987341254225644097487798441902509482337063073929135468306104959350558413557300806945720205745763142871238304964324148043772124452661366116560607250363209836239891068360299923912652645054089034062549368342857599283993186649210137134402414783017696865932807020371466241284705566886408092482969993587225031865396787598590346196412654199717355218008451631882253708859278214668600536462663242234914136233965539826548369104916757054469853610055405974603178132945847052118639720818695960009054018906816353981763418978189283716444398066009812707872823817639609201806815017101578484280845161520217887604736
  | 4 => 6049919971512889077922026326379667266013182799366236062876004524203056601278750726670744341041535305099020450737483042850228277341937455884182692645418359606855411656827607924354186007218393501173674609445395596606101836393841252129938842908915151765911245997571389783388545000426977149048479293337184146862546999794016809759370595673833415478389105138607633028642032071793086307374039302701365180054743958575003509264992494541061902457317014972249052876666104119693222978682610918263068636850742816763227180618957770791363841879023422009008679444064002414470877639329019256990582186862020448287883569574701981078377321639048766404220319038672540412042738562293532114294083813359155466586550998819042938946478554027058682280231753037912068045653095894662204752900935764508703559066231131668195590552323454191968640758550028160703962238727605318302952160561683995521106014151344136210171015163191092634366010915398790618967737045123869578835708252793026034584653076938702805419647832961120703369039113942344122645357510781929764345271195519509671719289788584579986710659292664741308137472
  | 5 => 14784423776567093792547671916537344239080355753485261826722573316615520802222842911732781720094601472798180325129157685572527238847657869614506934807100622499142408394634604630230403392545543012446102077950925335426608308811676599335450131457175152814378062972668957254833446232568536460013218047598472272709640771635703981918575017710935063211181191620880493368319356001217331665272014637984905097570494355419135615132337641008037524239649474225807329394890631113513967084755041067240784308031956590135159554961987933755042447984457544075140933190365191066364556703180754768523792470716868214633386130170838909101224339632794465970459379616149328566864031339724978360994744633516879912876702264877860220348802488837688227472552105238826917944163956197249772822914200991616616146434014195017060622723323478190681419485524223163840738182795322449986538328844780810179682216713702957806134412269074792735342516390895296004085000213666429958502355971351695206854436697207412245214883118337240198409120332020367069283555232047453086248628271479281590385770839076499254368251501635001516521744239636170871161288929797310613028032572212367611506666845678017512602232509900326133842384103171332939710464
  | 6 => 1384118754724489354748977103352737665902409136594949082930319149723870985284730307840075461459529217540260718357880550157711857185773808137545267756824117848077844045416359844426540936826944832272983967621453620368091842359728950033268387225239378069353600552897793279645780556427149422083845777933589447681566811243468328707222407950065070280965311769582182412816461843033986375088559829294903601352500236557022228691709541911377480694210122892518696736880921729136991110965130652140873706591538051107793615921812426630630494591134415491966145362745196687940343626513028827210907426000105447431040909573882467836346578047169611111042695726613960375582569212948987173643092585674253247409846741897350007495596975105507526851739103212109927881879516113412751101335366027739906910738911321514126403171988389776649141139212983661471797785622237415067655335231615974440686923311325352349364705162632137594118088692225805495594300569342722022802453552092803878991339243046951109952605581274725362486686700625933164947392235523969353202667435364133505406094720219112054205285383831123195529748144453495353309678369212205522317037412729973589198877624524235787549417419487457779038896991186706742389497003313890314391491945219903005781550637797848367616409599086530683103945592709341323035711721644913641397575875059599910370175326824659536351937314542982310577075188834064990867633631524637470717914547381080180358758652877931775700882478706557501332542723215677382221902219011475469833033836544062582197932932210072384225669723446070239512356623261888632958744045749169648455313458464320281071453531331294498365941525295810365588869916581808120384243077121611410908557030339156369848217410668251221266457540019642113426302377285414154126520658639925818983472508512167606651216106347406361582286251929674299195975999318642572460754553566269160780457888465856138972621224477742656663810716442904681574303311128358780938739523967936695202492500189083852347931721261658980635040708540665156560983088155538067329423344975231990378327805086594905833959295994052704326039894752551269815642406369310227284784417167566806931329595175531727918650258867677654724490206566097746527368997299986425370433155743331326276839439621234966183753355260006003150756062207826439444178685208009525555673517851820647757159672231385367371685241838436938008426051844155431720538502061166794544413630808645347207284274655409933897408024747132746806424015607656835580709416210754758506682777600
  | _ => 28776664830799353645030286843149071823872848066393477717806313247980013405075887229964137964376416588763396382129605632876982671722346604539130145420545849287221425239534695545917211555264468161533344013084989438396301253170818876176834277554417955551139811044411531649665591398832775929307757214715070819292290800510378606706578610700701589841673305240002025484061228399527214432963507173006235718618984096143850303230460727376433184236899316249463838764271534833389142632695980467070659420605811011700566244985755534686020163309386775890973584252711813123274220996097166879700904877763000954384348530626860373495410527545450745915103148597614483467287403155578945937960697304839772636243396577659307746359137450486963823436316377479634874596155242283989412608870375882661915495346622616180553576174559540692789376016984572689864286879109791020141139875842507202764422613925705971469564879147436019516956043303840523836101489370493833586460157886796426573440981620027761084501834394062869844123583895973308208665915546516265722184137454157093921297469517695595295471808462118962975174639309580382523781515717024052273077726618504977659022585069661123971635663909583627966699101501419872309377206021394398552576147227993715745886650857793712454244625261458070401557361065823815532537314872388735941723552013933106608044525315999157205033853507843440500780442447405337197639775596483933168382228131163927317071929273665624769147869149373749474806775304364501327139208971192932298911664000872209051674702300598182483604759903728450470343405558773690361620303206571790383116485401784694247407434734919005997556385560787869521344671098941498189587370647115901703959878337736918796020159604922845527117886775519837440255483757237182449229498156521529642695758060166354086444565043935723688832393527729528434802945776238720798907827736935221714914348101698079190150833175186814336112181280037577426397936679685505565684145683042397840102347495750014997178619309316606965728581332665750134038879829540328876252440682114438887316413706506954191328326457902657333368886267461077727585581870182225575353377073308982005731088664680046236813296251141147456429854948025343298781728599871508784165319794188866720477565920691893087090411776952215691446078631062086634645657221975687464132968793699979841447052385813195574219159589225365087857121203970568581393029297151493607144650870073839506247950242355276408905811190026272146844904764185581496123090606047357121428236216896083744360739346990452947862172139932981290008964573667992427036055043862925452284473656565545845827141060825355921951543644690377625150280574046322315901120008961622686359337700966932733638247229168718399748563556646684819336402068770057326180635589686187267266087583662699676375280298663283812171416792267028137971531665103019655359127256550450054272274557781462286907938870531194746094928925263849234408266383105984590891776918159277106639575984606901193479221864784130409359329477733833383957634147503862475842054484383855748901317791608206876619490774864979210006674357247625287589993564693287268993355579322313075923874789359172199007911013714547769676972222573749215147408061940047902504198379757810228630085565644708604970392442592639489532131417781998050915092229064648100086231060586479281530220166141640576673978191893582928558148847929077448136334180636135355262293264977642056420074079850170588839660272260862110604239716580049065647923726212739964471066254353980337660087945123078357876769934124753246401027804087631444927063130973663586724383331574139332937095425316017732564955287374375840407946767554049804950514703409311414926154038506897489738373014579567148742966873399879241106754771861057144752230495060883755553863522481784750948198222977921051254038397578261735336945188783529200023900781944936706050844093872626010941929364761981089331197538131105720686279518763974683292182853451776
/-- These words are for the kernel: what is forced is reckoned first. -/
noncomputable def band (a b : Bool) : Bool := @Bool.rec (fun _ => Bool) false b a
noncomputable def frc {α : Type} (n : Nat) (f : Nat → α) : α := @Nat.rec (fun _ => α) (f 0) (fun k _ => f (Nat.succ k)) n
theorem band_t {a b : Bool} (h : band a b = true) : a = true ∧ b = true := by cases a <;> cases b <;> first | exact ⟨rfl, rfl⟩ | cases h
theorem frc_eq {α : Type} (n : Nat) (f : Nat → α) : frc n f = f n := by cases n <;> rfl
noncomputable def allN (f : Nat → Bool) (m : Nat) : Nat → Bool := @Nat.rec (fun _ => Nat → Bool) (fun _ => true) (fun _ ih i => band (f i) (frc (Nat.succ i) ih)) m
theorem allN_at {f : Nat → Bool} : ∀ (m i : Nat), allN f m i = true → ∀ j, i ≤ j → j < i + m → f j = true
  | 0, i, _, j, h1, h2 => by omega
  | m + 1, i, h, j, h1, h2 => by
    have h : band (f i) (frc (Nat.succ i) (allN f m)) = true := h
    rw [frc_eq] at h
    obtain ⟨h3, h4⟩ := band_t h
    by_cases e : j = i
    · subst e; exact h3
    · exact allN_at m (i + 1) h4 j (by omega) (by omega)
def ent (T i : Nat) : Nat := Nat.mod (Nat.shiftRight T (Nat.mul 20 i)) 1048576
def ptA (a : Nat) : PtD := ⟨Nat.div a 1024, Nat.mod a 1024, false⟩
/-- One point: its numbers are below the modulus, it lies on the curve; its opposite is told, and twice it. -/
noncomputable def chkOne (p b n T i : Nat) : Bool := frc (ent T i) fun a => frc (Nat.div a 1024) fun x => frc (Nat.mod a 1024) fun y =>
  band (Nat.blt x p) <| band (Nat.blt y p) <| band (Nat.blt 0 y) <|
  band (Nat.beq (Nat.mod (Nat.mul y y) p) (Nat.mod (Nat.add (Nat.mul x (Nat.mul x x)) b) p)) <|
  band (Nat.beq (ent T (Nat.sub n i)) (Nat.add (Nat.mul x 1024) (Nat.sub p y))) <|
  frc (ent T (Nat.mod (Nat.add i i) n)) fun c => frc (Nat.div c 1024) fun x3 => frc (Nat.mod c 1024) fun y3 => frc (Nat.mul 3 (Nat.mul x x)) fun e => frc (Nat.add y y) fun d =>
  band (Nat.beq (Nat.mod (Nat.mul (Nat.add (Nat.add x x) x3) (Nat.mul d d)) p) (Nat.mod (Nat.mul e e) p))
    (Nat.beq (Nat.mod (Nat.mul (Nat.add y3 y) d) p) (Nat.mod (Nat.mul e (Nat.add x (Nat.sub p x3))) p))
/-- Two points, told by a and b, and their sum, told by c. -/
noncomputable def chkTwo (p x1 y1 b c : Nat) : Bool := frc (Nat.div b 1024) fun x2 => frc (Nat.mod b 1024) fun y2 => frc (Nat.div c 1024) fun x3 => frc (Nat.mod c 1024) fun y3 =>
  frc (Nat.add x2 (Nat.sub p x1)) fun d => frc (Nat.add y2 (Nat.sub p y1)) fun e =>
  band (band (Nat.beq (Nat.mod (Nat.mul (Nat.add (Nat.add x1 x2) x3) (Nat.mul d d)) p) (Nat.mod (Nat.mul e e) p))
    (Nat.beq (Nat.mod (Nat.mul (Nat.add y3 y1) d) p) (Nat.mod (Nat.mul e (Nat.add x1 (Nat.sub p x3))) p))) (not (Nat.beq x1 x2))
noncomputable def chkRow (p n T i : Nat) : Bool := frc (ent T i) fun a => frc (Nat.div a 1024) fun x => frc (Nat.mod a 1024) fun y =>
  allN (fun j => frc (ent T j) fun b => frc (ent T (Nat.add i j)) fun c => chkTwo p x y b c) (Nat.sub (Nat.sub n (Nat.add i i)) 1) (Nat.succ i)
theorem one0 : allN (chkOne 43 7 31 (tbl 0)) 30 1 = true := by kernel_rfl
theorem two0a : allN (chkRow 43 31 (tbl 0)) 15 1 = true := by kernel_rfl
theorem two0 (i : Nat) (h1 : 0 < i) (h2 : i ≤ 15) : chkRow 43 31 (tbl 0) i = true := by
  exact allN_at _ _ two0a i (by omega) (by omega)
theorem one1 : allN (chkOne 67 2 73 (tbl 1)) 72 1 = true := by kernel_rfl
theorem two1a : allN (chkRow 67 73 (tbl 1)) 36 1 = true := by kernel_rfl
theorem two1 (i : Nat) (h1 : 0 < i) (h2 : i ≤ 36) : chkRow 67 73 (tbl 1) i = true := by
  exact allN_at _ _ two1a i (by omega) (by omega)
theorem one2 : allN (chkOne 79 6 67 (tbl 2)) 66 1 = true := by kernel_rfl
theorem two2a : allN (chkRow 79 67 (tbl 2)) 33 1 = true := by kernel_rfl
theorem two2 (i : Nat) (h1 : 0 < i) (h2 : i ≤ 33) : chkRow 79 67 (tbl 2) i = true := by
  exact allN_at _ _ two2a i (by omega) (by omega)
theorem one3 : allN (chkOne 139 2 163 (tbl 3)) 162 1 = true := by kernel_rfl
theorem two3a : allN (chkRow 139 163 (tbl 3)) 81 1 = true := by kernel_rfl
theorem two3 (i : Nat) (h1 : 0 < i) (h2 : i ≤ 81) : chkRow 139 163 (tbl 3) i = true := by
  exact allN_at _ _ two3a i (by omega) (by omega)
theorem one4 : allN (chkOne 163 3 181 (tbl 4)) 180 1 = true := by kernel_rfl
theorem two4a : allN (chkRow 163 181 (tbl 4)) 90 1 = true := by kernel_rfl
theorem two4 (i : Nat) (h1 : 0 < i) (h2 : i ≤ 90) : chkRow 163 181 (tbl 4) i = true := by
  exact allN_at _ _ two4a i (by omega) (by omega)
theorem one5 : allN (chkOne 211 3 199 (tbl 5)) 198 1 = true := by kernel_rfl
theorem two5a : allN (chkRow 211 199 (tbl 5)) 72 1 = true := by kernel_rfl
theorem two5b : allN (chkRow 211 199 (tbl 5)) 27 73 = true := by kernel_rfl
theorem two5 (i : Nat) (h1 : 0 < i) (h2 : i ≤ 99) : chkRow 211 199 (tbl 5) i = true := by
  by_cases g0 : i < 73
  · exact allN_at _ _ two5a i (by omega) (by omega)
  exact allN_at _ _ two5b i (by omega) (by omega)
theorem one6 : allN (chkOne 379 2 409 (tbl 6)) 408 1 = true := by kernel_rfl
theorem two6a : allN (chkRow 379 409 (tbl 6)) 24 1 = true := by kernel_rfl
theorem two6b : allN (chkRow 379 409 (tbl 6)) 28 25 = true := by kernel_rfl
theorem two6c : allN (chkRow 379 409 (tbl 6)) 34 53 = true := by kernel_rfl
theorem two6d : allN (chkRow 379 409 (tbl 6)) 49 87 = true := by kernel_rfl
theorem two6e : allN (chkRow 379 409 (tbl 6)) 69 136 = true := by kernel_rfl
theorem two6 (i : Nat) (h1 : 0 < i) (h2 : i ≤ 204) : chkRow 379 409 (tbl 6) i = true := by
  by_cases g0 : i < 25
  · exact allN_at _ _ two6a i (by omega) (by omega)
  by_cases g1 : i < 53
  · exact allN_at _ _ two6b i (by omega) (by omega)
  by_cases g2 : i < 87
  · exact allN_at _ _ two6c i (by omega) (by omega)
  by_cases g3 : i < 136
  · exact allN_at _ _ two6d i (by omega) (by omega)
  exact allN_at _ _ two6e i (by omega) (by omega)
theorem one7 : allN (chkOne 691 3 643 (tbl 7)) 642 1 = true := by kernel_rfl
theorem two7a : allN (chkRow 691 643 (tbl 7)) 15 1 = true := by kernel_rfl
theorem two7b : allN (chkRow 691 643 (tbl 7)) 16 16 = true := by kernel_rfl
theorem two7c : allN (chkRow 691 643 (tbl 7)) 16 32 = true := by kernel_rfl
theorem two7d : allN (chkRow 691 643 (tbl 7)) 17 48 = true := by kernel_rfl
theorem two7e : allN (chkRow 691 643 (tbl 7)) 19 65 = true := by kernel_rfl
theorem two7f : allN (chkRow 691 643 (tbl 7)) 20 84 = true := by kernel_rfl
theorem two7g : allN (chkRow 691 643 (tbl 7)) 22 104 = true := by kernel_rfl
theorem two7h : allN (chkRow 691 643 (tbl 7)) 25 126 = true := by kernel_rfl
theorem two7i : allN (chkRow 691 643 (tbl 7)) 29 151 = true := by kernel_rfl
theorem two7j : allN (chkRow 691 643 (tbl 7)) 37 180 = true := by kernel_rfl
theorem two7k : allN (chkRow 691 643 (tbl 7)) 61 217 = true := by kernel_rfl
theorem two7l : allN (chkRow 691 643 (tbl 7)) 44 278 = true := by kernel_rfl
theorem two7 (i : Nat) (h1 : 0 < i) (h2 : i ≤ 321) : chkRow 691 643 (tbl 7) i = true := by
  by_cases g0 : i < 16
  · exact allN_at _ _ two7a i (by omega) (by omega)
  by_cases g1 : i < 32
  · exact allN_at _ _ two7b i (by omega) (by omega)
  by_cases g2 : i < 48
  · exact allN_at _ _ two7c i (by omega) (by omega)
  by_cases g3 : i < 65
  · exact allN_at _ _ two7d i (by omega) (by omega)
  by_cases g4 : i < 84
  · exact allN_at _ _ two7e i (by omega) (by omega)
  by_cases g5 : i < 104
  · exact allN_at _ _ two7f i (by omega) (by omega)
  by_cases g6 : i < 126
  · exact allN_at _ _ two7g i (by omega) (by omega)
  by_cases g7 : i < 151
  · exact allN_at _ _ two7h i (by omega) (by omega)
  by_cases g8 : i < 180
  · exact allN_at _ _ two7i i (by omega) (by omega)
  by_cases g9 : i < 217
  · exact allN_at _ _ two7j i (by omega) (by omega)
  by_cases g10 : i < 278
  · exact allN_at _ _ two7k i (by omega) (by omega)
  exact allN_at _ _ two7l i (by omega) (by omega)
end Go.Proofs.YtidkdlaihmpjfaaDoor
namespace Go.Proofs.YtidkdlaihmpjfaaDoor
set_option linter.unusedVariables false
set_option linter.unusedSimpArgs false
set_option linter.unusedSectionVars false
open Go.ChangeShapes Go.WideShapes Go.ChangeAt Go.RowKit Go.Joins
set_option maxRecDepth 10000
def chordI (m : Nat) (p q r : PtD) : Prop :=
  cong m (((p.x : Int) + q.x + r.x) * (((q.x : Int) - p.x) * ((q.x : Int) - p.x))) (((q.y : Int) - p.y) * ((q.y : Int) - p.y)) ∧ cong m (((r.y : Int) + p.y) * ((q.x : Int) - p.x)) (((q.y : Int) - p.y) * ((p.x : Int) - r.x))
def ng (m : Nat) (p : PtD) : PtD := ⟨p.x, m - p.y, false⟩
theorem chordI_swap {m : Nat} {p q r : PtD} (h : chordI m p q r) : chordI m q p r := by
  obtain ⟨⟨k1, h1⟩, ⟨k2, h2⟩⟩ := h
  refine ⟨⟨k1, ?_⟩, ⟨-k2, ?_⟩⟩ <;> grind
theorem chordI_ng {m : Nat} {p q r : PtD} (hp : p.y ≤ m) (hq : q.y ≤ m) (hr : r.y ≤ m) (h : chordI m (ng m p) (ng m q) (ng m r)) : chordI m p q r := by
  obtain ⟨⟨k1, h1⟩, ⟨k2, h2⟩⟩ := h
  simp only [ng] at h1 h2
  rw [Int.ofNat_sub hp, Int.ofNat_sub hq] at h1
  rw [Int.ofNat_sub hp, Int.ofNat_sub hq, Int.ofNat_sub hr] at h2
  refine ⟨⟨k1, ?_⟩, ⟨2 * ((q.x : Int) - p.x) - k2, ?_⟩⟩ <;> grind
theorem fermat_coprime {p a : Nat} (h : fermatOk p = true) (hp : 2 ≤ p) (h0 : 0 < a) (h1 : a < p) : Nat.gcd a p = 1 := coprime_of_inv (by omega) (fermat_inv h hp h0 h1)
theorem chord_eqI {m : Nat} {p q r : PtD} {up d : Nat} {U D : Int} (hf : fermatOk m = true) (hm : 1 < m) (hp : p.lt m) (hq : q.lt m) (hr : r.lt m) (hrf : r.far = false) (hd0 : 0 < d) (hd : d < m) (eu : cong m up U) (ed : cong m d D)
    (h1 : cong m (((p.x : Int) + q.x + r.x) * (D * D)) (U * U)) (h2 : cong m (((r.y : Int) + p.y) * D) (U * ((p.x : Int) - r.x))) : chordP m p q (mulM m up (invM m d)) = r := by
  have hv := invM_ok hd (fermat_coprime hf (by omega) hd0 hd)
  obtain ⟨ku, eu⟩ := eu
  obtain ⟨kd, ed⟩ := ed
  obtain ⟨k1, h1⟩ := h1
  obtain ⟨k2, h2⟩ := h2
  refine chord_eq hm hp hq hr hv hrf ⟨k1 + ((p.x : Int) + q.x + r.x) * (2 * D * kd + m * kd * kd) - (2 * U * ku + m * ku * ku), ?_⟩ ⟨k2 + ((r.y : Int) + p.y) * kd - ku * ((p.x : Int) - r.x), ?_⟩
  · rw [eu, ed]; grind
  · rw [eu, ed]; grind
theorem subM_pos {m a b : Nat} (ha : a < m) (hb : b < m) (h : b ≠ a) : 0 < subM m a b := by
  rw [subM_def]
  rcases Nat.lt_or_gt_of_ne h with h1 | h1
  · rw [show a + (m - b) = (a - b) + m by omega, Nat.add_mod_right, Nat.mod_eq_of_lt (by omega)]; omega
  · rw [Nat.mod_eq_of_lt (by omega)]; omega
theorem padd_chord {c : CvD} {p q r : PtD} (hf : fermatOk c.P = true) (hm : 1 < c.P) (hp : p.lt c.P) (hq : q.lt c.P) (hr : r.lt c.P) (fp : p.far = false) (fq : q.far = false) (fr : r.far = false) (hx : p.x ≠ q.x) (h : chordI c.P p q r) : padd c p q = (r, true) := by
  have hd := subM_pos hq.1 hp.1 hx
  have hl : subM c.P q.x p.x < c.P := subM_lt (by omega)
  have e := chord_eqI hf hm hp hq hr fr hd hl (cong_sub (a := q.y) (b := p.y) (Nat.le_of_lt hp.2)) (cong_sub (a := q.x) (b := p.x) (Nat.le_of_lt hp.1)) h.1 h.2
  unfold padd
  rw [if_neg (by rw [fp]; decide), if_neg (by rw [fq]; decide), if_neg hx, if_pos (fermat_coprime hf (by omega) hd hl), e]
theorem padd_tangent {c : CvD} {p r : PtD} (hf : fermatOk c.P = true) (hm : 3 < c.P) (hodd : c.P % 2 = 1) (hA : c.A = 0) (hp : p.lt c.P) (hr : r.lt c.P) (fp : p.far = false) (fr : r.far = false) (hy : 0 < p.y)
    (h1 : cong c.P (((p.x : Int) + p.x + r.x) * (((p.y : Int) + p.y) * ((p.y : Int) + p.y))) ((3 * ((p.x : Int) * p.x)) * (3 * ((p.x : Int) * p.x)))) (h2 : cong c.P (((r.y : Int) + p.y) * ((p.y : Int) + p.y)) ((3 * ((p.x : Int) * p.x)) * ((p.x : Int) - r.x))) : padd c p p = (r, true) := by
  have hl : addM c.P p.y p.y < c.P := addM_lt (by omega)
  have hd : 0 < addM c.P p.y p.y := by
    have hy2 := hp.2
    rw [addM_def]
    rcases Nat.lt_or_ge (p.y + p.y) c.P with h3 | h3
    · rw [Nat.mod_eq_of_lt h3]; omega
    · rw [show p.y + p.y = (p.y + p.y - c.P) + c.P by omega, Nat.add_mod_right, Nat.mod_eq_of_lt (by omega)]; omega
  have e3 : modN 3 c.P = 3 := by rw [modN_def, Nat.mod_eq_of_lt (by omega)]
  have eu : cong c.P (addM c.P (mulM c.P (modN 3 c.P) (mulM c.P p.x p.x)) c.A : Nat) (3 * ((p.x : Int) * p.x)) := by
    rw [hA, e3]
    obtain ⟨k1, g1⟩ := cong_add (m := c.P) (mulM c.P 3 (mulM c.P p.x p.x)) 0
    obtain ⟨k2, g2⟩ := cong_mul (m := c.P) 3 (mulM c.P p.x p.x)
    obtain ⟨k3, g3⟩ := cong_mul (m := c.P) p.x p.x
    refine ⟨k1 + k2 + 3 * k3, ?_⟩
    rw [g1, g2, g3]
    grind
  have e := chord_eqI (q := p) hf (by omega) hp hp hr fr hd hl eu (cong_add (m := c.P) p.y p.y) h1 h2
  unfold padd
  rw [if_neg (by rw [fp]; decide), if_neg (by rw [fp]; decide), if_pos rfl, if_neg (by omega), if_pos rfl, if_pos (fermat_coprime hf (by omega) hd hl), e]
/-- What is reckoned of a curve's table. -/
structure Tells (c : CvD) (T : Nat) : Prop where
  fer : fermatOk c.P = true
  p3 : 3 < c.P
  p1000 : c.P < 1000
  odd : c.P % 2 = 1
  nodd : c.N % 2 = 1
  n1 : 1 < c.N
  A : c.A = 0
  one : ∀ i, 0 < i → i < c.N → chkOne c.P c.B c.N T i = true
  two : ∀ i, 0 < i → i ≤ (c.N - 1) / 2 → chkRow c.P c.N T i = true
def pt (T i : Nat) : PtD := ptA (ent T i)
theorem blt_lt {a b : Nat} (h : Nat.blt a b = true) : a < b := by simpa [Nat.blt_eq] using h
theorem mods_cong {m x y : Nat} (h : Nat.beq (Nat.mod x m) (Nat.mod y m) = true) : cong m x y := cong_mod (Nat.eq_of_beq_eq_true h)
section
variable {c : CvD} {T : Nat} (t : Tells c T)
include t
theorem one_at {i : Nat} (h0 : 0 < i) (h1 : i < c.N) : (pt T i).lt c.P ∧ 0 < (pt T i).y ∧ (pt T i).y * (pt T i).y % c.P = ((pt T i).x * ((pt T i).x * (pt T i).x) + c.B) % c.P ∧ pt T (c.N - i) = ng c.P (pt T i) ∧
    cong c.P ((((pt T i).x : Int) + (pt T i).x + (pt T ((i + i) % c.N)).x) * ((((pt T i).y : Int) + (pt T i).y) * (((pt T i).y : Int) + (pt T i).y))) ((3 * (((pt T i).x : Int) * (pt T i).x)) * (3 * (((pt T i).x : Int) * (pt T i).x))) ∧
    cong c.P ((((pt T ((i + i) % c.N)).y : Int) + (pt T i).y) * (((pt T i).y : Int) + (pt T i).y)) ((3 * (((pt T i).x : Int) * (pt T i).x)) * (((pt T i).x : Int) - (pt T ((i + i) % c.N)).x)) := by
  have h := t.one i h0 h1
  unfold chkOne at h
  simp only [frc_eq] at h
  obtain ⟨g1, h⟩ := band_t h
  obtain ⟨g2, h⟩ := band_t h
  obtain ⟨g3, h⟩ := band_t h
  obtain ⟨g4, h⟩ := band_t h
  obtain ⟨g5, h⟩ := band_t h
  obtain ⟨g6, g7⟩ := band_t h
  have k1 : (pt T i).x < c.P := blt_lt g1
  have k2 : (pt T i).y < c.P := blt_lt g2
  have k3 : 0 < (pt T i).y := blt_lt g3
  have k4 : (pt T i).y * (pt T i).y % c.P = ((pt T i).x * ((pt T i).x * (pt T i).x) + c.B) % c.P := Nat.eq_of_beq_eq_true g4
  have k5 : ent T (c.N - i) = (pt T i).x * 1024 + (c.P - (pt T i).y) := Nat.eq_of_beq_eq_true g5
  have k6 := mods_cong g6
  have k7 := mods_cong g7
  refine ⟨⟨k1, k2⟩, k3, k4, ?_, ?_, ?_⟩
  · have hb := t.p1000
    have e1 : ent T (c.N - i) / 1024 = (pt T i).x := by omega
    have e2 : ent T (c.N - i) % 1024 = c.P - (pt T i).y := by omega
    show PtD.mk (ent T (c.N - i) / 1024) (ent T (c.N - i) % 1024) false = _
    rw [e1, e2]
    rfl
  · obtain ⟨k, hk⟩ := k6
    refine ⟨k, ?_⟩
    have hk : (((((pt T i).x + (pt T i).x) + (pt T ((i + i) % c.N)).x) * (((pt T i).y + (pt T i).y) * ((pt T i).y + (pt T i).y)) : Nat) : Int) = (((3 * ((pt T i).x * (pt T i).x)) * (3 * ((pt T i).x * (pt T i).x)) : Nat) : Int) + (c.P : Int) * k := hk
    push_cast at hk
    exact hk
  · obtain ⟨k, hk⟩ := k7
    have hk : ((((pt T ((i + i) % c.N)).y + (pt T i).y) * ((pt T i).y + (pt T i).y) : Nat) : Int) = (((3 * ((pt T i).x * (pt T i).x)) * ((pt T i).x + (c.P - (pt T ((i + i) % c.N)).x)) : Nat) : Int) + (c.P : Int) * k := hk
    have hle : (pt T ((i + i) % c.N)).x ≤ c.P := by
      have hn := t.n1
      have hno := t.nodd
      have hi2 : 0 < (i + i) % c.N := by
        rcases Nat.lt_or_ge (i + i) c.N with h3 | h3
        · rw [Nat.mod_eq_of_lt h3]; omega
        · rw [show i + i = (i + i - c.N) + c.N by omega, Nat.add_mod_right, Nat.mod_eq_of_lt (by omega)]; omega
      have h := t.one _ hi2 (Nat.mod_lt _ (by omega))
      unfold chkOne at h
      simp only [frc_eq] at h
      obtain ⟨g1, _⟩ := band_t h
      have : (pt T ((i + i) % c.N)).x < c.P := blt_lt g1
      omega
    push_cast [Int.ofNat_sub hle] at hk
    refine ⟨k + 3 * (((pt T i).x : Int) * (pt T i).x), ?_⟩
    rw [hk]
    grind
theorem pt_lt {i : Nat} (h0 : 0 < i) (h1 : i < c.N) : (pt T i).lt c.P := (one_at t h0 h1).1
theorem two_at {i j : Nat} (h0 : 0 < i) (h1 : i < j) (h2 : i + j < c.N) : (pt T i).x ≠ (pt T j).x ∧ chordI c.P (pt T i) (pt T j) (pt T (i + j)) := by
  have h := t.two i h0 (by omega)
  have l1 := pt_lt t h0 (show i < c.N by omega)
  have l2 := pt_lt t (show 0 < j by omega) (show j < c.N by omega)
  have l3 := pt_lt t (show 0 < i + j by omega) h2
  unfold chkRow at h
  simp only [frc_eq] at h
  have h := allN_at _ _ h j (by omega) (by have : c.N - (i + i) - 1 = Nat.sub (Nat.sub c.N (Nat.add i i)) 1 := rfl; omega)
  simp only [frc_eq, chkTwo] at h
  obtain ⟨h, g3⟩ := band_t h
  obtain ⟨g1, g2⟩ := band_t h
  obtain ⟨k1, g1⟩ := mods_cong g1
  obtain ⟨k2, g2⟩ := mods_cong g2
  obtain ⟨l11, l12⟩ := l1
  obtain ⟨l21, l22⟩ := l2
  obtain ⟨l31, l32⟩ := l3
  have g1 : (((((pt T i).x + (pt T j).x) + (pt T (i + j)).x) * (((pt T j).x + (c.P - (pt T i).x)) * ((pt T j).x + (c.P - (pt T i).x))) : Nat) : Int) = ((((pt T j).y + (c.P - (pt T i).y)) * ((pt T j).y + (c.P - (pt T i).y)) : Nat) : Int) + (c.P : Int) * k1 := g1
  have g2 : ((((pt T (i + j)).y + (pt T i).y) * ((pt T j).x + (c.P - (pt T i).x)) : Nat) : Int) = ((((pt T j).y + (c.P - (pt T i).y)) * ((pt T i).x + (c.P - (pt T (i + j)).x)) : Nat) : Int) + (c.P : Int) * k2 := g2
  have g3 : (!Nat.beq (pt T i).x (pt T j).x) = true := g3
  refine ⟨fun e => ?_, ⟨?_, ?_⟩⟩
  · rw [e] at g3; simp at g3
  · push_cast [Int.ofNat_sub (Nat.le_of_lt l11), Int.ofNat_sub (Nat.le_of_lt l12)] at g1
    refine ⟨k1 + 2 * (((pt T j).y : Int) - (pt T i).y) + c.P - (((pt T i).x : Int) + (pt T j).x + (pt T (i + j)).x) * (2 * (((pt T j).x : Int) - (pt T i).x) + c.P), ?_⟩
    grind
  · push_cast [Int.ofNat_sub (Nat.le_of_lt l11), Int.ofNat_sub (Nat.le_of_lt l12), Int.ofNat_sub (Nat.le_of_lt l31)] at g2
    refine ⟨k2 + (((pt T j).y : Int) - (pt T i).y) + (((pt T i).x : Int) - (pt T (i + j)).x) + c.P - (((pt T (i + j)).y : Int) + (pt T i).y), ?_⟩
    grind
theorem two_all {i j : Nat} (h0 : 0 < i) (h1 : i < j) (h2 : j < c.N) (h3 : i + j ≠ c.N) : (pt T i).x ≠ (pt T j).x ∧ chordI c.P (pt T i) (pt T j) (pt T ((i + j) % c.N)) := by
  rcases Nat.lt_or_ge (i + j) c.N with h4 | h4
  · rw [Nat.mod_eq_of_lt h4]; exact two_at t h0 h1 h4
  · have e : (i + j) % c.N = i + j - c.N := by
      rw [show i + j = (i + j - c.N) + c.N by omega, Nat.add_mod_right, Nat.mod_eq_of_lt (by omega)]; omega
    rw [e]
    obtain ⟨g1, g2⟩ := two_at t (show 0 < c.N - j by omega) (show c.N - j < c.N - i by omega) (by omega)
    have e1 := (one_at t (show 0 < i by omega) (show i < c.N by omega)).2.2.2.1
    have e2 := (one_at t (show 0 < j by omega) (show j < c.N by omega)).2.2.2.1
    have e3 := (one_at t (show 0 < i + j - c.N by omega) (show i + j - c.N < c.N by omega)).2.2.2.1
    rw [show c.N - j + (c.N - i) = c.N - (i + j - c.N) by omega, e1, e2, e3] at g2
    rw [e1, e2] at g1
    have l1 := pt_lt t (show 0 < i by omega) (show i < c.N by omega)
    have l2 := pt_lt t (show 0 < j by omega) (show j < c.N by omega)
    have l3 := pt_lt t (show 0 < i + j - c.N by omega) (show i + j - c.N < c.N by omega)
    exact ⟨fun e => g1 (by simpa [ng] using e.symm), chordI_swap (chordI_ng (Nat.le_of_lt l2.2) (Nat.le_of_lt l1.2) (Nat.le_of_lt l3.2) g2)⟩
theorem two_sum {i j : Nat} (h0 : 0 < i) (h1 : i < c.N) (k0 : 0 < j) (k1 : j < c.N) (hs : i + j ≠ c.N) : padd c (pt T i) (pt T j) = (pt T ((i + j) % c.N), true) := by
  have hn := t.n1
  have hp3 := t.p3
  have l1 := pt_lt t h0 h1
  have l2 := pt_lt t k0 k1
  have hne : 0 < (i + j) % c.N := by
    rcases Nat.lt_or_ge (i + j) c.N with h3 | h3
    · rw [Nat.mod_eq_of_lt h3]; omega
    · rw [show i + j = (i + j - c.N) + c.N by omega, Nat.add_mod_right, Nat.mod_eq_of_lt (by omega)]; omega
  have l3 := pt_lt t hne (Nat.mod_lt _ (by omega))
  rcases Nat.lt_trichotomy i j with h | h | h
  · obtain ⟨g1, g2⟩ := two_all t h0 h k1 hs
    exact padd_chord t.fer (by omega) l1 l2 l3 rfl rfl rfl g1 g2
  · subst h
    obtain ⟨_, g2, _, _, g5, g6⟩ := one_at t h0 h1
    exact padd_tangent t.fer t.p3 t.odd t.A l1 l3 rfl rfl g2 g5 g6
  · obtain ⟨g1, g2⟩ := two_all t k0 h h1 (by omega)
    rw [Nat.add_comm j i] at g2
    exact padd_chord t.fer (by omega) l1 l2 l3 rfl rfl rfl (fun e => g1 e.symm) (chordI_swap g2)
end
/-- The base so often. -/
def gpt (c : CvD) (T i : Nat) : PtD := if i % c.N = 0 then farP else pt T (i % c.N)
theorem padd_gpt {c : CvD} {T : Nat} (t : Tells c T) (i j : Nat) : padd c (gpt c T i) (gpt c T j) = (gpt c T (i + j), true) := by
  have hn := t.n1
  have hi := Nat.mod_lt i (show 0 < c.N by omega)
  have hj := Nat.mod_lt j (show 0 < c.N by omega)
  unfold gpt
  rw [Nat.add_mod i j]
  refine gen_ex (i % c.N) fun a ea => ?_
  refine gen_ex (j % c.N) fun b eb => ?_
  rw [← ea] at hi ⊢
  rw [← eb] at hj ⊢
  clear ea eb
  by_cases ha : a = 0
  · subst ha
    rw [if_pos rfl, Nat.zero_add, Nat.mod_eq_of_lt hj]
    unfold padd
    rw [if_pos (show farP.far = true from rfl)]
  · rw [if_neg ha]
    by_cases hb : b = 0
    · subst hb
      rw [if_pos rfl, Nat.add_zero, Nat.mod_eq_of_lt hi, if_neg ha]
      unfold padd
      rw [if_neg (show ¬ (pt T a).far = true from Bool.false_ne_true), if_pos (show farP.far = true from rfl)]
    · rw [if_neg hb]
      by_cases hs : a + b = c.N
      · rw [hs, Nat.mod_self, if_pos rfl]
        obtain ⟨l, g2, _, e, _⟩ := one_at t (show 0 < a by omega) hi
        rw [show c.N - a = b by omega] at e
        rw [e]
        unfold padd
        rw [if_neg (show ¬ (pt T a).far = true from Bool.false_ne_true), if_neg (show ¬ (ng c.P (pt T a)).far = true from Bool.false_ne_true), if_pos (show (pt T a).x = (ng c.P (pt T a)).x from rfl), if_pos]
        simp only [ng]
        rw [addM_def, show (pt T a).y + (c.P - (pt T a).y) = c.P by have := l.2; omega, Nat.mod_self]
      · have hne : 0 < (a + b) % c.N := by
          rcases Nat.lt_or_ge (a + b) c.N with h3 | h3
          · rw [Nat.mod_eq_of_lt h3]; omega
          · rw [show a + b = (a + b - c.N) + c.N by omega, Nat.add_mod_right, Nat.mod_eq_of_lt (by omega)]; omega
        rw [if_neg (by omega)]
        exact two_sum t (by omega) hi (by omega) hj hs
theorem tells {k : Nat} (h : k < 8) : Tells (crv k) (tbl k) := by
  refine crv_cases (Q := fun k => Tells (crv k) (tbl k)) h ?_ ?_ ?_ ?_ ?_ ?_ ?_ ?_
  · exact ⟨crv_fermat (by decide), by decide, by decide, by decide, by decide, by decide, rfl, fun i h1 h2 => allN_at _ _ one0 i h1 (Nat.lt_of_lt_of_eq h2 rfl), fun i h1 h2 => two0 i h1 h2⟩
  · exact ⟨crv_fermat (by decide), by decide, by decide, by decide, by decide, by decide, rfl, fun i h1 h2 => allN_at _ _ one1 i h1 (Nat.lt_of_lt_of_eq h2 rfl), fun i h1 h2 => two1 i h1 h2⟩
  · exact ⟨crv_fermat (by decide), by decide, by decide, by decide, by decide, by decide, rfl, fun i h1 h2 => allN_at _ _ one2 i h1 (Nat.lt_of_lt_of_eq h2 rfl), fun i h1 h2 => two2 i h1 h2⟩
  · exact ⟨crv_fermat (by decide), by decide, by decide, by decide, by decide, by decide, rfl, fun i h1 h2 => allN_at _ _ one3 i h1 (Nat.lt_of_lt_of_eq h2 rfl), fun i h1 h2 => two3 i h1 h2⟩
  · exact ⟨crv_fermat (by decide), by decide, by decide, by decide, by decide, by decide, rfl, fun i h1 h2 => allN_at _ _ one4 i h1 (Nat.lt_of_lt_of_eq h2 rfl), fun i h1 h2 => two4 i h1 h2⟩
  · exact ⟨crv_fermat (by decide), by decide, by decide, by decide, by decide, by decide, rfl, fun i h1 h2 => allN_at _ _ one5 i h1 (Nat.lt_of_lt_of_eq h2 rfl), fun i h1 h2 => two5 i h1 h2⟩
  · exact ⟨crv_fermat (by decide), by decide, by decide, by decide, by decide, by decide, rfl, fun i h1 h2 => allN_at _ _ one6 i h1 (Nat.lt_of_lt_of_eq h2 rfl), fun i h1 h2 => two6 i h1 h2⟩
  · exact ⟨crv_fermat (by decide), by decide, by decide, by decide, by decide, by decide, rfl, fun i h1 h2 => allN_at _ _ one7 i h1 (Nat.lt_of_lt_of_eq h2 rfl), fun i h1 h2 => two7 i h1 h2⟩
end Go.Proofs.YtidkdlaihmpjfaaDoor
namespace Go.Proofs.YtidkdlaihmpjfaaDoor
set_option linter.unusedVariables false
set_option linter.unusedSimpArgs false
set_option linter.unusedSectionVars false
open Go.ChangeShapes Go.WideShapes Go.ChangeAt Go.RowKit Go.Joins
set_option maxRecDepth 10000
theorem good_crv {k : Nat} (h : k < 8) : Good (crv k) := by
  refine crv_cases (Q := fun k => Good (crv k)) h ?_ ?_ ?_ ?_ ?_ ?_ ?_ ?_
  all_goals
    refine ⟨by decide, by decide, by decide, by decide, by decide, by decide, by decide, by decide, by decide, ?_, ?_⟩
    · simp only [addM_def, mulM_def, modN_def]; decide
    · unfold sideM; simp only [addM_def, mulM_def]; decide
def gk (k i : Nat) : PtD := gpt (crv k) (tbl k) i
theorem gk_mod {k i j : Nat} (h : i % (crv k).N = j % (crv k).N) : gk k i = gk k j := by unfold gk gpt; rw [h]
theorem gk_sum {k : Nat} (h : k < 8) (i j : Nat) : padd (crv k) (gk k i) (gk k j) = (gk k (i + j), true) := padd_gpt (tells h) i j
theorem gk_far {k : Nat} (i : Nat) : (gk k i).far = decide (i % (crv k).N = 0) := by
  unfold gk gpt
  by_cases h : i % (crv k).N = 0
  · rw [if_pos h, decide_eq_true h]; rfl
  · rw [if_neg h, decide_eq_false h]; rfl
theorem gk_zero {k i : Nat} (h : i % (crv k).N = 0) : gk k i = farP := by unfold gk gpt; rw [if_pos h]
theorem gk_on {k : Nat} (h : k < 8) (i : Nat) : OnP (crv k) (gk k i) := by
  have t := tells h
  have hp := t.p3
  unfold gk gpt
  by_cases h0 : i % (crv k).N = 0
  · rw [if_pos h0]
    exact ⟨⟨by show 0 < _; omega, by show 0 < _; omega⟩, by unfold onB farP; simp⟩
  · rw [if_neg h0]
    obtain ⟨h1, h2, h3, _⟩ := one_at t (show 0 < i % (crv k).N by omega) (Nat.mod_lt _ (by have := t.n1; omega))
    refine ⟨h1, ?_⟩
    unfold onB
    rw [if_neg (show ¬ (pt (tbl k) (i % (crv k).N)).far = true from Bool.false_ne_true)]
    refine decide_eq_true ?_
    unfold sideM
    simp only [addM_def, mulM_def, t.A, Nat.zero_mul, Nat.zero_mod, Nat.add_zero, Nat.mod_mod, Nat.mod_add_mod]
    rw [h3, ← Nat.mod_add_mod (_ * _), ← Nat.mod_add_mod (_ * (_ * _ % _)), Nat.mul_mod_mod]
theorem gk_lt {k : Nat} (h : k < 8) (i : Nat) : (gk k i).lt T256 := by
  have h1 := (gk_on h i).lt
  have h2 := (good_crv h).P
  exact ⟨Nat.lt_trans h1.1 h2, Nat.lt_trans h1.2 h2⟩
theorem gk_steps {k : Nat} (h : k < 8) (i n : Nat) : Steps2 (crv k) (gk k i) n (fun v => gk k (v * i)) where
  zero := gk_zero (by rw [Nat.zero_mul, Nat.zero_mod])
  twice := fun v _ => by
    rw [gk_sum h, Nat.mul_comm 2 v, Nat.mul_assoc, Nat.two_mul, Nat.mul_add]
  more := fun v _ => by
    rw [gk_sum h, Nat.add_mul, Nat.one_mul]
  lt := fun v _ => (gk_on h _).lt
theorem mult_gk {k : Nat} (h : k < 8) (i : Nat) {n : Nat} (hn : n < T256) : FnV Tryd.prog G0 51 [(crv k).v, uV n, (gk k i).v] (.tup [(gk k (n * i)).v, nI .i64 0]) :=
  mult_ok (good_crv h) (gk_on h i) hn (gk_steps h i n)
theorem add_gk {k : Nat} (h : k < 8) (i j : Nat) : FnV Tryd.prog G0 89 [(crv k).v, (gk k i).v, (gk k j).v] (.tup [(gk k (i + j)).v, nI .i64 0]) :=
  cadd_ok (good_crv h) (gk_on h i) (gk_on h j) (gk_sum h i j)
theorem gk_base {k : Nat} (h : k < 8) : gk k 1 = (crv k).base := by
  refine crv_cases (Q := fun k => gk k 1 = (crv k).base) h ?_ ?_ ?_ ?_ ?_ ?_ ?_ ?_ <;> rfl
theorem uV_w4 {n : Nat} (h : n < B64) : uV n = .agg (words [n, 0, 0, 0]) := congrArg VV.agg (uC_lit h)
theorem crv_B64 {k : Nat} (h : k < 8) : (crv k).N < B64 ∧ (crv k).P < B64 := by
  obtain ⟨_, b1, _, b2, _⟩ := crv_bounds h
  have : 1000 < B64 := by decide
  omega
end Go.Proofs.YtidkdlaihmpjfaaDoor
namespace Go.Proofs.YtidkdlaihmpjfaaDoor
set_option linter.unusedVariables false
set_option linter.unusedSimpArgs false
set_option linter.unusedSectionVars false
open Go.ChangeShapes Go.WideShapes Go.ChangeAt Go.RowKit Go.Joins
set_option maxRecDepth 10000
theorem lift_none {c : CvD} (g : Good c) {x : Nat} (b : Bool) (hx : x < c.P) (hn : ∀ y, y < c.P → decide (y % 2 = 1) = b → onB c ⟨x, y, false⟩ = false) : FnV Tryd.prog G0 61 [c.v, uV x, bI b] (.tup [nilP.v, nI .i64 16]) := by
  have k := chk_ok g
  have hP := g.P
  have h4 := g.p4
  have h0 : 0 < c.P := by omega
  have ls : sideM c x < c.P := sideM_lt h0
  have c1 := cmp_fn (a := x) (b := c.P) (by omega) hP
  rw [cmpN_lt hx] at c1
  have r0 := ringOf_fnH c
  have sd := side_fnH false hP g.A g.B hx
  have dv := div_pos (a := c.P) (b := 4) hP (by decide) (by decide)
  rw [divN_def, show uV 4 = .agg (words [4, 0, 0, 0]) from congrArg VV.agg (uC_lit (n := 4) (by decide))] at dv
  have lh : c.P / 4 + 1 < T256 := by omega
  have ad := add_fn (a := c.P / 4) (b := 1) (by omega) (by decide)
  rw [addS_def, addO_def, Nat.mod_eq_of_lt lh, show uV 1 = .agg (words [1, 0, 0, 0]) from congrArg VV.agg (uC_lit (n := 1) (by decide))] at ad
  have pw := pow_fn ls lh hP
  have lz : powM c.P (sideM c x) (c.P / 4 + 1) < c.P := powM_lt h0
  refine gen_ex (powM c.P (sideM c x) (c.P / 4 + 1)) fun z ez => ?_
  rw [← ez] at pw lz
  clear ez
  have tk := take_ok (m := c.P) z false
  have oz := odd_lim z
  have nz := ne_zero (a := z) (by omega)
  have sb := sub_fn (a := c.P) (b := z) hP (by omega)
  rw [subS_def] at sb
  have o1 := on_fn (c := c) (p := ⟨x, z, false⟩) hP g.A g.B ⟨hx, lz⟩
  have zx : uC 0 = words [0, 0, 0, 0] := uC_lit (n := 0) (by decide)
  by_cases hb : decide (z % 2 = 1) = b
  · rw [hn z lz hb] at o1
    rw [hb] at oz
    clear hb hn
    unfold CvD.v CvD.cells PtD.v PtD.cells ringV HB nilP at *
    dsimp only at *
    rw [zx]
    refine gen_ex (sideM c x) fun S eS => ?_
    rw [← eS] at sd pw
    clear eS ls
    refine gen_ex (c.P / 4 + 1) fun Hf eH => ?_
    rw [← eH] at ad pw
    clear eH lh
    cases b
    all_goals
      refine fn_of_vwp Γok Tryd.func61 (by kernel_rfl) rfl (by simp [Tryd.ntmps61]) (wpv_ok Γok (by kernel_rfl) _ _ _ ?_); conv => whnf
      refine ⟨_, ret_of_fn G0ok (k) (by first | rfl | simp only [noHs, noH, nI, bI, Bool.and_self, Bool.and_true, Bool.true_and, ]) (by first | rfl | simp only [noHs, noH, nI, bI, Bool.and_self, Bool.and_true, Bool.true_and, ]), ?_⟩; (conv => whnf); (try (refine ⟨by kernel_rfl, ?_⟩; conv => whnf))
      refine ⟨_, ret_of_fn G0ok (c1) (by first | rfl | simp only [noHs, noH, nI, bI, Bool.and_self, Bool.and_true, Bool.true_and, ]) (by first | rfl | simp only [noHs, noH, nI, bI, Bool.and_self, Bool.and_true, Bool.true_and, ]), ?_⟩; (conv => whnf); (try (refine ⟨by kernel_rfl, ?_⟩; conv => whnf))
      refine ⟨_, ret_fnH G0ok (r0) [] (res' := .agg (uC c.P ++ [.ptr 3 0])) rfl rfl rfl rfl rfl trivial (outHB _) rfl rfl (upd := [(3, some [bI false])]) (by rfl), ?_⟩; (conv => whnf); (try (refine ⟨by kernel_rfl, ?_⟩; conv => whnf))
      refine ⟨_, ret_of_fn G0ok (dv) (by first | rfl | simp only [noHs, noH, nI, bI, Bool.and_self, Bool.and_true, Bool.true_and, ]) (by first | rfl | simp only [noHs, noH, nI, bI, Bool.and_self, Bool.and_true, Bool.true_and, ]), ?_⟩; (conv => whnf); (try (refine ⟨by kernel_rfl, ?_⟩; conv => whnf))
      refine ⟨_, ret_of_fn G0ok (ad) (by first | rfl | simp only [noHs, noH, nI, bI, Bool.and_self, Bool.and_true, Bool.true_and, ]) (by first | rfl | simp only [noHs, noH, nI, bI, Bool.and_self, Bool.and_true, Bool.true_and, ]), ?_⟩; (conv => whnf); (try (refine ⟨by kernel_rfl, ?_⟩; conv => whnf))
      refine ⟨_, ret_fnH G0ok (sd) [3] (res' := uV S) rfl rfl rfl rfl rfl ⟨trivial, _, rfl, rfl, rfl⟩ (outHB _) rfl rfl (upd := [(3, some [bI false])]) (by rfl), ?_⟩; (conv => whnf); (try (refine ⟨by kernel_rfl, ?_⟩; conv => whnf))
      refine ⟨_, ret_of_fn G0ok (pw) (by first | rfl | simp only [noHs, noH, nI, bI, Bool.and_self, Bool.and_true, Bool.true_and, ]) (by first | rfl | simp only [noHs, noH, nI, bI, Bool.and_self, Bool.and_true, Bool.true_and, ]), ?_⟩; (conv => whnf); (try (refine ⟨by kernel_rfl, ?_⟩; conv => whnf))
      refine ⟨_, ret_fnH G0ok (tk) [3] (res' := uV z) rfl rfl rfl rfl rfl ⟨trivial, _, rfl, rfl, rfl⟩ (outHB _) rfl rfl (upd := [(3, some [bI false])]) (by rfl), ?_⟩; (conv => whnf); (try (refine ⟨by kernel_rfl, ?_⟩; conv => whnf))
      rw [oz]
      conv => whnf
      try (refine ⟨by kernel_rfl, ?_⟩; conv => whnf)
      rw [oz]
      conv => whnf
      try (refine ⟨by kernel_rfl, ?_⟩; conv => whnf)
      refine ⟨_, ret_of_fn G0ok (o1) (by first | rfl | simp only [noHs, noH, nI, bI, Bool.and_self, Bool.and_true, Bool.true_and, ]) (by first | rfl | simp only [noHs, noH, nI, bI, Bool.and_self, Bool.and_true, Bool.true_and, ]), ?_⟩; (conv => whnf); (try (refine ⟨by kernel_rfl, ?_⟩; conv => whnf))
      exact ⟨_, rfl, rfl⟩
  · by_cases z0 : z = 0
    · subst z0
      have hb' : b = true := by cases b; exact absurd (decide_eq_false (by decide)) hb; rfl
      subst hb'
      rw [decide_eq_false (by decide)] at oz
      rw [decide_eq_true rfl] at nz
      clear hb hn o1
      unfold CvD.v CvD.cells PtD.v PtD.cells ringV HB nilP at *
      dsimp only at *
      rw [zx]
      refine gen_ex (sideM c x) fun S eS => ?_
      rw [← eS] at sd pw
      clear eS ls
      refine gen_ex (c.P / 4 + 1) fun Hf eH => ?_
      rw [← eH] at ad pw
      clear eH lh
      refine fn_of_vwp Γok Tryd.func61 (by kernel_rfl) rfl (by simp [Tryd.ntmps61]) (wpv_ok Γok (by kernel_rfl) _ _ _ ?_); conv => whnf
      refine ⟨_, ret_of_fn G0ok (k) (by first | rfl | simp only [noHs, noH, nI, bI, Bool.and_self, Bool.and_true, Bool.true_and, ]) (by first | rfl | simp only [noHs, noH, nI, bI, Bool.and_self, Bool.and_true, Bool.true_and, ]), ?_⟩; (conv => whnf); (try (refine ⟨by kernel_rfl, ?_⟩; conv => whnf))
      refine ⟨_, ret_of_fn G0ok (c1) (by first | rfl | simp only [noHs, noH, nI, bI, Bool.and_self, Bool.and_true, Bool.true_and, ]) (by first | rfl | simp only [noHs, noH, nI, bI, Bool.and_self, Bool.and_true, Bool.true_and, ]), ?_⟩; (conv => whnf); (try (refine ⟨by kernel_rfl, ?_⟩; conv => whnf))
      refine ⟨_, ret_fnH G0ok (r0) [] (res' := .agg (uC c.P ++ [.ptr 3 0])) rfl rfl rfl rfl rfl trivial (outHB _) rfl rfl (upd := [(3, some [bI false])]) (by rfl), ?_⟩; (conv => whnf); (try (refine ⟨by kernel_rfl, ?_⟩; conv => whnf))
      refine ⟨_, ret_of_fn G0ok (dv) (by first | rfl | simp only [noHs, noH, nI, bI, Bool.and_self, Bool.and_true, Bool.true_and, ]) (by first | rfl | simp only [noHs, noH, nI, bI, Bool.and_self, Bool.and_true, Bool.true_and, ]), ?_⟩; (conv => whnf); (try (refine ⟨by kernel_rfl, ?_⟩; conv => whnf))
      refine ⟨_, ret_of_fn G0ok (ad) (by first | rfl | simp only [noHs, noH, nI, bI, Bool.and_self, Bool.and_true, Bool.true_and, ]) (by first | rfl | simp only [noHs, noH, nI, bI, Bool.and_self, Bool.and_true, Bool.true_and, ]), ?_⟩; (conv => whnf); (try (refine ⟨by kernel_rfl, ?_⟩; conv => whnf))
      refine ⟨_, ret_fnH G0ok (sd) [3] (res' := uV S) rfl rfl rfl rfl rfl ⟨trivial, _, rfl, rfl, rfl⟩ (outHB _) rfl rfl (upd := [(3, some [bI false])]) (by rfl), ?_⟩; (conv => whnf); (try (refine ⟨by kernel_rfl, ?_⟩; conv => whnf))
      refine ⟨_, ret_of_fn G0ok (pw) (by first | rfl | simp only [noHs, noH, nI, bI, Bool.and_self, Bool.and_true, Bool.true_and, ]) (by first | rfl | simp only [noHs, noH, nI, bI, Bool.and_self, Bool.and_true, Bool.true_and, ]), ?_⟩; (conv => whnf); (try (refine ⟨by kernel_rfl, ?_⟩; conv => whnf))
      refine ⟨_, ret_fnH G0ok (tk) [3] (res' := uV 0) rfl rfl rfl rfl rfl ⟨trivial, _, rfl, rfl, rfl⟩ (outHB _) rfl rfl (upd := [(3, some [bI false])]) (by rfl), ?_⟩; (conv => whnf); (try (refine ⟨by kernel_rfl, ?_⟩; conv => whnf))
      rw [oz]
      conv => whnf
      try (refine ⟨by kernel_rfl, ?_⟩; conv => whnf)
      refine ⟨_, nz, ?_⟩
      conv => whnf
      try (refine ⟨by kernel_rfl, ?_⟩; conv => whnf)
      rw [oz]
      conv => whnf
      try (refine ⟨by kernel_rfl, ?_⟩; conv => whnf)
      exact ⟨_, rfl, rfl⟩
    · have hzo : decide (z % 2 = 1) = !b := by
        cases b <;> revert hb <;> cases decide (z % 2 = 1) <;> simp
      have hyo : decide ((c.P - z) % 2 = 1) = b := by
        have : z % 2 = 1 ↔ ¬ (c.P - z) % 2 = 1 := by omega
        cases b
        · have h1 := of_decide_eq_true hzo
          exact decide_eq_false (this.1 h1)
        · have h1 := of_decide_eq_false hzo
          exact decide_eq_true (Classical.byContradiction fun h2 => h1 (this.2 h2))
      have hsb : (c.P + T256 - z) % T256 = c.P - z := by
        rw [show c.P + T256 - z = (c.P - z) + T256 by omega, Nat.add_mod_right, Nat.mod_eq_of_lt (by omega)]
      rw [hsb] at sb
      rw [hzo] at oz
      have oy := odd_lim (c.P - z)
      rw [hyo] at oy
      have ly : c.P - z < c.P := by omega
      have o2 := on_fn (c := c) (p := ⟨x, c.P - z, false⟩) hP g.A g.B ⟨hx, ly⟩
      rw [hn _ ly hyo] at o2
      rw [decide_eq_false z0] at nz
      clear hb hn hzo hyo hsb o1
      unfold CvD.v CvD.cells PtD.v PtD.cells ringV HB nilP at *
      dsimp only at *
      rw [zx]
      refine gen_ex (c.P - z) fun y ey => ?_
      rw [← ey] at sb oy o2 ly
      clear ey
      refine gen_ex (sideM c x) fun S eS => ?_
      rw [← eS] at sd pw
      clear eS ls
      refine gen_ex (c.P / 4 + 1) fun Hf eH => ?_
      rw [← eH] at ad pw
      clear eH lh
      cases b
      all_goals
        refine fn_of_vwp Γok Tryd.func61 (by kernel_rfl) rfl (by simp [Tryd.ntmps61]) (wpv_ok Γok (by kernel_rfl) _ _ _ ?_); conv => whnf
        refine ⟨_, ret_of_fn G0ok (k) (by first | rfl | simp only [noHs, noH, nI, bI, Bool.and_self, Bool.and_true, Bool.true_and, ]) (by first | rfl | simp only [noHs, noH, nI, bI, Bool.and_self, Bool.and_true, Bool.true_and, ]), ?_⟩; (conv => whnf); (try (refine ⟨by kernel_rfl, ?_⟩; conv => whnf))
        refine ⟨_, ret_of_fn G0ok (c1) (by first | rfl | simp only [noHs, noH, nI, bI, Bool.and_self, Bool.and_true, Bool.true_and, ]) (by first | rfl | simp only [noHs, noH, nI, bI, Bool.and_self, Bool.and_true, Bool.true_and, ]), ?_⟩; (conv => whnf); (try (refine ⟨by kernel_rfl, ?_⟩; conv => whnf))
        refine ⟨_, ret_fnH G0ok (r0) [] (res' := .agg (uC c.P ++ [.ptr 3 0])) rfl rfl rfl rfl rfl trivial (outHB _) rfl rfl (upd := [(3, some [bI false])]) (by rfl), ?_⟩; (conv => whnf); (try (refine ⟨by kernel_rfl, ?_⟩; conv => whnf))
        refine ⟨_, ret_of_fn G0ok (dv) (by first | rfl | simp only [noHs, noH, nI, bI, Bool.and_self, Bool.and_true, Bool.true_and, ]) (by first | rfl | simp only [noHs, noH, nI, bI, Bool.and_self, Bool.and_true, Bool.true_and, ]), ?_⟩; (conv => whnf); (try (refine ⟨by kernel_rfl, ?_⟩; conv => whnf))
        refine ⟨_, ret_of_fn G0ok (ad) (by first | rfl | simp only [noHs, noH, nI, bI, Bool.and_self, Bool.and_true, Bool.true_and, ]) (by first | rfl | simp only [noHs, noH, nI, bI, Bool.and_self, Bool.and_true, Bool.true_and, ]), ?_⟩; (conv => whnf); (try (refine ⟨by kernel_rfl, ?_⟩; conv => whnf))
        refine ⟨_, ret_fnH G0ok (sd) [3] (res' := uV S) rfl rfl rfl rfl rfl ⟨trivial, _, rfl, rfl, rfl⟩ (outHB _) rfl rfl (upd := [(3, some [bI false])]) (by rfl), ?_⟩; (conv => whnf); (try (refine ⟨by kernel_rfl, ?_⟩; conv => whnf))
        refine ⟨_, ret_of_fn G0ok (pw) (by first | rfl | simp only [noHs, noH, nI, bI, Bool.and_self, Bool.and_true, Bool.true_and, ]) (by first | rfl | simp only [noHs, noH, nI, bI, Bool.and_self, Bool.and_true, Bool.true_and, ]), ?_⟩; (conv => whnf); (try (refine ⟨by kernel_rfl, ?_⟩; conv => whnf))
        refine ⟨_, ret_fnH G0ok (tk) [3] (res' := uV z) rfl rfl rfl rfl rfl ⟨trivial, _, rfl, rfl, rfl⟩ (outHB _) rfl rfl (upd := [(3, some [bI false])]) (by rfl), ?_⟩; (conv => whnf); (try (refine ⟨by kernel_rfl, ?_⟩; conv => whnf))
        rw [oz]
        conv => whnf
        try (refine ⟨by kernel_rfl, ?_⟩; conv => whnf)
        refine ⟨_, nz, ?_⟩
        conv => whnf
        try (refine ⟨by kernel_rfl, ?_⟩; conv => whnf)
        refine ⟨_, ret_of_fn G0ok (sb) (by first | rfl | simp only [noHs, noH, nI, bI, Bool.and_self, Bool.and_true, Bool.true_and, ]) (by first | rfl | simp only [noHs, noH, nI, bI, Bool.and_self, Bool.and_true, Bool.true_and, ]), ?_⟩; (conv => whnf); (try (refine ⟨by kernel_rfl, ?_⟩; conv => whnf))
        rw [oy]
        conv => whnf
        try (refine ⟨by kernel_rfl, ?_⟩; conv => whnf)
        refine ⟨_, ret_of_fn G0ok (o2) (by first | rfl | simp only [noHs, noH, nI, bI, Bool.and_self, Bool.and_true, Bool.true_and, ]) (by first | rfl | simp only [noHs, noH, nI, bI, Bool.and_self, Bool.and_true, Bool.true_and, ]), ?_⟩; (conv => whnf); (try (refine ⟨by kernel_rfl, ?_⟩; conv => whnf))
        exact ⟨_, rfl, rfl⟩
/-- Is x told by one of the first m points? -/
noncomputable def anyX (T x : Nat) (m : Nat) : Nat → Bool := @Nat.rec (fun _ => Nat → Bool) (fun _ => false) (fun _ ih i => @Bool.rec (fun _ => Bool) (frc (Nat.succ i) ih) true (Nat.beq (Nat.div (ent T i) 1024) x)) m
theorem anyX_at {T x : Nat} : ∀ (m i : Nat), anyX T x m i = true → ∃ j, i ≤ j ∧ j < i + m ∧ ent T j / 1024 = x
  | 0, i, h => by cases (show false = true from h)
  | m + 1, i, h => by
    have h : @Bool.rec (fun _ => Bool) (frc (Nat.succ i) (anyX T x m)) true (Nat.beq (Nat.div (ent T i) 1024) x) = true := h
    rw [frc_eq] at h
    cases e : Nat.beq (Nat.div (ent T i) 1024) x
    · rw [e] at h
      obtain ⟨j, h1, h2, h3⟩ := anyX_at m (i + 1) h
      exact ⟨j, by omega, by omega, h3⟩
    · exact ⟨i, Nat.le_refl _, by omega, Nat.eq_of_beq_eq_true e⟩
/-- Either no number's square is what it would have to be, or the point is told. -/
noncomputable def chkX (p b n T x : Nat) : Bool := frc (Nat.mod (Nat.add (Nat.mul x (Nat.mul x x)) b) p) fun s =>
  @Bool.rec (fun _ => Bool) (@Bool.rec (fun _ => Bool) (not (Nat.beq (Nat.mod (Nat.pow s (Nat.div (Nat.sub p 1) 2)) p) 1)) (anyX T x (Nat.div n 2) 1) (Nat.beq (Nat.mod (Nat.pow s (Nat.div (Nat.sub p 1) 2)) p) 1)) false (Nat.beq s 0)
theorem chkX_t {p b n T x : Nat} (h : chkX p b n T x = true) : (x * (x * x) + b) % p ≠ 0 ∧ (((x * (x * x) + b) % p) ^ ((p - 1) / 2) % p = 1 → ∃ j, 1 ≤ j ∧ j < 1 + n / 2 ∧ ent T j / 1024 = x) := by
  unfold chkX at h
  rw [frc_eq] at h
  have h : @Bool.rec (fun _ => Bool) (@Bool.rec (fun _ => Bool) (not (Nat.beq (((x * (x * x) + b) % p) ^ ((p - 1) / 2) % p) 1)) (anyX T x (Nat.div n 2) 1) (Nat.beq (((x * (x * x) + b) % p) ^ ((p - 1) / 2) % p) 1)) false (Nat.beq ((x * (x * x) + b) % p) 0) = true := h
  cases e : Nat.beq ((x * (x * x) + b) % p) 0
  · rw [e] at h
    have e0 := Nat.ne_of_beq_eq_false e
    refine ⟨e0, fun e1 => ?_⟩
    rw [show Nat.beq (((x * (x * x) + b) % p) ^ ((p - 1) / 2) % p) 1 = true from by rw [e1]; rfl] at h
    exact anyX_at _ _ h
  · rw [e] at h
    cases h
theorem chkX0 : allN (chkX 43 7 31 (tbl 0)) 43 0 = true := by kernel_rfl
theorem chkX1 : allN (chkX 67 2 73 (tbl 1)) 67 0 = true := by kernel_rfl
theorem chkX2 : allN (chkX 79 6 67 (tbl 2)) 79 0 = true := by kernel_rfl
theorem chkX3 : allN (chkX 139 2 163 (tbl 3)) 139 0 = true := by kernel_rfl
theorem chkX4 : allN (chkX 163 3 181 (tbl 4)) 163 0 = true := by kernel_rfl
theorem chkX5 : allN (chkX 211 3 199 (tbl 5)) 211 0 = true := by kernel_rfl
theorem chkX6 : allN (chkX 379 2 409 (tbl 6)) 379 0 = true := by kernel_rfl
theorem chkX7 : allN (chkX 691 3 643 (tbl 7)) 691 0 = true := by kernel_rfl
theorem chkX_all {k : Nat} (h : k < 8) {x : Nat} (hx : x < (crv k).P) : chkX (crv k).P (crv k).B (crv k).N (tbl k) x = true := by
  refine crv_cases (Q := fun k => x < (crv k).P → chkX (crv k).P (crv k).B (crv k).N (tbl k) x = true) h ?_ ?_ ?_ ?_ ?_ ?_ ?_ ?_ hx
  · exact fun hx => allN_at _ _ chkX0 x (Nat.zero_le _) (Nat.lt_of_lt_of_eq hx rfl)
  · exact fun hx => allN_at _ _ chkX1 x (Nat.zero_le _) (Nat.lt_of_lt_of_eq hx rfl)
  · exact fun hx => allN_at _ _ chkX2 x (Nat.zero_le _) (Nat.lt_of_lt_of_eq hx rfl)
  · exact fun hx => allN_at _ _ chkX3 x (Nat.zero_le _) (Nat.lt_of_lt_of_eq hx rfl)
  · exact fun hx => allN_at _ _ chkX4 x (Nat.zero_le _) (Nat.lt_of_lt_of_eq hx rfl)
  · exact fun hx => allN_at _ _ chkX5 x (Nat.zero_le _) (Nat.lt_of_lt_of_eq hx rfl)
  · exact fun hx => allN_at _ _ chkX6 x (Nat.zero_le _) (Nat.lt_of_lt_of_eq hx rfl)
  · exact fun hx => allN_at _ _ chkX7 x (Nat.zero_le _) (Nat.lt_of_lt_of_eq hx rfl)
theorem gk_pt {k i : Nat} (h0 : 0 < i) (h1 : i < (crv k).N) : gk k i = pt (tbl k) i := by unfold gk gpt; rw [Nat.mod_eq_of_lt h1, if_neg (by omega)]
/-- A point's y is not nought. -/
theorem gk_y {k : Nat} (h : k < 8) {i : Nat} (h0 : 0 < i) (h1 : i < (crv k).N) : 0 < (gk k i).y := by
  rw [gk_pt h0 h1]
  exact (one_at (tells h) h0 h1).2.1
theorem gk_ng {k : Nat} (h : k < 8) {i : Nat} (h0 : 0 < i) (h1 : i < (crv k).N) : gk k ((crv k).N - i) = ⟨(gk k i).x, (crv k).P - (gk k i).y, false⟩ := by
  rw [gk_pt h0 h1, gk_pt (by omega) (by omega)]
  exact (one_at (tells h) h0 h1).2.2.2.1
theorem gk_half {k : Nat} (h : k < 8) : (crv k).N / 2 < (crv k).N := by obtain ⟨_, _, b, _⟩ := crv_bounds h; omega
theorem gk_sq {k : Nat} (h : k < 8) {x y : Nat} (e : onB (crv k) ⟨x, y, false⟩ = true) : y * y % (crv k).P = (x * (x * x) + (crv k).B) % (crv k).P := by
  unfold onB at e
  rw [if_neg Bool.false_ne_true] at e
  have e := of_decide_eq_true e
  dsimp only at e
  unfold sideM at e
  simp only [addM_def, mulM_def, (tells h).A, Nat.zero_mul, Nat.zero_mod, Nat.add_zero, Nat.mod_mod, Nat.mod_add_mod] at e
  rw [e, ← Nat.mod_add_mod (x * (x * x % _)), Nat.mul_mod_mod, Nat.mod_add_mod]
theorem crv_root {k : Nat} (h : k < 8) {x y : Nat} (hx : x < (crv k).P) (hy : y < (crv k).P) (e : onB (crv k) ⟨x, y, false⟩ = true) : ∃ i, 0 < i ∧ i < (crv k).N ∧ gk k i = ⟨x, y, false⟩ := by
  have t := tells h
  have hp3 := t.p3
  have hodd := t.odd
  have hh := gk_half h
  have e2 := gk_sq h e
  obtain ⟨g1, g2⟩ := chkX_t (chkX_all h hx)
  have hy0 : 0 < y := by
    rcases Nat.eq_zero_or_pos y with h0 | h0
    · subst h0
      rw [← e2] at g1
      exact absurd (by rw [Nat.zero_mul, Nat.zero_mod]) g1
    · exact h0
  obtain ⟨j, j1, j2, j3⟩ := g2 (by
    rw [← e2, ← Nat.pow_mod, ← Nat.pow_two, ← Nat.pow_mul, show 2 * (((crv k).P - 1) / 2) = (crv k).P - 1 by omega]
    exact fermat_at t.fer hy0 hy)
  have jN : j < (crv k).N := by omega
  have ej := gk_pt (k := k) (i := j) (by omega) jN
  obtain ⟨⟨l1, l2⟩, l3, l4, _⟩ := one_at t (show 0 < j by omega) jN
  have ex : (pt (tbl k) j).x = x := j3
  rw [ex, ← e2] at l4
  rcases sqrt_two t.fer (by omega) hy0 hy l2 l4 with h1 | h1
  · refine ⟨j, by omega, jN, ?_⟩
    rw [ej, ← ex, ← h1]
    rfl
  · refine ⟨(crv k).N - j, by omega, by omega, ?_⟩
    rw [gk_ng h (by omega) jN, ej, ex, show (crv k).P - (pt (tbl k) j).y = y by omega]
end Go.Proofs.YtidkdlaihmpjfaaDoor
namespace Go.Proofs.YtidkdlaihmpjfaaDoor
set_option linter.unusedVariables false
set_option linter.unusedSimpArgs false
set_option linter.unusedSectionVars false
open Go.ChangeShapes Go.WideShapes Go.ChangeAt Go.RowKit Go.Joins
set_option maxRecDepth 10000
theorem cong_rfl (m : Nat) (x : Int) : cong m x x := ⟨0, by rw [Int.mul_zero, Int.add_zero]⟩
theorem cong_symm {m : Nat} {x y : Int} (h : cong m x y) : cong m y x := by obtain ⟨k, h⟩ := h; exact ⟨-k, by rw [h, Int.mul_neg]; omega⟩
theorem cong_trans {m : Nat} {x y z : Int} (h : cong m x y) (g : cong m y z) : cong m x z := by
  obtain ⟨k, h⟩ := h
  obtain ⟨l, g⟩ := g
  exact ⟨l + k, by rw [h, g, Int.mul_add]; omega⟩
theorem cong_plus {m : Nat} {a b c d : Int} (h : cong m a b) (g : cong m c d) : cong m (a + c) (b + d) := by
  obtain ⟨k, h⟩ := h
  obtain ⟨l, g⟩ := g
  exact ⟨k + l, by rw [h, g, Int.mul_add]; omega⟩
theorem cong_times {m : Nat} {a b c d : Int} (h : cong m a b) (g : cong m c d) : cong m (a * c) (b * d) := by
  obtain ⟨k, h⟩ := h
  obtain ⟨l, g⟩ := g
  exact ⟨b * l + k * d + m * k * l, by subst h g; grind⟩
theorem cong_neg {m : Nat} {a b : Int} (h : cong m a b) : cong m (-a) (-b) := by
  obtain ⟨k, h⟩ := h
  exact ⟨-k, by rw [h, Int.mul_neg]; omega⟩
theorem cong_emod {m x y : Nat} (h : cong m x y) : x % m = y % m := by
  obtain ⟨k, hk⟩ := h
  have h1 := Int.add_mul_emod_self_left (y : Int) (m : Int) k
  rw [← hk] at h1
  omega
/-- What is taken so often may be struck where it has an inverse. -/
theorem cong_cancel {m a : Nat} {x y : Int} {v : Nat} (hv : isInv m a v) (hm : 1 < m) (h : cong m (a * x) (a * y)) : cong m x y := by
  have e := cong_inv hv hm
  have h1 := cong_times (cong_rfl m v) h
  have h2 := cong_times e (cong_rfl m x)
  have h3 := cong_times e (cong_rfl m y)
  rw [Int.one_mul, Int.mul_assoc] at h2 h3
  exact cong_trans (cong_symm h2) (cong_trans h1 h3)
section
variable {k : Nat} (h : k < 8)
include h
theorem cN1 : 1 < (crv k).N := by obtain ⟨_, _, b, _⟩ := crv_bounds h; omega
theorem cN_inv {a : Nat} (h0 : 0 < a) (h1 : a < (crv k).N) : isInv (crv k).N a (invM (crv k).N a) := invM_ok h1 (fermat_coprime (crv_fermatN h) (by have := cN1 h; omega) h0 h1)
theorem cN_gcd {a : Nat} (h0 : 0 < a) (h1 : a < (crv k).N) : Nat.gcd a (crv k).N = 1 := fermat_coprime (crv_fermatN h) (by have := cN1 h; omega) h0 h1
theorem cN_cancel {a : Nat} {x y : Int} (h0 : 0 < a) (h1 : a < (crv k).N) (e : cong (crv k).N (a * x) (a * y)) : cong (crv k).N x y := cong_cancel (cN_inv h h0 h1) (cN1 h) e
/-- The multiple that Check comes to. -/
noncomputable def chkI (k z R S j : Nat) : Nat := mulM (crv k).N z (invM (crv k).N S) + mulM (crv k).N R (invM (crv k).N S) * j
theorem chkI_eq {z R S : Nat} (j : Nat) (h0 : 0 < S) (h1 : S < (crv k).N) : cong (crv k).N ((S : Int) * (chkI k z R S j : Nat)) ((z : Int) + R * j) := by
  have v := cong_inv (cN_inv h h0 h1) (cN1 h)
  have a := cong_mul (m := (crv k).N) z (invM (crv k).N S)
  have b := cong_mul (m := (crv k).N) R (invM (crv k).N S)
  have e : ((chkI k z R S j : Nat) : Int) = (mulM (crv k).N z (invM (crv k).N S) : Nat) + (mulM (crv k).N R (invM (crv k).N S) : Nat) * (j : Int) := by unfold chkI; push_cast; rfl
  rw [e]
  have c := cong_times (cong_rfl _ (S : Int)) (cong_plus a (cong_times b (cong_rfl _ (j : Int))))
  refine cong_trans c ?_
  have d := cong_times v (cong_rfl _ ((z : Int) + R * j))
  rw [Int.one_mul] at d
  refine cong_trans ?_ d
  rw [show (S : Int) * ((z : Int) * (invM (crv k).N S : Nat) + (R : Int) * (invM (crv k).N S : Nat) * j) = (invM (crv k).N S : Nat) * (S : Int) * ((z : Int) + R * j) from by grind]
  exact cong_rfl _ _
/-- The multiple that Recover comes to. -/
noncomputable def recI (k z R S i : Nat) : Nat := mulM (crv k).N S (invM (crv k).N R) * i + subM (crv k).N 0 (mulM (crv k).N z (invM (crv k).N R))
theorem recI_eq {z R S : Nat} (i : Nat) (h0 : 0 < R) (h1 : R < (crv k).N) : cong (crv k).N ((R : Int) * (recI k z R S i : Nat)) ((S : Int) * i - z) := by
  have v := cong_inv (cN_inv h h0 h1) (cN1 h)
  have n1 := cN1 h
  have a := cong_mul (m := (crv k).N) S (invM (crv k).N R)
  have b := cong_mul (m := (crv k).N) z (invM (crv k).N R)
  have c := cong_sub (m := (crv k).N) (a := 0) (b := mulM (crv k).N z (invM (crv k).N R)) (Nat.le_of_lt (mulM_lt (by omega)))
  have e : ((recI k z R S i : Nat) : Int) = (mulM (crv k).N S (invM (crv k).N R) : Nat) * (i : Int) + (subM (crv k).N 0 (mulM (crv k).N z (invM (crv k).N R)) : Nat) := by unfold recI; push_cast; rfl
  rw [e]
  have c2 : cong (crv k).N (subM (crv k).N 0 (mulM (crv k).N z (invM (crv k).N R)) : Nat) (-((z : Int) * (invM (crv k).N R : Nat))) := by
    refine cong_trans c ?_
    rw [show ((0 : Nat) : Int) - (mulM (crv k).N z (invM (crv k).N R) : Nat) = -(mulM (crv k).N z (invM (crv k).N R) : Nat) from by omega]
    exact cong_neg b
  have d := cong_times (cong_rfl _ (R : Int)) (cong_plus (cong_times a (cong_rfl _ (i : Int))) c2)
  refine cong_trans d ?_
  have f := cong_times v (cong_rfl _ ((S : Int) * i - z))
  rw [Int.one_mul] at f
  refine cong_trans ?_ f
  rw [show (R : Int) * ((S : Int) * (invM (crv k).N R : Nat) * i + -((z : Int) * (invM (crv k).N R : Nat))) = (invM (crv k).N R : Nat) * (R : Int) * ((S : Int) * i - z) from by grind]
  exact cong_rfl _ _
theorem gk_cong {i j : Nat} (e : cong (crv k).N (i : Int) (j : Int)) : gk k i = gk k j := gk_mod (cong_emod e)
theorem gk_inj {i j : Nat} (e : gk k i = gk k j) : i % (crv k).N = j % (crv k).N := by
  have n1 := cN1 h
  have lj := Nat.mod_lt j (show 0 < (crv k).N by omega)
  have li := Nat.mod_lt i (show 0 < (crv k).N by omega)
  have s1 := gk_sum h i ((crv k).N - j % (crv k).N)
  have s2 := gk_sum h j ((crv k).N - j % (crv k).N)
  rw [e, s2] at s1
  have s3 := (Prod.mk.inj s1).1
  have f1 := gk_far (k := k) (j + ((crv k).N - j % (crv k).N))
  have f2 := gk_far (k := k) (i + ((crv k).N - j % (crv k).N))
  rw [s3, f2] at f1
  have z1 : (j + ((crv k).N - j % (crv k).N)) % (crv k).N = 0 := by
    rw [← Nat.mod_add_mod, show j % (crv k).N + ((crv k).N - j % (crv k).N) = (crv k).N by omega, Nat.mod_self]
  rw [z1, decide_eq_true rfl] at f1
  have z2 := of_decide_eq_true f1
  rw [← Nat.mod_add_mod] at z2
  rcases Nat.lt_trichotomy (i % (crv k).N) (j % (crv k).N) with g | g | g
  · rw [Nat.mod_eq_of_lt (by omega)] at z2; omega
  · exact g
  · rw [show i % (crv k).N + ((crv k).N - j % (crv k).N) = (i % (crv k).N - j % (crv k).N) + (crv k).N by omega, Nat.add_mod_right, Nat.mod_eq_of_lt (by omega)] at z2; omega
theorem crv_2N : (crv k).P < 2 * (crv k).N ∧ (crv k).P + (crv k).N < T256 := by
  refine crv_cases (Q := fun k => (crv k).P < 2 * (crv k).N ∧ (crv k).P + (crv k).N < T256) h ?_ ?_ ?_ ?_ ?_ ?_ ?_ ?_ <;> exact ⟨by decide, by decide⟩
theorem gk_xP (i : Nat) : (gk k i).x < (crv k).P := (gk_on h i).lt.1
/-- The point that is lifted. -/
theorem lift_gk {i : Nat} (h0 : 0 < i) (h1 : i < (crv k).N) : FnV Tryd.prog G0 61 [(crv k).v, uV (gk k i).x, bI (decide ((gk k i).y % 2 = 1))] (.tup [(gk k i).v, nI .i64 0]) := by
  have on := gk_on h i
  have y0 := gk_y h h0 h1
  have f : (gk k i).far = false := by rw [gk_far, Nat.mod_eq_of_lt h1]; exact decide_eq_false (by omega)
  refine gen_ex (gk k i) fun p ep => ?_
  rw [← ep] at on y0 f ⊢
  clear ep
  obtain ⟨x, y, far⟩ := p
  dsimp only at f
  subst f
  exact lift_ok (good_crv h) (crv_fermat h) on y0
theorem sum2_gk {u v : Nat} (hu : u < T256) (hv : v < T256) (i j : Nat) : FnV Tryd.prog G0 65 [(crv k).v, uV u, (gk k i).v, uV v, (gk k j).v] (.tup [(gk k (u * i + v * j)).v, nI .i64 0]) :=
  sum2_of (mult_gk h i hu) (mult_gk h j hv) (add_gk h (u * i) (v * j))
theorem check_gk {j : Nat} (hj : j % (crv k).N ≠ 0) {b : List Nat} (lb : b.length = 32) (hb : ∀ x ∈ b, x < 256) {s : SgD} (hs : formB (crv k) s = true) (R0 : 0 < s.R) (hR : s.R < (crv k).N) (S0 : 0 < s.S) (hS : s.S < (crv k).N) :
    FnV Tryd.prog G0 35 [(crv k).v, (gk k j).v, .agg (bts b), s.v] (nI .i64 (if chkE (crv k) (gk k (chkI k (modN (fromV b 32) (crv k).N) s.R s.S j)) s.R then 0 else 10)) := by
  have g := good_crv h
  have n1 := cN1 h
  have hN := g.N
  have lt : ∀ a b, mulM (crv k).N a b < T256 := fun a b => Nat.lt_trans (mulM_lt (by omega)) hN
  have s2 := sum2_gk h (lt (modN (fromV b 32) (crv k).N) (invM (crv k).N s.S)) (lt s.R (invM (crv k).N s.S)) 1 j
  rw [gk_base h, Nat.mul_one] at s2
  exact check_of g (gk_on h j) (by rw [gk_far]; exact decide_eq_false hj) lb hb hs hR hS (cN_gcd h S0 hS) (gk_lt h _).1 s2
theorem rec_gk {i : Nat} (i0 : 0 < i) (i1 : i < (crv k).N) {b : List Nat} (lb : b.length = 32) (hb : ∀ x ∈ b, x < 256) {s : SgD} {o : Nat} (ho : s.odd = (o : Int)) (ho3 : o ≤ 3) (hs : formB (crv k) s = true) (R0 : 0 < s.R) (hR : s.R < (crv k).N) (hS : s.S < (crv k).N)
    (hx : (gk k i).x = s.R + if 2 ≤ o then (crv k).N else 0) (hp : (gk k i).y % 2 = o % 2) :
    FnV Tryd.prog G0 33 [(crv k).v, .agg (bts b), s.v] (.tup [if recI k (modN (fromV b 32) (crv k).N) s.R s.S i % (crv k).N = 0 then nilP.v else (gk k (recI k (modN (fromV b 32) (crv k).N) s.R s.S i)).v, nI .i64 (if recI k (modN (fromV b 32) (crv k).N) s.R s.S i % (crv k).N = 0 then 10 else 0)]) := by
  have g := good_crv h
  have n1 := cN1 h
  have hN := g.N
  have lt : ∀ a b, mulM (crv k).N a b < T256 := fun a b => Nat.lt_trans (mulM_lt (by omega)) hN
  have ls : ∀ a b, subM (crv k).N a b < T256 := fun a b => Nat.lt_trans (subM_lt (by omega)) hN
  have s2 := sum2_gk h (lt s.S (invM (crv k).N s.R)) (ls 0 (mulM (crv k).N (modN (fromV b 32) (crv k).N) (invM (crv k).N s.R))) i 1
  rw [gk_base h, Nat.mul_one] at s2
  have lf := lift_gk h i0 i1
  rw [hp] at lf
  by_cases e : recI k (modN (fromV b 32) (crv k).N) s.R s.S i % (crv k).N = 0
  · rw [if_pos e, if_pos e]
    exact recover_far g lb hb ho hs hR hS (cN_gcd h R0 hR) hx (gk_xP h i) lf s2 (by rw [gk_far]; exact decide_eq_true e)
  · rw [if_neg e, if_neg e]
    exact recover_of g lb hb ho ho3 hs hR hS (cN_gcd h R0 hR) hx (gk_xP h i) lf s2 (by rw [gk_far]; exact decide_eq_false e)
/-- Else it is refused, or there is such a point. -/
theorem rec_any {b : List Nat} {s : SgD} {o : Nat} (ho : s.odd = (o : Int)) (hR : s.R < (crv k).N) (hS : s.S < (crv k).N) : FnV Tryd.prog G0 33 [(crv k).v, .agg (bts b), s.v] (.tup [nilP.v, nI .i64 10]) ∨ (formB (crv k) s = true ∧ ∃ i, 0 < i ∧ i < (crv k).N ∧ (gk k i).x = s.R + (if 2 ≤ o then (crv k).N else 0) ∧ (gk k i).y % 2 = o % 2) := by
  have g := good_crv h
  have hN := g.N
  have hP := g.P
  obtain ⟨_, h2⟩ := crv_2N h
  cases hf : formB (crv k) s
  · exact .inl (rec_unformed g (by omega) (by omega) hf)
  · rcases Nat.lt_or_ge (s.R + if 2 ≤ o then (crv k).N else 0) (crv k).P with hx | hx
    · by_cases hr : ∃ y, y < (crv k).P ∧ y % 2 = o % 2 ∧ onB (crv k) ⟨s.R + if 2 ≤ o then (crv k).N else 0, y, false⟩ = true
      · obtain ⟨y, hy, hp, on⟩ := hr
        obtain ⟨i, i0, i1, e⟩ := crv_root h hx hy on
        exact .inr ⟨rfl, i, i0, i1, by rw [e], by rw [e]; exact hp⟩
      · refine .inl (rec_none g ho hf hR hS rfl hx (lift_none g _ hx fun y hy hp => ?_))
        cases on : onB (crv k) ⟨s.R + if 2 ≤ o then (crv k).N else 0, y, false⟩
        · rfl
        · refine absurd ⟨y, hy, ?_, on⟩ hr
          have h1 := decide_eq_decide.1 hp
          omega
    · exact .inl (rec_big g ho hf hR hS (by obtain ⟨_, _, _, b4, _⟩ := crv_bounds h; have : 3000 < T256 := (by decide); omega) rfl hx)
end
/-- A signature of z by d, whose nonce, or its opposite, was i. -/
structure SigOf (k z d : Nat) (s : SgD) (i o : Nat) : Prop where
  i0 : 0 < i
  i1 : i < (crv k).N
  R : s.R = (gk k i).x % (crv k).N
  R0 : 0 < s.R
  S0 : 0 < s.S
  S1 : s.S ≤ (crv k).N / 2
  odd : s.odd = (o : Int)
  o : o = oddN (crv k) (gk k i)
  eq : cong (crv k).N ((s.S : Int) * i) ((z : Int) + s.R * d)
section
variable {k : Nat} (h : k < 8) {z d i o : Nat} {s : SgD} (g : SigOf k z d s i o)
include h g
theorem SigOf.Rl : s.R < (crv k).N := by rw [g.R]; exact Nat.mod_lt _ (by have := cN1 h; omega)
theorem SigOf.Sl : s.S < (crv k).N := by have := g.S1; have := gk_half h; omega
theorem SigOf.o3 : o ≤ 3 := by rw [g.o]; unfold oddN; split <;> omega
theorem SigOf.form : formB (crv k) s = true := form_true (by have := g.R0; omega) (g.Rl h) (by have := g.S0; omega) (g.Sl h) g.S1 (by rw [g.odd]; omega) (by rw [g.odd]; have := g.o3 h; omega)
theorem SigOf.x : (gk k i).x = s.R + if 2 ≤ o then (crv k).N else 0 := by
  have h1 := g.R
  have h2 := g.o
  have h3 := gk_xP h i
  obtain ⟨h4, _⟩ := crv_2N h
  unfold oddN at h2
  by_cases e : (crv k).N ≤ (gk k i).x
  · rw [if_pos e] at h2
    rw [if_pos (by omega), h1, show (gk k i).x = ((gk k i).x - (crv k).N) + (crv k).N by omega, Nat.add_mod_right, Nat.mod_eq_of_lt (by omega)]
  · rw [if_neg e] at h2
    rw [if_neg (by omega), h1, Nat.mod_eq_of_lt (by omega)]
    omega
theorem SigOf.par : (gk k i).y % 2 = o % 2 := by
  have h2 := g.o
  unfold oddN at h2
  split at h2 <;> omega
/-- What is recovered by a sum of z2. -/
theorem SigOf.recJ (z2 : Nat) : cong (crv k).N ((s.R : Int) * (recI k z2 s.R s.S i : Nat)) ((s.R : Int) * d + z - z2) := by
  have a := recI_eq h (z := z2) (S := s.S) i g.R0 (g.Rl h)
  refine cong_trans a ?_
  have b := cong_plus g.eq (cong_rfl _ (-(z2 : Int)))
  rw [show (s.S : Int) * i + -(z2 : Int) = (s.S : Int) * i - z2 from by omega, show (z : Int) + s.R * d + -(z2 : Int) = (s.R : Int) * d + z - z2 from by omega] at b
  exact b
theorem SigOf.rec_eq : cong (crv k).N (recI k z s.R s.S i : Nat) (d : Int) := by
  have a := g.recJ h z
  rw [show (s.R : Int) * d + z - z = s.R * d from by omega] at a
  exact cN_cancel h g.R0 (g.Rl h) a
theorem SigOf.chk_eq : cong (crv k).N (chkI k z s.R s.S d : Nat) (i : Int) :=
  cN_cancel h g.S0 (g.Sl h) (cong_trans (chkI_eq h d g.S0 (g.Sl h)) (cong_symm g.eq))
end
end Go.Proofs.YtidkdlaihmpjfaaDoor
namespace Go.Proofs.YtidkdlaihmpjfaaDoor
set_option linter.unusedVariables false
set_option linter.unusedSimpArgs false
set_option linter.unusedSectionVars false
open Go.ChangeShapes Go.WideShapes Go.ChangeAt Go.RowKit Go.Joins
set_option maxRecDepth 10000
theorem bsecret_fn {k : Nat} (h : k < 8) (n : Int) : FnV Tryd.prog G0 28 [(crv k).v, nI .i64 n] (uV (1 + (n % ((crv k).N - 1 : Int)).toNat)) := by
  obtain ⟨b1, b2, b3, b4, _⟩ := crv_bounds h
  obtain ⟨l1, l2⟩ := crv_B64 h
  have tT : B64 < T256 := by decide
  have pk := picked_fn n ((crv k).N - 1 : Int) (by omega) (by omega)
  obtain ⟨j, hj, lj⟩ : ∃ j : Nat, n % ((crv k).N - 1 : Int) = (j : Int) ∧ j < (crv k).N - 1 := ⟨(n % ((crv k).N - 1 : Int)).toNat, by have := Int.emod_nonneg n (show ((crv k).N - 1 : Int) ≠ 0 by omega); omega, by have := Int.emod_nonneg n (show ((crv k).N - 1 : Int) ≠ 0 by omega); have := Int.emod_lt_of_pos n (show 0 < ((crv k).N - 1 : Int) by omega); omega⟩
  rw [hj] at pk ⊢
  rw [show ((j : Int)).toNat = j from rfl, uV_w4 (n := 1 + j) (by omega)]
  have w1 : wS .i64 ((crv k).N : Int) = ((crv k).N : Int) := ws_i64 (by omega) (by omega)
  have w2 : wS .i64 (((crv k).N : Int) - 1) = ((crv k).N : Int) - 1 := ws_i64 (by omega) (by omega)
  have w3 : wS .u64 (j : Int) = (j : Int) := ws_u64n (by omega) (by omega)
  have w4 : wS .u64 (1 + (j : Int)) = ((1 + j : Nat) : Int) := by rw [ws_u64n (by omega) (by omega)]; omega
  unfold CvD.v CvD.cells at *
  refine gen_ex (crv k) fun c ec => ?_
  rw [← ec] at pk l1 w1 w2 ⊢
  clear ec hj
  obtain ⟨P, A, B, N, X, Y⟩ := c
  dsimp only at *
  rw [uC_lit (n := N) l1]
  refine fn_of_vwp Γok Tryd.func28 (by kernel_rfl) rfl (by simp [Tryd.ntmps28]) (wpv_ok Γok (by kernel_rfl) _ _ _ ?_); conv => whnf
  rw [w1, w2]
  conv => whnf
  try (refine ⟨by kernel_rfl, ?_⟩; conv => whnf)
  refine ⟨_, ret_of_fn G0ok (pk) (by first | rfl | simp only [noHs, noH, nI, bI, Bool.and_self, Bool.and_true, Bool.true_and, ]) (by first | rfl | simp only [noHs, noH, nI, bI, Bool.and_self, Bool.and_true, Bool.true_and, ]), ?_⟩; (conv => whnf); (try (refine ⟨by kernel_rfl, ?_⟩; conv => whnf))
  rw [w3, w4]
  exact ⟨_, rfl, rfl⟩
theorem law_curve (n : Int) : ∃ k, k < 8 ∧ FnV Tryd.prog G0 27 [nI .i64 n] (crv k).v := ⟨(n % 8).toNat, by omega, curve_fn n⟩
end Go.Proofs.YtidkdlaihmpjfaaDoor
namespace Go.Proofs.YtidkdlaihmpjfaaDoor
set_option linter.unusedVariables false
set_option linter.unusedSimpArgs false
set_option linter.unusedSectionVars false
open Go.ChangeShapes Go.WideShapes Go.ChangeAt Go.RowKit Go.Joins
set_option maxRecDepth 10000
theorem copy_cells {cs : List VV} {off m : Nat} {l : List UInt8} {z L : List Nat} (h1 : cs = bts z) (h2 : off = 0) (h3 : L = (l.map UInt8.toNat).take m ++ z.drop ((l.map UInt8.toNat).take m).length) :
    splice cs off (List.take m (List.map byV l)) = bts L := by
  subst h1 h2 h3
  have e : List.map byV l = bts (l.map UInt8.toNat) := by simp [bts, byV, nI, Function.comp_def]
  rw [e]
  unfold splice bts
  simp [List.map_take, List.map_drop]
theorem u8_ex (x : Int) : ∃ a : Nat, wS .u8 x = (a : Int) ∧ a < 256 := by
  rw [ws_u8]
  exact ⟨(x % 256).toNat, by omega, by omega⟩
theorem word_ex (k a b : Int) (s : ByteArray) : ∃ c : List Nat, c.length = 32 ∧ (∀ x ∈ c, x < 256) ∧ FnV Tryd.prog G0 46 [.agg [nI .i64 k, nI .i64 a, nI .i64 b, .v (.string s)]] (.agg (bts c)) := by
  obtain ⟨x, hx, hx2⟩ := u8_ex a
  obtain ⟨y, hy, hy2⟩ := u8_ex b
  obtain ⟨L, hL⟩ : ∃ L, L = (s.data.toList.map UInt8.toNat).take (s.size.min 32) ++ (List.replicate 32 0).drop ((s.data.toList.map UInt8.toNat).take (s.size.min 32)).length := ⟨_, rfl⟩
  have hlen : ((s.data.toList.map UInt8.toNat).take (s.size.min 32)).length ≤ 32 := by
    rw [List.length_take]
    exact Nat.le_trans (Nat.min_le_left _ _) (Nat.min_le_right _ _)
  have hL1 : L.length = 32 := by
    rw [hL, List.length_append, List.length_drop, List.length_replicate]
    omega
  have hL2 : ∀ x ∈ L, x < 256 := by
    intro x hx
    rw [hL] at hx
    rcases List.mem_append.1 hx with h | h
    · obtain ⟨b, _, rfl⟩ := List.mem_map.1 (List.mem_of_mem_take h)
      exact b.toNat_lt
    · have := List.eq_of_mem_replicate (List.mem_of_mem_drop h)
      omega
  refine ⟨(L.set 30 x).set 31 y, by simp [hL1], ?_, ?_⟩
  · intro z hz
    rcases List.mem_or_eq_of_mem_set hz with h | h
    · rcases List.mem_or_eq_of_mem_set h with h | h
      · exact hL2 z h
      · omega
    · omega
  refine fn_of_vwp Γok Tryd.func46 (by kernel_rfl) rfl (by simp [Tryd.ntmps46]) (wpv_ok Γok (by kernel_rfl) _ _ _ ?_); conv => whnf
  refine ⟨by kernel_rfl, ?_⟩
  rw [copy_cells (z := List.replicate 32 0) (L := L) (by rfl) (by rfl) (by exact hL)]
  conv => whnf
  rw [hx, hy]
  refine onlyIf_intro (by simp [bts_length, hL1]) ?_
  conv => whnf
  rw [splice_bts (i := 30) (by rfl) (by omega)]
  conv => whnf
  refine onlyIf_intro (by simp [bts_length, hL1]) ?_
  conv => whnf
  rw [splice_bts (i := 31) (by rfl) (by simp [hL1])]
  conv => whnf
  refine ⟨by kernel_rfl, ?_⟩
  conv => whnf
  refine bindP_intro (load_agg rfl rfl (by simp [bts_length, hL1])) ?_
  conv => whnf
  refine onlyIf_intro (by simp [bts_length, hL1]) ?_
  conv => whnf
  refine ⟨_, vres_one rfl (vres_cell rfl rfl (load_agg rfl rfl (by simp [bts_length, hL1]))), ?_⟩
  exact deepV_noH _ _ (by simp [noH, bts_noHs])
noncomputable def wordN (q : RawD) : List Nat := Classical.choose (word_ex q.k q.a q.b q.s)
theorem wordN_length (q : RawD) : (wordN q).length = 32 := (Classical.choose_spec (word_ex q.k q.a q.b q.s)).1
theorem wordN_lt (q : RawD) : ∀ x ∈ wordN q, x < 256 := (Classical.choose_spec (word_ex q.k q.a q.b q.s)).2.1
theorem word_fn (q : RawD) : FnV Tryd.prog G0 46 [q.v] (.agg (bts (wordN q))) := (Classical.choose_spec (word_ex q.k q.a q.b q.s)).2.2
end Go.Proofs.YtidkdlaihmpjfaaDoor
namespace Go.Proofs.YtidkdlaihmpjfaaDoor
set_option linter.unusedVariables false
set_option linter.unusedSimpArgs false
set_option linter.unusedSectionVars false
open Go.ChangeShapes Go.WideShapes Go.ChangeAt Go.RowKit Go.Joins
set_option maxRecDepth 10000
noncomputable def rsI (a b : Int) (j x : Nat) : Int := bitS .xor .u8 x (wS .u8 (wS .u8 (a.fdiv (2 ^ min ((j % 7 * 8 : Nat) : Int).toNat IntKind.i64.bits)) + wS .u8 (wS .i64 ((j : Int) * b))))
theorem rs_ex {a b : Int} {j x : Nat} (hx : x < 256) : ∃ c : Nat, rsI a b j x = (c : Int) ∧ c < 256 := by
  unfold rsI
  obtain ⟨y, hy, hy2⟩ := u8_ex (wS .u8 (a.fdiv (2 ^ min ((j % 7 * 8 : Nat) : Int).toNat IntKind.i64.bits)) + wS .u8 (wS .i64 ((j : Int) * b)))
  rw [hy, bitS_xor (k := .u8) hx hy2, ← wS_eq, ws_u8]
  have h : x ^^^ y < 2 ^ 8 := Nat.xor_lt_two_pow hx hy2
  exact ⟨x ^^^ y, by omega, h⟩
noncomputable def rsTo (L : List Nat) (a b : Int) : Nat → List Nat
  | 0 => L
  | i + 1 => (rsTo L a b i).set i (rsI a b i ((rsTo L a b i).getD i 0)).toNat
theorem rsTo_len (L : List Nat) (a b : Int) : ∀ i, (rsTo L a b i).length = L.length
  | 0 => rfl
  | i + 1 => by show (List.set _ _ _).length = _; rw [List.length_set]; exact rsTo_len L a b i
theorem rsTo_lt {L : List Nat} (a b : Int) (h : ∀ x ∈ L, x < 256) : ∀ i, i ≤ L.length → ∀ x ∈ rsTo L a b i, x < 256
  | 0, _ => h
  | i + 1, hi => by
    intro x hx
    have ih := rsTo_lt a b h i (by omega)
    rcases List.mem_or_eq_of_mem_set (show x ∈ (rsTo L a b i).set i _ from hx) with g | g
    · exact ih x g
    · obtain ⟨c, e1, e2⟩ := rs_ex (a := a) (b := b) (j := i) (getD_lt (by decide) ih i)
      rw [g, e1]
      exact e2
noncomputable def rsumN (q : RawD) : List Nat := hid (rsTo (wordN q) q.a q.b 32)
theorem rsumN_length (q : RawD) : (rsumN q).length = 32 := by unfold rsumN; rw [hid_eq, rsTo_len, wordN_length]
theorem rsumN_lt (q : RawD) : ∀ x ∈ rsumN q, x < 256 := by
  unfold rsumN
  rw [hid_eq]
  exact rsTo_lt q.a q.b (wordN_lt q) 32 (by rw [wordN_length]; decide)
theorem rsum_fn (q : RawD) : FnV Tryd.prog G0 30 [q.v] (.agg (bts (rsumN q))) := by
  have wf := word_fn q
  have wl := wordN_length q
  have wb := wordN_lt q
  unfold rsumN
  refine gen_ex (wordN q) fun L eL => ?_
  rw [← eL] at wf wl wb ⊢
  have ll := rsTo_len L q.a q.b
  have lt := fun i (hi : i ≤ 32) => rsTo_lt q.a q.b wb i (by omega)
  have hs : ∀ j, rsTo L q.a q.b (j + 1) = (rsTo L q.a q.b j).set j (rsI q.a q.b j ((rsTo L q.a q.b j).getD j 0)).toNat := fun _ => rfl
  have h0 : rsTo L q.a q.b 0 = L := rfl
  rw [hid_eq]
  refine gen_ex (rsTo L q.a q.b) fun F eF => ?_
  rw [← eF] at ll lt hs h0 ⊢
  clear eF wb eL
  unfold RawD.v RawD.cells at *
  have lB : (bts L).length = 32 := by rw [bts_length, wl]
  refine fn_of_vwp Γok Tryd.func30 (by kernel_rfl) rfl (by simp [Tryd.ntmps30]) (wpv_ok Γok (by kernel_rfl) _ _ _ ?_); conv => whnf
  refine ⟨_, ret_of_fn G0ok (wf) (by first | rfl | simp only [noHs, noH, nI, bI, Bool.and_self, Bool.and_true, Bool.true_and, bts_noHs]) (by first | rfl | simp only [noHs, noH, nI, bI, Bool.and_self, Bool.and_true, Bool.true_and, bts_noHs]), ?_⟩; (conv => whnf); (try (refine ⟨by kernel_rfl, ?_⟩; conv => whnf))
  refine onlyIf_intro (by rw [lB]; rfl) ?_
  rw [splice_all (by rw [lB]; rfl)]
  conv => whnf
  try (refine ⟨by kernel_rfl, ?_⟩; conv => whnf)
  refine vloop_invK G0ok [(0, some 0), (1, some 1), (2, some 2)] 3 (X := Nat) (fun j => [(7, nI .i64 j), (3, .ptr 2 0), (2, .ptr 1 0), (1, .ptr 0 0)]) (fun j => [(0, some [nI .i64 q.k, nI .i64 q.a, nI .i64 q.b, .v (.string q.s)]), (1, some (List.replicate 32 (nI .u8 0))), (2, some (bts (F j)))]) (fun j => j ≤ 32) (fun j => 32 - j) 0 rfl ⟨⟨_, rfl, conv_nI (rfl)⟩, ⟨_, rfl, .ptr rfl⟩, ⟨_, rfl, .ptr rfl⟩, ⟨_, rfl, .ptr rfl⟩, trivial⟩ ⟨.inr ⟨_, _, rfl, rfl, .same rfl⟩, .inr ⟨_, _, rfl, rfl, .same rfl⟩, .inr ⟨_, _, rfl, rfl, convs_eq (by rw [h0]) (bts_noHs _)⟩, trivial⟩ (Nat.zero_le _) ?_
  intro j hj
  dsimp only at hj ⊢
  have lj : (F j).length = 32 := (ll j).trans wl
  have mj : (bts (F j)).length = 32 := by rw [bts_length, lj]
  refine wpv_ok Γok (by kernel_rfl) _ _ _ ?_; conv => whnf
  refine bool_cases (fun hc => ?_) (fun hc => ?_)
  · have hc := of_decide_eq_true hc
    have xj := getD_lt (by decide) (lt j hj) j
    obtain ⟨c, e1, e2⟩ := rs_ex (a := q.a) (b := q.b) (j := j) xj
    have hs' := hs j
    rw [e1] at hs'
    unfold rsI at e1
    conv => whnf
    try (refine ⟨by kernel_rfl, ?_⟩; conv => whnf)
    refine bindP_intro (if_pos (inB_ok (by omega) (by omega))) ?_; conv => whnf
    refine bindP_intro (bts_ix (i := j) (by dsimp only; omega) (by omega)) ?_
    conv => whnf
    try (refine ⟨by kernel_rfl, ?_⟩; conv => whnf)
    rw [Int.tmod_eq_emod_of_nonneg (by omega), ws_i64 (x := (j : Int) % 7 * 8) (by omega) (by omega), show (j : Int) % 7 * 8 = ((j % 7 * 8 : Nat) : Int) from by omega]
    conv => whnf
    try (refine ⟨by kernel_rfl, ?_⟩; conv => whnf)
    rw [e1]
    refine bindP_intro (if_pos (inB_ok (by omega) (by omega))) ?_; conv => whnf
    refine onlyIf_intro ?_ ?_
    · simp [mj]; omega
    conv => whnf
    try (refine ⟨by kernel_rfl, ?_⟩; conv => whnf)
    rw [splice_bts (i := j) (by dsimp only; omega) (by omega)]
    conv => whnf
    try (refine ⟨by kernel_rfl, ?_⟩; conv => whnf)
    refine next_round (y := j) G0ok (j + 1) [(0, some 0), (1, some 1), (2, some 2)] rfl ⟨⟨_, rfl, conv_nI (ws_i64 (by omega) (by omega))⟩, ⟨_, rfl, .ptr rfl⟩, ⟨_, rfl, .ptr rfl⟩, ⟨_, rfl, .ptr rfl⟩, trivial⟩ ⟨.inr ⟨_, _, rfl, rfl, .same rfl⟩, .inr ⟨_, _, rfl, rfl, .same rfl⟩, .inr ⟨_, _, rfl, rfl, convs_eq (by rw [hs']; rfl) (bts_noHs _)⟩, trivial⟩ (by omega) (by omega)
  · have hc := of_decide_eq_false hc
    have e32 : j = 32 := by omega
    conv => whnf
    try (refine ⟨by kernel_rfl, ?_⟩; conv => whnf)
    refine bindP_intro (load_agg rfl rfl mj) ?_
    conv => whnf
    try (refine ⟨by kernel_rfl, ?_⟩; conv => whnf)
    refine onlyIf_intro (by rw [mj]; rfl) ?_
    rw [splice_all (by rw [mj]; rfl)]
    conv => whnf
    try (refine ⟨by kernel_rfl, ?_⟩; conv => whnf)
    rw [← e32]
    exact ⟨_, vres_one rfl (vres_cell rfl rfl (load_agg rfl rfl mj)), deepV_noH _ _ (bts_noHs _)⟩
end Go.Proofs.YtidkdlaihmpjfaaDoor
