/- curve.fault, add, Add, On by the engine. -/
import Derived.Test.YtidkdlaihmpjfaaDoorVOn
namespace Go.Proofs.YtidkdlaihmpjfaaDoor
set_option linter.unusedVariables false
set_option linter.unusedSimpArgs false
set_option linter.unusedSectionVars false
open Go.ChangeShapes Go.WideShapes Go.ChangeAt Go.RowKit Go.Joins
set_option maxRecDepth 10000
/-- A point of a curve. -/
structure OnP (c : CvD) (p : PtD) : Prop where
  lt : p.lt c.P
  on : onB c p = true
theorem on_ok {c : CvD} (g : Good c) {p : PtD} (h : OnP c p) : FnV Tryd.prog G0 75 [c.v, p.v] (bI true) := by
  have := on_fn (c := c) (p := p) g.P g.A g.B h.lt
  rwa [h.on] at this
theorem cfault1_fn {c : CvD} (g : Good c) {p : PtD} (h : OnP c p) : FnV Tryd.prog G0 76 [c.v, .ds false 1 p.cells] (nI .i64 0) := by
  have k := chk_ok g
  have o := on_ok g h
  unfold CvD.v CvD.cells PtD.v PtD.cells at *
  refine fn_of_vwp Γok Tryd.func76 (by kernel_rfl) rfl (by simp [Tryd.ntmps76]) (wpv_ok Γok (by kernel_rfl) _ _ _ ?_); conv => whnf
  refine ⟨_, ret_of_fn G0ok (k) (by first | rfl | simp only [noHs, noH, nI, bI, Bool.and_self, Bool.and_true, Bool.true_and, ]) (by first | rfl | simp only [noHs, noH, nI, bI, Bool.and_self, Bool.and_true, Bool.true_and, ]), ?_⟩; (conv => whnf); (try (refine ⟨by kernel_rfl, ?_⟩; conv => whnf))
  refine vloop_unroll ?_
  refine wpv_ok Γok (by kernel_rfl) _ _ _ ?_; conv => whnf
  conv => whnf
  try (refine ⟨by kernel_rfl, ?_⟩; conv => whnf)
  refine ⟨_, ret_of_fn G0ok (o) (by first | rfl | simp only [noHs, noH, nI, bI, Bool.and_self, Bool.and_true, Bool.true_and, ]) (by first | rfl | simp only [noHs, noH, nI, bI, Bool.and_self, Bool.and_true, Bool.true_and, ]), ?_⟩; (conv => whnf); (try (refine ⟨by kernel_rfl, ?_⟩; conv => whnf))
  rw [ws_i64 (by decide) (by decide)]
  conv => whnf
  try (refine ⟨by kernel_rfl, ?_⟩; conv => whnf)
  refine vloop_unroll ?_
  refine wpv_ok Γok (by kernel_rfl) _ _ _ ?_; conv => whnf
  conv => whnf
  try (refine ⟨by kernel_rfl, ?_⟩; conv => whnf)
  exact ⟨_, rfl, rfl⟩
theorem cfault2_fn {c : CvD} (g : Good c) {p q : PtD} (h : OnP c p) (h2 : OnP c q) : FnV Tryd.prog G0 76 [c.v, .ds false 2 (p.cells ++ q.cells)] (nI .i64 0) := by
  have k := chk_ok g
  have o := on_ok g h
  have o2 := on_ok g h2
  unfold CvD.v CvD.cells PtD.v PtD.cells at *
  refine fn_of_vwp Γok Tryd.func76 (by kernel_rfl) rfl (by simp [Tryd.ntmps76]) (wpv_ok Γok (by kernel_rfl) _ _ _ ?_); conv => whnf
  refine ⟨_, ret_of_fn G0ok (k) (by first | rfl | simp only [noHs, noH, nI, bI, Bool.and_self, Bool.and_true, Bool.true_and, ]) (by first | rfl | simp only [noHs, noH, nI, bI, Bool.and_self, Bool.and_true, Bool.true_and, ]), ?_⟩; (conv => whnf); (try (refine ⟨by kernel_rfl, ?_⟩; conv => whnf))
  refine vloop_unroll ?_
  refine wpv_ok Γok (by kernel_rfl) _ _ _ ?_; conv => whnf
  conv => whnf
  try (refine ⟨by kernel_rfl, ?_⟩; conv => whnf)
  refine ⟨_, ret_of_fn G0ok (o) (by first | rfl | simp only [noHs, noH, nI, bI, Bool.and_self, Bool.and_true, Bool.true_and, ]) (by first | rfl | simp only [noHs, noH, nI, bI, Bool.and_self, Bool.and_true, Bool.true_and, ]), ?_⟩; (conv => whnf); (try (refine ⟨by kernel_rfl, ?_⟩; conv => whnf))
  rw [ws_i64 (by decide) (by decide)]
  conv => whnf
  try (refine ⟨by kernel_rfl, ?_⟩; conv => whnf)
  refine vloop_unroll ?_
  refine wpv_ok Γok (by kernel_rfl) _ _ _ ?_; conv => whnf
  conv => whnf
  try (refine ⟨by kernel_rfl, ?_⟩; conv => whnf)
  refine ⟨_, ret_of_fn G0ok (o2) (by first | rfl | simp only [noHs, noH, nI, bI, Bool.and_self, Bool.and_true, Bool.true_and, ]) (by first | rfl | simp only [noHs, noH, nI, bI, Bool.and_self, Bool.and_true, Bool.true_and, ]), ?_⟩; (conv => whnf); (try (refine ⟨by kernel_rfl, ?_⟩; conv => whnf))
  rw [ws_i64 (by decide) (by decide)]
  conv => whnf
  try (refine ⟨by kernel_rfl, ?_⟩; conv => whnf)
  refine vloop_unroll ?_
  refine wpv_ok Γok (by kernel_rfl) _ _ _ ?_; conv => whnf
  conv => whnf
  try (refine ⟨by kernel_rfl, ?_⟩; conv => whnf)
  exact ⟨_, rfl, rfl⟩
theorem con_ok {c : CvD} (g : Good c) {p : PtD} (h : OnP c p) : FnV Tryd.prog G0 66 [c.v, p.v] (nI .i64 0) := by
  have k := chk_ok g
  have o := on_ok g h
  unfold CvD.v CvD.cells PtD.v PtD.cells at *
  refine fn_of_vwp Γok Tryd.func66 (by kernel_rfl) rfl (by simp [Tryd.ntmps66]) (wpv_ok Γok (by kernel_rfl) _ _ _ ?_); conv => whnf
  refine ⟨_, ret_of_fn G0ok (k) (by first | rfl | simp only [noHs, noH, nI, bI, Bool.and_self, Bool.and_true, Bool.true_and, ]) (by first | rfl | simp only [noHs, noH, nI, bI, Bool.and_self, Bool.and_true, Bool.true_and, ]), ?_⟩; (conv => whnf); (try (refine ⟨by kernel_rfl, ?_⟩; conv => whnf))
  refine ⟨_, ret_of_fn G0ok (o) (by first | rfl | simp only [noHs, noH, nI, bI, Bool.and_self, Bool.and_true, Bool.true_and, ]) (by first | rfl | simp only [noHs, noH, nI, bI, Bool.and_self, Bool.and_true, Bool.true_and, ]), ?_⟩; (conv => whnf); (try (refine ⟨by kernel_rfl, ?_⟩; conv => whnf))
  exact ⟨_, rfl, rfl⟩
theorem con_bad {c : CvD} (g : Good c) {p : PtD} (hp : p.lt c.P) (h : onB c p = false) : FnV Tryd.prog G0 66 [c.v, p.v] (nI .i64 16) := by
  have k := chk_ok g
  have o := on_fn (c := c) (p := p) g.P g.A g.B hp
  rw [h] at o
  unfold CvD.v CvD.cells PtD.v PtD.cells at *
  refine fn_of_vwp Γok Tryd.func66 (by kernel_rfl) rfl (by simp [Tryd.ntmps66]) (wpv_ok Γok (by kernel_rfl) _ _ _ ?_); conv => whnf
  refine ⟨_, ret_of_fn G0ok (k) (by first | rfl | simp only [noHs, noH, nI, bI, Bool.and_self, Bool.and_true, Bool.true_and, ]) (by first | rfl | simp only [noHs, noH, nI, bI, Bool.and_self, Bool.and_true, Bool.true_and, ]), ?_⟩; (conv => whnf); (try (refine ⟨by kernel_rfl, ?_⟩; conv => whnf))
  refine ⟨_, ret_of_fn G0ok (o) (by first | rfl | simp only [noHs, noH, nI, bI, Bool.and_self, Bool.and_true, Bool.true_and, ]) (by first | rfl | simp only [noHs, noH, nI, bI, Bool.and_self, Bool.and_true, Bool.true_and, ]), ?_⟩; (conv => whnf); (try (refine ⟨by kernel_rfl, ?_⟩; conv => whnf))
  exact ⟨_, rfl, rfl⟩
theorem padd_fn {c : CvD} (g : Good c) {p q : PtD} (hp : p.lt c.P) (hq : q.lt c.P) : FnV Tryd.prog G0 77 [c.v, p.v, q.v] (.tup [(padd c p q).1.v, bI (padd c p q).2]) := by
  obtain ⟨px, py⟩ := hp
  obtain ⟨qx, qy⟩ := hq
  have hP := g.P
  have hA := g.A
  have h0 : 0 < c.P := by omega
  clear g
  obtain ⟨P, A, B, N, X, Y⟩ := c
  obtain ⟨x1, y1, f1⟩ := p
  obtain ⟨x2, y2, f2⟩ := q
  dsimp only at *
  have r0 := ringOf_fnH ⟨P, A, B, N, X, Y⟩
  have up1 := rsub_fnH false qy py hP
  have dn1 := rsub_fnH false qx px hP
  have ss := radd_fnH false py qy hP
  have ez := eq_zero (a := addM P y1 y2) (Nat.lt_trans (addM_lt h0) hP)
  have ex := eq_uC (a := x1) (b := x2) (by omega) (by omega)
  have ey := ne_uC (a := y1) (b := y2) (by omega) (by omega)
  have zx : uC 0 = words [0, 0, 0, 0] := uC_lit (n := 0) (by decide)
  have lu := subM_lt (m := P) (a := y2) (b := y1) h0
  have ld := subM_lt (m := P) (a := x2) (b := x1) h0
  have tail : ∀ (u d : Nat), u < P → d < P → True := fun _ _ _ _ => trivial
  unfold padd
  unfold CvD.v CvD.cells PtD.v PtD.cells ringV HB at *
  dsimp only at *
  cases f1
  · rw [if_neg Bool.false_ne_true]
    cases f2
    · rw [if_neg Bool.false_ne_true]
      refine fn_of_vwp Γok Tryd.func77 (by kernel_rfl) rfl (by simp [Tryd.ntmps77]) (wpv_ok Γok (by kernel_rfl) _ _ _ ?_); conv => whnf
      refine ⟨_, ret_fnH G0ok (r0) [] (res' := .agg (uC P ++ [.ptr 4 0])) rfl rfl rfl rfl rfl trivial (outHB _) rfl rfl (upd := [(4, some [bI false])]) (by rfl), ?_⟩; (conv => whnf); (try (refine ⟨by kernel_rfl, ?_⟩; conv => whnf))
      refine ⟨_, ret_fnH G0ok (up1) [4] (res' := uV (subM P y2 y1)) rfl rfl rfl rfl rfl ⟨trivial, _, rfl, rfl, rfl⟩ (outHB _) rfl rfl (upd := [(4, some [bI false])]) (by rfl), ?_⟩; (conv => whnf); (try (refine ⟨by kernel_rfl, ?_⟩; conv => whnf))
      refine ⟨_, ret_fnH G0ok (dn1) [4] (res' := uV (subM P x2 x1)) rfl rfl rfl rfl rfl ⟨trivial, _, rfl, rfl, rfl⟩ (outHB _) rfl rfl (upd := [(4, some [bI false])]) (by rfl), ?_⟩; (conv => whnf); (try (refine ⟨by kernel_rfl, ?_⟩; conv => whnf))
      refine ⟨_, ex, ?_⟩
      by_cases hx : x1 = x2
      · rw [decide_eq_true hx, if_pos hx]
        conv => whnf
        try (refine ⟨by kernel_rfl, ?_⟩; conv => whnf)
        refine ⟨_, ret_fnH G0ok (ss) [4] (res' := uV (addM P y1 y2)) rfl rfl rfl rfl rfl ⟨trivial, _, rfl, rfl, rfl⟩ (outHB _) rfl rfl (upd := [(4, some [bI false])]) (by rfl), ?_⟩; (conv => whnf); (try (refine ⟨by kernel_rfl, ?_⟩; conv => whnf))
        refine ⟨_, ez, ?_⟩
        by_cases hz : addM P y1 y2 = 0
        · rw [decide_eq_true hz, if_pos hz]
          conv => whnf
          try (refine ⟨by kernel_rfl, ?_⟩; conv => whnf)
          refine ⟨_, rfl, ?_⟩
          unfold farP
          rw [zx]
          rfl
        · rw [decide_eq_false hz, if_neg hz]
          conv => whnf
          try (refine ⟨by kernel_rfl, ?_⟩; conv => whnf)
          refine ⟨_, ey, ?_⟩
          by_cases hy : y1 = y2
          · rw [decide_eq_true hy, if_pos hy]
            conv => whnf
            try (refine ⟨by kernel_rfl, ?_⟩; conv => whnf)
            have l3 : modN 3 P < P := by rw [modN_def]; exact Nat.mod_lt _ h0
            have k3 := rsmall_fnH (n := 3) false (by decide) h0 hP
            have g1 := rmul_fnH false px px hP
            have g2 := rmul_fnH false l3 (mulM_lt (a := x1) (b := x1) h0) hP
            have g3 := radd_fnH false (mulM_lt (m := P) (a := modN 3 P) (b := mulM P x1 x1) h0) hA hP
            have g4 := radd_fnH false py py hP
            have lu2 := addM_lt (m := P) (a := mulM P (modN 3 P) (mulM P x1 x1)) (b := A) h0
            have ld2 := addM_lt (m := P) (a := y1) (b := y1) h0
            unfold ringV HB at *
            refine ⟨_, ret_fnH G0ok (k3) [4] (res' := uV (modN 3 P)) rfl rfl rfl rfl rfl ⟨trivial, _, rfl, rfl, rfl⟩ (outHB _) rfl rfl (upd := [(4, some [bI false])]) (by rfl), ?_⟩; (conv => whnf); (try (refine ⟨by kernel_rfl, ?_⟩; conv => whnf))
            refine ⟨_, ret_fnH G0ok (g1) [4] (res' := uV (mulM P x1 x1)) rfl rfl rfl rfl rfl ⟨trivial, _, rfl, rfl, rfl⟩ (outHB _) rfl rfl (upd := [(4, some [bI false])]) (by rfl), ?_⟩; (conv => whnf); (try (refine ⟨by kernel_rfl, ?_⟩; conv => whnf))
            refine ⟨_, ret_fnH G0ok (g2) [4] (res' := uV (mulM P (modN 3 P) (mulM P x1 x1))) rfl rfl rfl rfl rfl ⟨trivial, _, rfl, rfl, rfl⟩ (outHB _) rfl rfl (upd := [(4, some [bI false])]) (by rfl), ?_⟩; (conv => whnf); (try (refine ⟨by kernel_rfl, ?_⟩; conv => whnf))
            refine ⟨_, ret_fnH G0ok (g3) [4] (res' := uV (addM P (mulM P (modN 3 P) (mulM P x1 x1)) A)) rfl rfl rfl rfl rfl ⟨trivial, _, rfl, rfl, rfl⟩ (outHB _) rfl rfl (upd := [(4, some [bI false])]) (by rfl), ?_⟩; (conv => whnf); (try (refine ⟨by kernel_rfl, ?_⟩; conv => whnf))
            refine ⟨_, ret_fnH G0ok (g4) [4] (res' := uV (addM P y1 y1)) rfl rfl rfl rfl rfl ⟨trivial, _, rfl, rfl, rfl⟩ (outHB _) rfl rfl (upd := [(4, some [bI false])]) (by rfl), ?_⟩; (conv => whnf); (try (refine ⟨by kernel_rfl, ?_⟩; conv => whnf))
            by_cases hg : Nat.gcd (addM P y1 y1) P = 1
            · rw [if_pos hg]
              unfold chordP
              have lv := (invM_ok (ld2) hg).1
              have i1 := rinv_ok false (ld2) hP hg
              have ls := mulM_lt (m := P) (a := addM P (mulM P (modN 3 P) (mulM P x1 x1)) A) (b := invM P (addM P y1 y1)) h0
              have m1 := rmul_fnH false (lu2) lv hP
              have m2 := rmul_fnH false ls ls hP
              have s1 := rsub_fnH false (mulM_lt (a := mulM P (addM P (mulM P (modN 3 P) (mulM P x1 x1)) A) (invM P (addM P y1 y1))) (b := mulM P (addM P (mulM P (modN 3 P) (mulM P x1 x1)) A) (invM P (addM P y1 y1))) h0) px hP
              have s2 := rsub_fnH false (subM_lt (a := mulM P (mulM P (addM P (mulM P (modN 3 P) (mulM P x1 x1)) A) (invM P (addM P y1 y1))) (mulM P (addM P (mulM P (modN 3 P) (mulM P x1 x1)) A) (invM P (addM P y1 y1)))) (b := x1) h0) qx hP
              refine gen_ex (mulM P (addM P (mulM P (modN 3 P) (mulM P x1 x1)) A) (invM P (addM P y1 y1))) fun s es => ?_
              rw [← es] at ls m1 m2 s1 s2 ⊢
              clear es
              refine gen_ex (subM P (subM P (mulM P s s) x1) x2) fun x3 ex3 => ?_
              have lx : x3 < P := ex3 ▸ subM_lt h0
              rw [← ex3] at s2 ⊢
              clear ex3
              have s3 := rsub_fnH false px lx hP
              have m3 := rmul_fnH false ls (subM_lt (a := x1) (b := x3) h0) hP
              have s4 := rsub_fnH false (mulM_lt (a := s) (b := subM P x1 x3) h0) py hP
              unfold ringV HB at *
              refine ⟨_, ret_fnH G0ok (i1) [4] (res' := uV (invM P (addM P y1 y1))) rfl rfl rfl rfl rfl ⟨trivial, _, rfl, rfl, rfl⟩ (outHB _) rfl rfl (upd := [(4, some [bI false])]) (by rfl), ?_⟩; (conv => whnf); (try (refine ⟨by kernel_rfl, ?_⟩; conv => whnf))
              refine ⟨_, ret_fnH G0ok (m1) [4] (res' := uV s) rfl rfl rfl rfl rfl ⟨trivial, _, rfl, rfl, rfl⟩ (outHB _) rfl rfl (upd := [(4, some [bI false])]) (by rfl), ?_⟩; (conv => whnf); (try (refine ⟨by kernel_rfl, ?_⟩; conv => whnf))
              refine ⟨_, ret_fnH G0ok (m2) [4] (res' := uV (mulM P s s)) rfl rfl rfl rfl rfl ⟨trivial, _, rfl, rfl, rfl⟩ (outHB _) rfl rfl (upd := [(4, some [bI false])]) (by rfl), ?_⟩; (conv => whnf); (try (refine ⟨by kernel_rfl, ?_⟩; conv => whnf))
              refine ⟨_, ret_fnH G0ok (s1) [4] (res' := uV (subM P (mulM P s s) x1)) rfl rfl rfl rfl rfl ⟨trivial, _, rfl, rfl, rfl⟩ (outHB _) rfl rfl (upd := [(4, some [bI false])]) (by rfl), ?_⟩; (conv => whnf); (try (refine ⟨by kernel_rfl, ?_⟩; conv => whnf))
              refine ⟨_, ret_fnH G0ok (s2) [4] (res' := uV x3) rfl rfl rfl rfl rfl ⟨trivial, _, rfl, rfl, rfl⟩ (outHB _) rfl rfl (upd := [(4, some [bI false])]) (by rfl), ?_⟩; (conv => whnf); (try (refine ⟨by kernel_rfl, ?_⟩; conv => whnf))
              refine ⟨_, ret_fnH G0ok (s3) [4] (res' := uV (subM P x1 x3)) rfl rfl rfl rfl rfl ⟨trivial, _, rfl, rfl, rfl⟩ (outHB _) rfl rfl (upd := [(4, some [bI false])]) (by rfl), ?_⟩; (conv => whnf); (try (refine ⟨by kernel_rfl, ?_⟩; conv => whnf))
              refine ⟨_, ret_fnH G0ok (m3) [4] (res' := uV (mulM P s (subM P x1 x3))) rfl rfl rfl rfl rfl ⟨trivial, _, rfl, rfl, rfl⟩ (outHB _) rfl rfl (upd := [(4, some [bI false])]) (by rfl), ?_⟩; (conv => whnf); (try (refine ⟨by kernel_rfl, ?_⟩; conv => whnf))
              refine ⟨_, ret_fnH G0ok (s4) [4] (res' := uV (subM P (mulM P s (subM P x1 x3)) y1)) rfl rfl rfl rfl rfl ⟨trivial, _, rfl, rfl, rfl⟩ (outHB _) rfl rfl (upd := [(4, some [bI false])]) (by rfl), ?_⟩; (conv => whnf); (try (refine ⟨by kernel_rfl, ?_⟩; conv => whnf))
              exact ⟨_, rfl, rfl⟩
            · rw [if_neg hg]
              have i1 := rinv_bad false (ld2) hP hg
              have ls := mulM_lt (m := P) (a := addM P (mulM P (modN 3 P) (mulM P x1 x1)) A) (b := 0) h0
              have m1 := rmul_fnH true (lu2) h0 hP
              have m2 := rmul_fnH true ls ls hP
              have s1 := rsub_fnH true (mulM_lt (a := mulM P (addM P (mulM P (modN 3 P) (mulM P x1 x1)) A) 0) (b := mulM P (addM P (mulM P (modN 3 P) (mulM P x1 x1)) A) 0) h0) px hP
              have s2 := rsub_fnH true (subM_lt (a := mulM P (mulM P (addM P (mulM P (modN 3 P) (mulM P x1 x1)) A) 0) (mulM P (addM P (mulM P (modN 3 P) (mulM P x1 x1)) A) 0)) (b := x1) h0) qx hP
              refine gen_ex (mulM P (addM P (mulM P (modN 3 P) (mulM P x1 x1)) A) 0) fun s es => ?_
              rw [← es] at ls m1 m2 s1 s2
              clear es
              refine gen_ex (subM P (subM P (mulM P s s) x1) x2) fun x3 ex3 => ?_
              have lx : x3 < P := ex3 ▸ subM_lt h0
              rw [← ex3] at s2
              clear ex3
              have s3 := rsub_fnH true px lx hP
              have m3 := rmul_fnH true ls (subM_lt (a := x1) (b := x3) h0) hP
              have s4 := rsub_fnH true (mulM_lt (a := s) (b := subM P x1 x3) h0) py hP
              unfold ringV HB at *
              refine ⟨_, ret_fnH G0ok (i1) [4] (res' := uV 0) rfl rfl rfl rfl rfl ⟨trivial, _, rfl, rfl, rfl⟩ (outHB _) rfl rfl (upd := [(4, some [bI true])]) (by rfl), ?_⟩; (conv => whnf); (try (refine ⟨by kernel_rfl, ?_⟩; conv => whnf))
              refine ⟨_, ret_fnH G0ok (m1) [4] (res' := uV s) rfl rfl rfl rfl rfl ⟨trivial, _, rfl, rfl, rfl⟩ (outHB _) rfl rfl (upd := [(4, some [bI true])]) (by rfl), ?_⟩; (conv => whnf); (try (refine ⟨by kernel_rfl, ?_⟩; conv => whnf))
              refine ⟨_, ret_fnH G0ok (m2) [4] (res' := uV (mulM P s s)) rfl rfl rfl rfl rfl ⟨trivial, _, rfl, rfl, rfl⟩ (outHB _) rfl rfl (upd := [(4, some [bI true])]) (by rfl), ?_⟩; (conv => whnf); (try (refine ⟨by kernel_rfl, ?_⟩; conv => whnf))
              refine ⟨_, ret_fnH G0ok (s1) [4] (res' := uV (subM P (mulM P s s) x1)) rfl rfl rfl rfl rfl ⟨trivial, _, rfl, rfl, rfl⟩ (outHB _) rfl rfl (upd := [(4, some [bI true])]) (by rfl), ?_⟩; (conv => whnf); (try (refine ⟨by kernel_rfl, ?_⟩; conv => whnf))
              refine ⟨_, ret_fnH G0ok (s2) [4] (res' := uV x3) rfl rfl rfl rfl rfl ⟨trivial, _, rfl, rfl, rfl⟩ (outHB _) rfl rfl (upd := [(4, some [bI true])]) (by rfl), ?_⟩; (conv => whnf); (try (refine ⟨by kernel_rfl, ?_⟩; conv => whnf))
              refine ⟨_, ret_fnH G0ok (s3) [4] (res' := uV (subM P x1 x3)) rfl rfl rfl rfl rfl ⟨trivial, _, rfl, rfl, rfl⟩ (outHB _) rfl rfl (upd := [(4, some [bI true])]) (by rfl), ?_⟩; (conv => whnf); (try (refine ⟨by kernel_rfl, ?_⟩; conv => whnf))
              refine ⟨_, ret_fnH G0ok (m3) [4] (res' := uV (mulM P s (subM P x1 x3))) rfl rfl rfl rfl rfl ⟨trivial, _, rfl, rfl, rfl⟩ (outHB _) rfl rfl (upd := [(4, some [bI true])]) (by rfl), ?_⟩; (conv => whnf); (try (refine ⟨by kernel_rfl, ?_⟩; conv => whnf))
              refine ⟨_, ret_fnH G0ok (s4) [4] (res' := uV (subM P (mulM P s (subM P x1 x3)) y1)) rfl rfl rfl rfl rfl ⟨trivial, _, rfl, rfl, rfl⟩ (outHB _) rfl rfl (upd := [(4, some [bI true])]) (by rfl), ?_⟩; (conv => whnf); (try (refine ⟨by kernel_rfl, ?_⟩; conv => whnf))
              refine ⟨_, rfl, ?_⟩
              unfold nilP
              rw [zx]
              rfl
          · rw [decide_eq_false hy, if_neg hy]
            conv => whnf
            try (refine ⟨by kernel_rfl, ?_⟩; conv => whnf)
            refine ⟨_, rfl, ?_⟩
            unfold nilP
            rw [zx]
            rfl
      · rw [decide_eq_false hx, if_neg hx]
        conv => whnf
        try (refine ⟨by kernel_rfl, ?_⟩; conv => whnf)
        by_cases hg : Nat.gcd (subM P x2 x1) P = 1
        · rw [if_pos hg]
          unfold chordP
          have lv := (invM_ok (ld) hg).1
          have i1 := rinv_ok false (ld) hP hg
          have ls := mulM_lt (m := P) (a := subM P y2 y1) (b := invM P (subM P x2 x1)) h0
          have m1 := rmul_fnH false (lu) lv hP
          have m2 := rmul_fnH false ls ls hP
          have s1 := rsub_fnH false (mulM_lt (a := mulM P (subM P y2 y1) (invM P (subM P x2 x1))) (b := mulM P (subM P y2 y1) (invM P (subM P x2 x1))) h0) px hP
          have s2 := rsub_fnH false (subM_lt (a := mulM P (mulM P (subM P y2 y1) (invM P (subM P x2 x1))) (mulM P (subM P y2 y1) (invM P (subM P x2 x1)))) (b := x1) h0) qx hP
          refine gen_ex (mulM P (subM P y2 y1) (invM P (subM P x2 x1))) fun s es => ?_
          rw [← es] at ls m1 m2 s1 s2 ⊢
          clear es
          refine gen_ex (subM P (subM P (mulM P s s) x1) x2) fun x3 ex3 => ?_
          have lx : x3 < P := ex3 ▸ subM_lt h0
          rw [← ex3] at s2 ⊢
          clear ex3
          have s3 := rsub_fnH false px lx hP
          have m3 := rmul_fnH false ls (subM_lt (a := x1) (b := x3) h0) hP
          have s4 := rsub_fnH false (mulM_lt (a := s) (b := subM P x1 x3) h0) py hP
          unfold ringV HB at *
          refine ⟨_, ret_fnH G0ok (i1) [4] (res' := uV (invM P (subM P x2 x1))) rfl rfl rfl rfl rfl ⟨trivial, _, rfl, rfl, rfl⟩ (outHB _) rfl rfl (upd := [(4, some [bI false])]) (by rfl), ?_⟩; (conv => whnf); (try (refine ⟨by kernel_rfl, ?_⟩; conv => whnf))
          refine ⟨_, ret_fnH G0ok (m1) [4] (res' := uV s) rfl rfl rfl rfl rfl ⟨trivial, _, rfl, rfl, rfl⟩ (outHB _) rfl rfl (upd := [(4, some [bI false])]) (by rfl), ?_⟩; (conv => whnf); (try (refine ⟨by kernel_rfl, ?_⟩; conv => whnf))
          refine ⟨_, ret_fnH G0ok (m2) [4] (res' := uV (mulM P s s)) rfl rfl rfl rfl rfl ⟨trivial, _, rfl, rfl, rfl⟩ (outHB _) rfl rfl (upd := [(4, some [bI false])]) (by rfl), ?_⟩; (conv => whnf); (try (refine ⟨by kernel_rfl, ?_⟩; conv => whnf))
          refine ⟨_, ret_fnH G0ok (s1) [4] (res' := uV (subM P (mulM P s s) x1)) rfl rfl rfl rfl rfl ⟨trivial, _, rfl, rfl, rfl⟩ (outHB _) rfl rfl (upd := [(4, some [bI false])]) (by rfl), ?_⟩; (conv => whnf); (try (refine ⟨by kernel_rfl, ?_⟩; conv => whnf))
          refine ⟨_, ret_fnH G0ok (s2) [4] (res' := uV x3) rfl rfl rfl rfl rfl ⟨trivial, _, rfl, rfl, rfl⟩ (outHB _) rfl rfl (upd := [(4, some [bI false])]) (by rfl), ?_⟩; (conv => whnf); (try (refine ⟨by kernel_rfl, ?_⟩; conv => whnf))
          refine ⟨_, ret_fnH G0ok (s3) [4] (res' := uV (subM P x1 x3)) rfl rfl rfl rfl rfl ⟨trivial, _, rfl, rfl, rfl⟩ (outHB _) rfl rfl (upd := [(4, some [bI false])]) (by rfl), ?_⟩; (conv => whnf); (try (refine ⟨by kernel_rfl, ?_⟩; conv => whnf))
          refine ⟨_, ret_fnH G0ok (m3) [4] (res' := uV (mulM P s (subM P x1 x3))) rfl rfl rfl rfl rfl ⟨trivial, _, rfl, rfl, rfl⟩ (outHB _) rfl rfl (upd := [(4, some [bI false])]) (by rfl), ?_⟩; (conv => whnf); (try (refine ⟨by kernel_rfl, ?_⟩; conv => whnf))
          refine ⟨_, ret_fnH G0ok (s4) [4] (res' := uV (subM P (mulM P s (subM P x1 x3)) y1)) rfl rfl rfl rfl rfl ⟨trivial, _, rfl, rfl, rfl⟩ (outHB _) rfl rfl (upd := [(4, some [bI false])]) (by rfl), ?_⟩; (conv => whnf); (try (refine ⟨by kernel_rfl, ?_⟩; conv => whnf))
          exact ⟨_, rfl, rfl⟩
        · rw [if_neg hg]
          have i1 := rinv_bad false (ld) hP hg
          have ls := mulM_lt (m := P) (a := subM P y2 y1) (b := 0) h0
          have m1 := rmul_fnH true (lu) h0 hP
          have m2 := rmul_fnH true ls ls hP
          have s1 := rsub_fnH true (mulM_lt (a := mulM P (subM P y2 y1) 0) (b := mulM P (subM P y2 y1) 0) h0) px hP
          have s2 := rsub_fnH true (subM_lt (a := mulM P (mulM P (subM P y2 y1) 0) (mulM P (subM P y2 y1) 0)) (b := x1) h0) qx hP
          refine gen_ex (mulM P (subM P y2 y1) 0) fun s es => ?_
          rw [← es] at ls m1 m2 s1 s2
          clear es
          refine gen_ex (subM P (subM P (mulM P s s) x1) x2) fun x3 ex3 => ?_
          have lx : x3 < P := ex3 ▸ subM_lt h0
          rw [← ex3] at s2
          clear ex3
          have s3 := rsub_fnH true px lx hP
          have m3 := rmul_fnH true ls (subM_lt (a := x1) (b := x3) h0) hP
          have s4 := rsub_fnH true (mulM_lt (a := s) (b := subM P x1 x3) h0) py hP
          unfold ringV HB at *
          refine ⟨_, ret_fnH G0ok (i1) [4] (res' := uV 0) rfl rfl rfl rfl rfl ⟨trivial, _, rfl, rfl, rfl⟩ (outHB _) rfl rfl (upd := [(4, some [bI true])]) (by rfl), ?_⟩; (conv => whnf); (try (refine ⟨by kernel_rfl, ?_⟩; conv => whnf))
          refine ⟨_, ret_fnH G0ok (m1) [4] (res' := uV s) rfl rfl rfl rfl rfl ⟨trivial, _, rfl, rfl, rfl⟩ (outHB _) rfl rfl (upd := [(4, some [bI true])]) (by rfl), ?_⟩; (conv => whnf); (try (refine ⟨by kernel_rfl, ?_⟩; conv => whnf))
          refine ⟨_, ret_fnH G0ok (m2) [4] (res' := uV (mulM P s s)) rfl rfl rfl rfl rfl ⟨trivial, _, rfl, rfl, rfl⟩ (outHB _) rfl rfl (upd := [(4, some [bI true])]) (by rfl), ?_⟩; (conv => whnf); (try (refine ⟨by kernel_rfl, ?_⟩; conv => whnf))
          refine ⟨_, ret_fnH G0ok (s1) [4] (res' := uV (subM P (mulM P s s) x1)) rfl rfl rfl rfl rfl ⟨trivial, _, rfl, rfl, rfl⟩ (outHB _) rfl rfl (upd := [(4, some [bI true])]) (by rfl), ?_⟩; (conv => whnf); (try (refine ⟨by kernel_rfl, ?_⟩; conv => whnf))
          refine ⟨_, ret_fnH G0ok (s2) [4] (res' := uV x3) rfl rfl rfl rfl rfl ⟨trivial, _, rfl, rfl, rfl⟩ (outHB _) rfl rfl (upd := [(4, some [bI true])]) (by rfl), ?_⟩; (conv => whnf); (try (refine ⟨by kernel_rfl, ?_⟩; conv => whnf))
          refine ⟨_, ret_fnH G0ok (s3) [4] (res' := uV (subM P x1 x3)) rfl rfl rfl rfl rfl ⟨trivial, _, rfl, rfl, rfl⟩ (outHB _) rfl rfl (upd := [(4, some [bI true])]) (by rfl), ?_⟩; (conv => whnf); (try (refine ⟨by kernel_rfl, ?_⟩; conv => whnf))
          refine ⟨_, ret_fnH G0ok (m3) [4] (res' := uV (mulM P s (subM P x1 x3))) rfl rfl rfl rfl rfl ⟨trivial, _, rfl, rfl, rfl⟩ (outHB _) rfl rfl (upd := [(4, some [bI true])]) (by rfl), ?_⟩; (conv => whnf); (try (refine ⟨by kernel_rfl, ?_⟩; conv => whnf))
          refine ⟨_, ret_fnH G0ok (s4) [4] (res' := uV (subM P (mulM P s (subM P x1 x3)) y1)) rfl rfl rfl rfl rfl ⟨trivial, _, rfl, rfl, rfl⟩ (outHB _) rfl rfl (upd := [(4, some [bI true])]) (by rfl), ?_⟩; (conv => whnf); (try (refine ⟨by kernel_rfl, ?_⟩; conv => whnf))
          refine ⟨_, rfl, ?_⟩
          unfold nilP
          rw [zx]
          rfl
    · rw [if_pos rfl]
      refine fn_of_vwp Γok Tryd.func77 (by kernel_rfl) rfl (by simp [Tryd.ntmps77]) (wpv_ok Γok (by kernel_rfl) _ _ _ ?_); conv => whnf
      exact ⟨_, rfl, rfl⟩
  · rw [if_pos rfl]
    refine fn_of_vwp Γok Tryd.func77 (by kernel_rfl) rfl (by simp [Tryd.ntmps77]) (wpv_ok Γok (by kernel_rfl) _ _ _ ?_); conv => whnf
    exact ⟨_, rfl, rfl⟩
end Go.Proofs.YtidkdlaihmpjfaaDoor
