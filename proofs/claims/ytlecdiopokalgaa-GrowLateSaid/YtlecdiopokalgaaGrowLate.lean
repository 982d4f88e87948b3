/- GrowLate: beside what stands for good nothing grows any more; on it all does, and the best line changes only for a higher one. -/
import Derived.Test.YtlecdiopokalgaaBUd
import Derived.Test.YtlecdiopokalgaaBUc
namespace Go.Proofs.Ytlecdiopokalgaa
set_option linter.unusedVariables false
set_option linter.unusedSimpArgs false
set_option linter.unusedSectionVars false
open Go.ChangeShapes Go.WideShapes Go.ChangeAt Go.RowKit Go.Joins
set_option maxRecDepth 10000
theorem fnGrowLate (l : List RawD) (at' : Int) (hl : l.length ≤ maxLen) (hok : ∀ r ∈ l, r.ok) (_ : I64 at') : FnV Try.prog G0 6 [.ds false l.length (rawsC l), nI .i64 at'] (bI true) := by
  have gr := grown_fn (most := 25) (by decide) hl hok _ rfl
  obtain ⟨ok, ln⟩ := treL_ok (l := l.take 25) (by rw [List.length_take]; omega)
  have t25 : (l.take 25).length ≤ 25 := by rw [List.length_take]; omega
  refine gen_ex (treL (l.take 25)) fun p ep => ?_
  rw [← ep] at gr ok ln
  clear ep
  have l40 : p.L.length < 40 := by omega
  clear ln t25
  have nR : noHs (rawsC l) = true := rawsC_noHs _
  have n1 := treV_noH p
  have nq := @rows_noHs _ _ blD_noHs
  have lp := ok.bls.some
  have fin := ok.fin
  have bst := ok.best
  obtain ⟨k, hk⟩ : ∃ k : Nat, at' % (p.L.length : Int) = (k : Int) := ⟨(at' % (p.L.length : Int)).toNat, by have := Int.emod_nonneg at' (show (p.L.length : Int) ≠ 0 by omega); omega⟩
  have hk2 : k < p.L.length := by have := Int.emod_lt_of_pos at' (show (0 : Int) < (p.L.length : Int) by omega); omega
  obtain ⟨f1, q1, b1, e, gf, eb, g1, g2⟩ := fgrow_all ok l40 hk2
  have gn := fgrow_none (f := false) (k := p.L.length) ok.bls ok.fin rfl (Nat.le_refl _) (by omega)
  have pk := picked_fn at' p.L.length (by omega) (by omega)
  rw [hk] at pk
  unfold TreS.v treeV at *
  unfold TreS.b at *
  refine fn_of_vwp Γok Try.func6 (by kernel_rfl) rfl (by simp [Try.ntmps6]) (wpv_ok Γok (by kernel_rfl) _ _ _ ?_); conv => whnf
  refine ⟨_, ret_of_fn G0ok (gr) (by first | rfl | simp only [noHs, noH, nI, bI, Bool.and_self, Bool.and_true, Bool.true_and, nR, nq]) (by first | rfl | simp only [noHs, noH, nI, bI, Bool.and_self, Bool.and_true, Bool.true_and, nR, nq]), ?_⟩; (conv => whnf); (try (refine ⟨by kernel_rfl, ?_⟩; conv => whnf))
  rw [show (((p.L.length : Nat) : Int) == 0) = false from (beq_lit _ 0).trans (decide_eq_false (by omega))]
  conv => whnf
  try (refine ⟨by kernel_rfl, ?_⟩; conv => whnf)
  refine ⟨_, ret_of_fn G0ok (pk) (by first | rfl | simp only [noHs, noH, nI, bI, Bool.and_self, Bool.and_true, Bool.true_and, ]) (by first | rfl | simp only [noHs, noH, nI, bI, Bool.and_self, Bool.and_true, Bool.true_and, ]), ?_⟩; (conv => whnf); (try (refine ⟨by kernel_rfl, ?_⟩; conv => whnf))
  refine vloop_invK G0ok [(0, some 0)] 1 (X := Nat) (fun x => [(7, nI .i64 x), (6, nI .i64 k), (5, .ptr 0 0), (4, bI false)]) (fun _ => [(0, some [.ds false p.L.length (rows BlD.cells p.L), nI .i64 (bestN p.L p.r p.L.length), nI .i64 p.r])]) (fun x => x ≤ k ∧ anc p.L p.r x = anc p.L p.r k) (fun x => x) k rfl
    ⟨⟨_, rfl, conv_nI (rfl)⟩, ⟨_, rfl, conv_nI (rfl)⟩, ⟨_, rfl, .ptr rfl⟩, ⟨_, rfl, .same rfl⟩, trivial⟩ ⟨.inr ⟨_, _, rfl, rfl, .same (n1)⟩, trivial⟩ ⟨Nat.le_refl _, rfl⟩ ?_
  rintro x ⟨hx, ha⟩
  dsimp only at hx ha ⊢
  refine wpv_ok Γok (by kernel_rfl) _ _ _ ?_; conv => whnf
  refine bool_cases (fun hc => ?_) (fun hc => ?_)
  · have hc := of_decide_eq_true hc
    have hc : p.r < x := by omega
    have hl : x < p.L.length := by omega
    have st := anc_step ok.bls hl hc
    have pl := parN_lt ok.bls hl (by omega)
    have pe := parN_eq hl
    have pp := ok.bls.par x hl (by omega)
    conv => whnf
    try (refine ⟨by kernel_rfl, ?_⟩; conv => whnf)
    refine bindP_intro (if_pos (inB_ok (by omega) (by omega))) ?_; conv => whnf
    refine bindP_intro (bl_par (i := x) (by dsimp only; omega) hl) ?_
    conv => whnf
    try (refine ⟨by kernel_rfl, ?_⟩; conv => whnf)
    refine next_round (y := x) G0ok (parN p.L x) [(0, some 0)] rfl ⟨⟨_, rfl, conv_nI (by omega)⟩, ⟨_, rfl, conv_nI (rfl)⟩, ⟨_, rfl, .ptr rfl⟩, ⟨_, rfl, .same rfl⟩, trivial⟩ ⟨.inr ⟨_, _, rfl, rfl, .same (n1)⟩, trivial⟩ ⟨by omega, by rw [← st]; exact ha⟩ pl
  · have hc := of_decide_eq_false hc
    have st : anc p.L p.r x = x := anc_stop (by omega)
    rw [st] at ha
    conv => whnf
    try (refine ⟨by kernel_rfl, ?_⟩; conv => whnf)
    refine ⟨_, ret_of_fn G0ok (gf) (by first | rfl | simp only [noHs, noH, nI, bI, Bool.and_self, Bool.and_true, Bool.true_and, n1, nq]) (by first | rfl | simp only [noHs, noH, nI, bI, Bool.and_self, Bool.and_true, Bool.true_and, n1, nq]), ?_⟩; (conv => whnf); (try (refine ⟨by kernel_rfl, ?_⟩; conv => whnf))
    refine ⟨_, ret_of_fn G0ok (gn) (by first | rfl | simp only [noHs, noH, nI, bI, Bool.and_self, Bool.and_true, Bool.true_and, n1, nq]) (by first | rfl | simp only [noHs, noH, nI, bI, Bool.and_self, Bool.and_true, Bool.true_and, n1, nq]), ?_⟩; (conv => whnf); (try (refine ⟨by kernel_rfl, ?_⟩; conv => whnf))
    have neB : ∀ (a b : Nat), ((a : Int) != (b : Int)) = !decide (a = b) := fun a b => congrArg (!·) (beq_lit a b)
    rw [neB x p.r]
    by_cases hr : x = p.r
    · rw [decide_eq_true hr]
      conv => whnf
      try (refine ⟨by kernel_rfl, ?_⟩; conv => whnf)
      by_cases h0 : e = 0
      · obtain ⟨ef, e2, e3, _⟩ := g1 h0
        have eg : p.grow k = ⟨growL p.L k hk2, p.r⟩ := by unfold TreS.grow; rw [dif_pos ⟨hk2, by rw [← ha, hr]⟩]
        have gb := grow_best ok.bls hk2 l40 fin bst (by rw [← ha, hr])
        have gl := grow_len hk2
        rw [eg] at e2
        subst e2
        subst ef e3
        dsimp only at *
        refine gen_ex (growL p.L k hk2).length fun gn' egn => ?_
        rw [← egn] at gl gb ⊢
        refine bindP_intro (if_pos (inB_ok (by omega) (by omega))) ?_; conv => whnf
        refine bindP_intro (bl_h (M := p.L) (i := k) (by dsimp only; omega) hk2) ?_
        conv => whnf
        try (refine ⟨by kernel_rfl, ?_⟩; conv => whnf)
        refine bindP_intro (if_pos (inB_ok (by omega) (by omega))) ?_; conv => whnf
        refine bindP_intro (bl_h (M := p.L) (i := bestN p.L p.r p.L.length) (by dsimp only; omega) bst) ?_
        conv => whnf
        try (refine ⟨by kernel_rfl, ?_⟩; conv => whnf)
        rw [show (((e : Nat) : Int) == 0) = true from by rw [h0]; rfl]
        conv => whnf
        try (refine ⟨by kernel_rfl, ?_⟩; conv => whnf)
        rw [ws_i64 (x := (p.L.length : Int) + 1) (by omega) (by omega), show ((gn' : Int) == (p.L.length : Int) + 1) = true from by rw [gl]; exact beq_self_eq_true _]
        conv => whnf
        try (refine ⟨by kernel_rfl, ?_⟩; conv => whnf)
        have hle := bl_hle ok.bls _ k hk2 (Nat.le_refl _)
        rw [ws_i64 (x := ((p.L[k].h : Nat) : Int) + 1) (by omega) (by omega)]
        by_cases hh : p.L[bestN p.L p.r p.L.length].h < p.L[k].h + 1
        · rw [if_pos hh] at gb
          rw [decide_eq_true (show ((p.L[k].h : Nat) : Int) + 1 > ((p.L[bestN p.L p.r p.L.length].h : Nat) : Int) by omega)]
          conv => whnf
          try (refine ⟨by kernel_rfl, ?_⟩; conv => whnf)
          rw [gb, show ((p.L.length : Int) == (p.L.length : Int)) = true from beq_self_eq_true _]
          conv => whnf
          try (refine ⟨by kernel_rfl, ?_⟩; conv => whnf)
          exact ⟨_, rfl, rfl⟩
        · rw [if_neg hh] at gb
          rw [decide_eq_false (show ¬ ((p.L[k].h : Nat) : Int) + 1 > ((p.L[bestN p.L p.r p.L.length].h : Nat) : Int) by omega)]
          conv => whnf
          try (refine ⟨by kernel_rfl, ?_⟩; conv => whnf)
          rw [gb, show (((bestN p.L p.r p.L.length : Nat) : Int) == ((bestN p.L p.r p.L.length : Nat) : Int)) = true from beq_self_eq_true _]
          conv => whnf
          try (refine ⟨by kernel_rfl, ?_⟩; conv => whnf)
          exact ⟨_, rfl, rfl⟩
      · exact absurd (show anc p.L p.r k = p.r by rw [← ha, hr]) (g2 h0).2.2
    · rw [decide_eq_false hr]
      conv => whnf
      try (refine ⟨by kernel_rfl, ?_⟩; conv => whnf)
      have h0 : e = 15 := by
        by_cases h0 : e = 0
        · exact absurd (show x = p.r from ha.trans (g1 h0).2.2.2) hr
        · exact (g2 h0).2.1
      subst h0
      conv => whnf
      try (refine ⟨by kernel_rfl, ?_⟩; conv => whnf)
      exact ⟨_, rfl, rfl⟩
namespace lawGrowLate
set_option linter.unusedVariables false
set_option maxRecDepth 100000 in
theorem lifted (os : Os) (started : os.Started) (H : Type) (enc : TypeId × Value → H) :
    ReturnsInHanded {} Try.checked os 6 .any (Rows.growLateSpec.pre6 enc Try.prog Try.f6 Rows.growLateRow.domain false) (Rows.growLateSpec.post enc Try.prog Try.f6 false true false false) := by
  refine returnsInHanded_of_change (C := Try.checked) rowOwn started (by kernel_rfl) Try.func6
    (ChangeSpec.witness6 (enc := enc) (C := Try.checked) false ⟨#[], #[.slice none 0 0, .int .i64 0], []⟩ 8 (by kernel_rfl) (by kernel_rfl) (by kernel_rfl) (by kernel_rfl)) ?_
  intro W base args ds gs before hval0 hW hcnd _
  have hval : ∀ (j : Nat) t v, Try.f6.params[j]? = some t → args[j]? = some v → Value.okWide Try.prog W .any base t v := hval0
  have hW' := hW
  obtain ⟨p, q, hA0, hV, rfl, hfz, hnd⟩ := hW
  have hA : DataW.TrodAll enc Try.prog W 0 (fun _ => true) true Try.f6.params.toList args.toList ds p := hA0
  rw [Try.params6] at hA hval
  obtain ⟨v0, vs0, d0, ds0, p0, q0, hargs, rfl, rfl, h0, r0⟩ := trodAll_cons hA
  obtain ⟨v1, vs1, d1, ds1, p1, q1, rfl, rfl, rfl, h1, r1⟩ := trodAll_cons r0
  obtain ⟨rfl, rfl, rfl⟩ := trodAll_nil r1
  obtain rfl : args = #[v0, v1] := by cases args; simp_all
  obtain ⟨rfl, rfl⟩ := trodVars_none hV
  have k0 := h0
  have lt0 : ∀ x ∈ p0, x.block < W.heap.size := by obtain ⟨m, hm⟩ := k0; exact DataW.trod_lt m _ _ _ hm
  obtain ⟨a0, l0, w0, u0⟩ := raws_open (hval 0 22 v0 rfl rfl) h0
  obtain ⟨a1, rfl, rfl, rfl, w1⟩ := open_int Try.underlying3 (hval 1 3 v1 rfl rfl) h1
  clear hA0 hval0
  refine (calls_of_fn Try.func6 (by kernel_rfl) rfl (fnGrowLate a0 a1 l0 w0 (bounds_i64 w1)) (fun _ _ h => by cases h) (VRs.cons u0 (VRs.cons rfl VRs.snoc_nil))).mono fun e W' ⟨he, bel⟩ => ?_
  subst he
  exact ⟨_, rfl, _, _, _, [], _, [], hW', trodAll_mk1 (shut_bool Try.underlying4 _), (trodAll_cons_mk (Below.trod rowLaid (by kernel_rfl) (of_decide_eq_true (by kernel_rfl)) k0 bel lt0) (trodAll_cons_mk (shut_int Try.underlying3 w1) trodAll_mk0)), rfl, bel.frame _, fun h => by cases h⟩
theorem over : Rows.growLateRow.holds Try.pinned (OpenSpec.ofChange Rows.growLateSpec) :=
  OpenClaim.holds_of_wide 6 Try.f6 rfl rfl rfl rfl rfl rfl rfl ⟨rfl, rfl, rfl, rfl, rfl⟩ rfl rfl rfl rfl rfl (by kernel_rfl) Try.func6 (by kernel_rfl)
    (of_decide_eq_true (by kernel_rfl)) (by unfold Func.isWrapper; first | (rw [if_pos (by decide +kernel)]; kernel_rfl) | (rw [if_neg (by decide +kernel)]; exact ⟨rfl, rfl⟩))
    (fun os started H enc _ => lifted os started H enc)
theorem proved : Rows.GrowLateSaid := over
end lawGrowLate

end Go.Proofs.Ytlecdiopokalgaa
