/- LineHighest: the best line is a line, from the first block on; no block that stands on the final one is higher. -/
import Derived.Test.YtlecdiopokalgaaBUd
import Derived.Test.YtlecdiopokalgaaBUc
namespace Go.Proofs.Ytlecdiopokalgaa
set_option linter.unusedVariables false
set_option linter.unusedSimpArgs false
set_option linter.unusedSectionVars false
open Go.ChangeShapes Go.WideShapes Go.ChangeAt Go.RowKit Go.Joins
set_option maxRecDepth 10000
theorem fnLineHighest (l : List RawD) (at' : Int) (hl : l.length ≤ maxLen) (hok : ∀ r ∈ l, r.ok) (_ : I64 at') : FnV Try.prog G0 8 [.ds false l.length (rawsC l), nI .i64 at'] (bI true) := by
  have gr := grown_fn (most := 25) (by decide) hl hok _ rfl
  obtain ⟨ok, ln⟩ := treL_ok (l := l.take 25) (by rw [List.length_take]; omega)
  have t25 : (l.take 25).length ≤ 25 := by rw [List.length_take]; omega
  refine gen_ex (treL (l.take 25)) fun p ep => ?_
  rw [← ep] at gr ok ln
  clear ep
  have l40 : p.L.length < 40 := by omega
  clear ln t25
  have nR : noHs (rawsC l) = true := rawsC_noHs _
  have n1 := treV_noH p
  have nq := @rows_noHs _ _ blD_noHs
  have nn := natsC_noHs
  have lp := ok.bls.some
  have fin := ok.fin
  have bst := ok.best
  have ib := bestN_best ok.bls fin bst
  obtain ⟨k, hk⟩ : ∃ k : Nat, at' % (p.L.length : Int) = (k : Int) := ⟨(at' % (p.L.length : Int)).toNat, by have := Int.emod_nonneg at' (show (p.L.length : Int) ≠ 0 by omega); omega⟩
  have hk2 : k < p.L.length := by have := Int.emod_lt_of_pos at' (show (0 : Int) < (p.L.length : Int) by omega); omega
  have lb := fline_fn (f := false) (o := false) ok.bls fin rfl
  have lf := fline_fn (f := false) (o := true) ok.bls fin rfl
  rw [cond_false] at lb
  rw [cond_true] at lf
  have pk := picked_fn at' p.L.length (by omega) (by omega)
  rw [hk] at pk
  unfold TreS.v treeV at *
  unfold TreS.b at *
  refine gen_ex (bestN p.L p.r p.L.length) fun b eb => ?_
  rw [← eb] at gr bst lb lf
  have ib : IsBest p.L p.r b bst := by subst eb; exact ib
  have bl := path_len ok.bls _ b bst (Nat.le_refl _)
  have fl := path_len ok.bls _ p.r fin (Nat.le_refl _)
  have b0 := path_head ok.bls bst (by omega)
  have b1 := path_end ok.bls (i := p.L[b].h) bst (by omega) bl.symm
  have f1 := path_end ok.bls (i := p.L[p.r].h) fin (by omega) fl.symm
  have hi1 := fun i hi => (path_at ok.bls _ b bst (Nat.le_refl _) i hi).1
  have hi2 := fun i hi hx => path_high ok.bls (b := b) (i := i) bst hi hx
  have hi3 := fun i hi hx => path_step ok.bls (b := b) (i := i) bst hi hx
  have kh := bl_hle ok.bls _ k hk2 (Nat.le_refl _)
  have bh := bl_hle ok.bls _ b bst (Nat.le_refl _)
  have fh := bl_hle ok.bls _ p.r fin (Nat.le_refl _)
  refine gen_ex (path p.L b) fun P eP => ?_
  simp only [← eP] at lb bl b0 b1 hi1 hi2 hi3
  refine gen_ex (path p.L p.r) fun F eF => ?_
  simp only [← eF] at lf fl f1
  refine fn_of_vwp Γok Try.func8 (by kernel_rfl) rfl (by simp [Try.ntmps8]) (wpv_ok Γok (by kernel_rfl) _ _ _ ?_); conv => whnf
  refine ⟨_, ret_of_fn G0ok (gr) (by first | rfl | simp only [noHs, noH, nI, bI, Bool.and_self, Bool.and_true, Bool.true_and, nR, nq]) (by first | rfl | simp only [noHs, noH, nI, bI, Bool.and_self, Bool.and_true, Bool.true_and, nR, nq]), ?_⟩; (conv => whnf); (try (refine ⟨by kernel_rfl, ?_⟩; conv => whnf))
  refine ⟨_, ret_of_fn G0ok (lb) (by first | rfl | simp only [noHs, noH, nI, bI, Bool.and_self, Bool.and_true, Bool.true_and, nn, nq]) (by first | rfl | simp only [noHs, noH, nI, bI, Bool.and_self, Bool.and_true, Bool.true_and, nn, nq]), ?_⟩; (conv => whnf); (try (refine ⟨by kernel_rfl, ?_⟩; conv => whnf))
  refine ⟨_, ret_of_fn G0ok (lf) (by first | rfl | simp only [noHs, noH, nI, bI, Bool.and_self, Bool.and_true, Bool.true_and, nn, nq]) (by first | rfl | simp only [noHs, noH, nI, bI, Bool.and_self, Bool.and_true, Bool.true_and, nn, nq]), ?_⟩; (conv => whnf); (try (refine ⟨by kernel_rfl, ?_⟩; conv => whnf))
  rw [show (((P.length : Nat) : Int) == 0) = false from (beq_lit _ 0).trans (decide_eq_false (by omega))]
  conv => whnf
  try (refine ⟨by kernel_rfl, ?_⟩; conv => whnf)
  refine bindP_intro (if_pos (inB_ok (by omega) (by omega))) ?_; conv => whnf
  refine bindP_intro (natsC_ix (i := 0) rfl (by omega)) ?_
  conv => whnf
  try (refine ⟨by kernel_rfl, ?_⟩; conv => whnf)
  rw [b0]
  conv => whnf
  try (refine ⟨by kernel_rfl, ?_⟩; conv => whnf)
  rw [ws_i64 (x := (P.length : Int) - 1) (by omega) (by omega)]
  conv => whnf
  try (refine ⟨by kernel_rfl, ?_⟩; conv => whnf)
  refine bindP_intro (if_pos (inB_ok (by omega) (by omega))) ?_; conv => whnf
  refine bindP_intro (natsC_ix (i := p.L[b].h) (by dsimp only; omega) (by omega)) ?_
  conv => whnf
  try (refine ⟨by kernel_rfl, ?_⟩; conv => whnf)
  rw [b1]
  rw [show (((b : Nat) : Int) != ((b : Nat) : Int)) = false from bne_self_eq_false _]
  conv => whnf
  try (refine ⟨by kernel_rfl, ?_⟩; conv => whnf)
  rw [show (((F.length : Nat) : Int) == 0) = false from (beq_lit _ 0).trans (decide_eq_false (by omega))]
  conv => whnf
  try (refine ⟨by kernel_rfl, ?_⟩; conv => whnf)
  rw [ws_i64 (x := (F.length : Int) - 1) (by omega) (by omega)]
  conv => whnf
  try (refine ⟨by kernel_rfl, ?_⟩; conv => whnf)
  refine bindP_intro (if_pos (inB_ok (by omega) (by omega))) ?_; conv => whnf
  refine bindP_intro (natsC_ix (i := p.L[p.r].h) (by dsimp only; omega) (by omega)) ?_
  conv => whnf
  try (refine ⟨by kernel_rfl, ?_⟩; conv => whnf)
  rw [f1, show (((p.r : Nat) : Int) != ((p.r : Nat) : Int)) = false from bne_self_eq_false _]
  conv => whnf
  try (refine ⟨by kernel_rfl, ?_⟩; conv => whnf)
  refine vloop_invK G0ok [(0, some 0)] 1 (X := Nat) (fun i => [(10, nI .i64 i), (6, .ds false P.length (natsC P)), (5, .ptr 0 0), (4, bI false), (1, nI .i64 at')]) (fun _ => [(0, some [.ds false p.L.length (rows BlD.cells p.L), nI .i64 b, nI .i64 p.r])]) (fun i => 1 ≤ i ∧ i ≤ P.length) (fun i => P.length - i) 1 rfl
    ⟨⟨_, rfl, conv_nI (rfl)⟩, ⟨_, rfl, conv_eq rfl (nn _)⟩, ⟨_, rfl, .ptr rfl⟩, ⟨_, rfl, .same rfl⟩, ⟨_, rfl, conv_nI (rfl)⟩, trivial⟩ ⟨.inr ⟨_, _, rfl, rfl, .same (by rw [eb]; exact n1)⟩, trivial⟩ ⟨Nat.le_refl _, by omega⟩ ?_
  rintro i ⟨hi, hi'⟩
  dsimp only at hi hi' ⊢
  refine wpv_ok Γok (by kernel_rfl) _ _ _ ?_; conv => whnf
  refine bool_cases (fun hc => ?_) (fun hc => ?_)
  · have hc := of_decide_eq_true hc
    obtain ⟨j, rfl⟩ : ∃ j, i = j + 1 := ⟨i - 1, by omega⟩
    have hj : j + 1 < P.length := by omega
    have x1 := hi1 (j + 1) hj
    have x2 := hi2 (j + 1) hj x1
    have x3 := hi3 j hj x1
    conv => whnf
    try (refine ⟨by kernel_rfl, ?_⟩; conv => whnf)
    refine bindP_intro (if_pos (inB_ok (by omega) (by omega))) ?_; conv => whnf
    refine bindP_intro (natsC_ix (i := j + 1) (by dsimp only; omega) hj) ?_
    conv => whnf
    try (refine ⟨by kernel_rfl, ?_⟩; conv => whnf)
    refine bindP_intro (if_pos (inB_ok (by omega) (by omega))) ?_; conv => whnf
    refine bindP_intro (bl_par (i := P[j + 1]) (by dsimp only; omega) x1) ?_
    conv => whnf
    try (refine ⟨by kernel_rfl, ?_⟩; conv => whnf)
    rw [ws_i64 (x := ((j + 1 : Nat) : Int) - 1) (by omega) (by omega)]
    conv => whnf
    try (refine ⟨by kernel_rfl, ?_⟩; conv => whnf)
    refine bindP_intro (if_pos (inB_ok (by omega) (by omega))) ?_; conv => whnf
    refine bindP_intro (natsC_ix (i := j) (by dsimp only; omega) (by omega)) ?_
    conv => whnf
    try (refine ⟨by kernel_rfl, ?_⟩; conv => whnf)
    rw [x3, show (((P[j] : Nat) : Int) != ((P[j] : Nat) : Int)) = false from bne_self_eq_false _]
    conv => whnf
    try (refine ⟨by kernel_rfl, ?_⟩; conv => whnf)
    refine bindP_intro (if_pos (inB_ok (by omega) (by omega))) ?_; conv => whnf
    refine bindP_intro (natsC_ix (i := j + 1) (by dsimp only; omega) hj) ?_
    conv => whnf
    try (refine ⟨by kernel_rfl, ?_⟩; conv => whnf)
    refine bindP_intro (if_pos (inB_ok (by omega) (by omega))) ?_; conv => whnf
    refine bindP_intro (bl_h (i := P[j + 1]) (by dsimp only; omega) x1) ?_
    conv => whnf
    try (refine ⟨by kernel_rfl, ?_⟩; conv => whnf)
    rw [x2, show (((j + 1 : Nat) : Int) != ((j + 1 : Nat) : Int)) = false from bne_self_eq_false _]
    conv => whnf
    try (refine ⟨by kernel_rfl, ?_⟩; conv => whnf)
    refine next_round (y := j + 1) G0ok (j + 1 + 1) [(0, some 0)] rfl ⟨⟨_, rfl, conv_nI (ws_i64 (by omega) (by omega))⟩, ⟨_, rfl, conv_eq rfl (nn _)⟩, ⟨_, rfl, .ptr rfl⟩, ⟨_, rfl, .same rfl⟩, ⟨_, rfl, conv_nI (rfl)⟩, trivial⟩ ⟨.inr ⟨_, _, rfl, rfl, .same (by rw [eb]; exact n1)⟩, trivial⟩ ⟨by omega, by omega⟩ (by omega)
  · have hc := of_decide_eq_false hc
    have e : i = P.length := by omega
    subst e
    conv => whnf
    try (refine ⟨by kernel_rfl, ?_⟩; conv => whnf)
    refine ⟨_, ret_of_fn G0ok (pk) (by first | rfl | simp only [noHs, noH, nI, bI, Bool.and_self, Bool.and_true, Bool.true_and, ]) (by first | rfl | simp only [noHs, noH, nI, bI, Bool.and_self, Bool.and_true, Bool.true_and, ]), ?_⟩; (conv => whnf); (try (refine ⟨by kernel_rfl, ?_⟩; conv => whnf))
    refine vloop_invK G0ok [(0, some 0)] 1 (X := Nat) (fun x => [(12, nI .i64 x), (11, nI .i64 k), (6, .ds false P.length (natsC P)), (5, .ptr 0 0), (4, bI false)]) (fun _ => [(0, some [.ds false p.L.length (rows BlD.cells p.L), nI .i64 b, nI .i64 p.r])]) (fun x => x ≤ k ∧ anc p.L p.r x = anc p.L p.r k) (fun x => x) k rfl
      ⟨⟨_, rfl, conv_nI (rfl)⟩, ⟨_, rfl, conv_nI (rfl)⟩, ⟨_, rfl, conv_eq rfl (nn _)⟩, ⟨_, rfl, .ptr rfl⟩, ⟨_, rfl, .same rfl⟩, trivial⟩ ⟨.inr ⟨_, _, rfl, rfl, .same (by rw [eb]; exact n1)⟩, trivial⟩ ⟨Nat.le_refl _, rfl⟩ ?_
    rintro x ⟨hx, ha⟩
    try dsimp only at hx ha ⊢
    refine wpv_ok Γok (by kernel_rfl) _ _ _ ?_; conv => whnf
    refine bool_cases (fun hc => ?_) (fun hc => ?_)
    · have hc := of_decide_eq_true hc
      have hc : p.r < x := by omega
      have hl : x < p.L.length := by omega
      have st := anc_step ok.bls hl hc
      have pl := parN_lt ok.bls hl (by omega)
      have pe := parN_eq hl
      have pp := ok.bls.par x hl (by omega)
      conv => whnf
      try (refine ⟨by kernel_rfl, ?_⟩; conv => whnf)
      refine bindP_intro (if_pos (inB_ok (by omega) (by omega))) ?_; conv => whnf
      refine bindP_intro (bl_par (i := x) (by dsimp only; omega) hl) ?_
      conv => whnf
      try (refine ⟨by kernel_rfl, ?_⟩; conv => whnf)
      refine next_round (y := x) G0ok (parN p.L x) [(0, some 0)] rfl ⟨⟨_, rfl, conv_nI (by omega)⟩, ⟨_, rfl, conv_nI (rfl)⟩, ⟨_, rfl, conv_eq rfl (nn _)⟩, ⟨_, rfl, .ptr rfl⟩, ⟨_, rfl, .same rfl⟩, trivial⟩ ⟨.inr ⟨_, _, rfl, rfl, .same (by rw [eb]; exact n1)⟩, trivial⟩ ⟨by omega, by rw [← st]; exact ha⟩ pl
    · have hc := of_decide_eq_false hc
      have st : anc p.L p.r x = x := anc_stop (by omega)
      rw [st] at ha
      conv => whnf
      try (refine ⟨by kernel_rfl, ?_⟩; conv => whnf)
      rw [show (((x : Nat) : Int) != (p.r : Int)) = !decide (x = p.r) from congrArg (!·) (beq_lit x p.r)]
      by_cases hr : x = p.r
      · rw [decide_eq_true hr]
        have hh := ib.high k hk2 (show anc p.L p.r k = p.r by rw [← ha, hr])
        conv => whnf
        try (refine ⟨by kernel_rfl, ?_⟩; conv => whnf)
        refine bindP_intro (if_pos (inB_ok (by omega) (by omega))) ?_; conv => whnf
        refine bindP_intro (bl_h (i := k) (by dsimp only; omega) hk2) ?_
        conv => whnf
        try (refine ⟨by kernel_rfl, ?_⟩; conv => whnf)
        rw [decide_eq_true (show ((p.L[k].h : Nat) : Int) < ((P.length : Nat) : Int) by omega)]
        conv => whnf
        try (refine ⟨by kernel_rfl, ?_⟩; conv => whnf)
        exact ⟨_, rfl, rfl⟩
      · rw [decide_eq_false hr]
        conv => whnf
        try (refine ⟨by kernel_rfl, ?_⟩; conv => whnf)
        exact ⟨_, rfl, rfl⟩
namespace lawLineHighest
set_option linter.unusedVariables false
set_option maxRecDepth 100000 in
theorem lifted (os : Os) (started : os.Started) (H : Type) (enc : TypeId × Value → H) :
    ReturnsInHanded {} Try.checked os 8 .any (Rows.lineHighestSpec.pre6 enc Try.prog Try.f8 Rows.lineHighestRow.domain false) (Rows.lineHighestSpec.post enc Try.prog Try.f8 false true false false) := by
  refine returnsInHanded_of_change (C := Try.checked) rowOwn started (by kernel_rfl) Try.func8
    (ChangeSpec.witness6 (enc := enc) (C := Try.checked) false ⟨#[], #[.slice none 0 0, .int .i64 0], []⟩ 8 (by kernel_rfl) (by kernel_rfl) (by kernel_rfl) (by kernel_rfl)) ?_
  intro W base args ds gs before hval0 hW hcnd _
  have hval : ∀ (j : Nat) t v, Try.f8.params[j]? = some t → args[j]? = some v → Value.okWide Try.prog W .any base t v := hval0
  have hW' := hW
  obtain ⟨p, q, hA0, hV, rfl, hfz, hnd⟩ := hW
  have hA : DataW.TrodAll enc Try.prog W 0 (fun _ => true) true Try.f8.params.toList args.toList ds p := hA0
  rw [Try.params8] at hA hval
  obtain ⟨v0, vs0, d0, ds0, p0, q0, hargs, rfl, rfl, h0, r0⟩ := trodAll_cons hA
  obtain ⟨v1, vs1, d1, ds1, p1, q1, rfl, rfl, rfl, h1, r1⟩ := trodAll_cons r0
  obtain ⟨rfl, rfl, rfl⟩ := trodAll_nil r1
  obtain rfl : args = #[v0, v1] := by cases args; simp_all
  obtain ⟨rfl, rfl⟩ := trodVars_none hV
  have k0 := h0
  have lt0 : ∀ x ∈ p0, x.block < W.heap.size := by obtain ⟨m, hm⟩ := k0; exact DataW.trod_lt m _ _ _ hm
  obtain ⟨a0, l0, w0, u0⟩ := raws_open (hval 0 22 v0 rfl rfl) h0
  obtain ⟨a1, rfl, rfl, rfl, w1⟩ := open_int Try.underlying3 (hval 1 3 v1 rfl rfl) h1
  clear hA0 hval0
  refine (calls_of_fn Try.func8 (by kernel_rfl) rfl (fnLineHighest a0 a1 l0 w0 (bounds_i64 w1)) (fun _ _ h => by cases h) (VRs.cons u0 (VRs.cons rfl VRs.snoc_nil))).mono fun e W' ⟨he, bel⟩ => ?_
  subst he
  exact ⟨_, rfl, _, _, _, [], _, [], hW', trodAll_mk1 (shut_bool Try.underlying4 _), (trodAll_cons_mk (Below.trod rowLaid (by kernel_rfl) (of_decide_eq_true (by kernel_rfl)) k0 bel lt0) (trodAll_cons_mk (shut_int Try.underlying3 w1) trodAll_mk0)), rfl, bel.frame _, fun h => by cases h⟩
theorem over : Rows.lineHighestRow.holds Try.pinned (OpenSpec.ofChange Rows.lineHighestSpec) :=
  OpenClaim.holds_of_wide 8 Try.f8 rfl rfl rfl rfl rfl rfl rfl ⟨rfl, rfl, rfl, rfl, rfl⟩ rfl rfl rfl rfl rfl (by kernel_rfl) Try.func8 (by kernel_rfl)
    (of_decide_eq_true (by kernel_rfl)) (by unfold Func.isWrapper; first | (rw [if_pos (by decide +kernel)]; kernel_rfl) | (rw [if_neg (by decide +kernel)]; exact ⟨rfl, rfl⟩))
    (fun os started H enc _ => lifted os started H enc)
theorem proved : Rows.LineHighestSaid := over
end lawLineHighest

end Go.Proofs.Ytlecdiopokalgaa
