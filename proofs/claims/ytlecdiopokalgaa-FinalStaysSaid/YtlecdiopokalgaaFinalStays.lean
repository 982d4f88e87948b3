/- FinalStays: what stands for good stands, whatever grows and settles later; the best line begins with it. -/
import Derived.Test.YtlecdiopokalgaaBUd
import Derived.Test.YtlecdiopokalgaaBUc
namespace Go.Proofs.Ytlecdiopokalgaa
set_option linter.unusedVariables false
set_option linter.unusedSimpArgs false
set_option linter.unusedSectionVars false
open Go.ChangeShapes Go.WideShapes Go.ChangeAt Go.RowKit Go.Joins
set_option maxRecDepth 10000
theorem begins_fn {A B : List Nat} (h : A <+: B) (hB : B.length ≤ 1000) : FnV Try.prog G0 28 [.ds false A.length (natsC A), .ds false B.length (natsC B)] (bI true) := by
  have hl := h.length_le
  have nA := natsC_noHs A
  have nB' := natsC_noHs B
  have eq : ∀ (i : Nat) (hi : i < A.length), B[i] = A[i] := fun i hi => (List.IsPrefix.getElem h hi).symm
  refine fn_of_vwp Γok Try.func28 (by kernel_rfl) rfl (by simp [Try.ntmps28]) (wpv_ok Γok (by kernel_rfl) _ _ _ ?_); conv => whnf
  rw [decide_eq_false (show ¬ ((A.length : Nat) : Int) > ((B.length : Nat) : Int) by omega)]
  conv => whnf
  try (refine ⟨by kernel_rfl, ?_⟩; conv => whnf)
  refine vloop_invK G0ok [] 0 (X := Nat) (fun i => [(13, nI .i64 i), (12, nI .i64 A.length), (11, .ds false A.length (natsC A)), (4, bI false), (0, .ds false A.length (natsC A)), (1, .ds false B.length (natsC B))]) (fun _ => []) (fun i => i ≤ A.length) (fun i => A.length - i) 0 rfl
    ⟨⟨_, rfl, conv_nI (rfl)⟩, ⟨_, rfl, conv_nI (rfl)⟩, ⟨_, rfl, conv_eq rfl (nA)⟩, ⟨_, rfl, .same rfl⟩, ⟨_, rfl, conv_eq rfl (nA)⟩, ⟨_, rfl, conv_eq rfl (nB')⟩, trivial⟩ trivial (Nat.zero_le _) ?_
  intro i hi
  try dsimp only at hi ⊢
  refine wpv_ok Γok (by kernel_rfl) _ _ _ ?_; conv => whnf
  refine bool_cases (fun hc => ?_) (fun hc => ?_)
  · have hc := of_decide_eq_true hc
    have hc : i < A.length := by omega
    have q := eq i hc
    conv => whnf
    try (refine ⟨by kernel_rfl, ?_⟩; conv => whnf)
    refine bindP_intro (if_pos (inB_ok (by omega) (by omega))) ?_; conv => whnf
    refine bindP_intro (natsC_ix (i := i) (by dsimp only; omega) hc) ?_
    conv => whnf
    try (refine ⟨by kernel_rfl, ?_⟩; conv => whnf)
    refine bindP_intro (if_pos (inB_ok (by omega) (by omega))) ?_; conv => whnf
    refine bindP_intro (natsC_ix (i := i) (by dsimp only; omega) (by omega)) ?_
    conv => whnf
    try (refine ⟨by kernel_rfl, ?_⟩; conv => whnf)
    rw [q, show (((A[i] : Nat) : Int) != ((A[i] : Nat) : Int)) = false from bne_self_eq_false _]
    conv => whnf
    try (refine ⟨by kernel_rfl, ?_⟩; conv => whnf)
    refine next_round (y := i) G0ok (i + 1) [] rfl ⟨⟨_, rfl, conv_nI (ws_i64 (by omega) (by omega))⟩, ⟨_, rfl, conv_nI (rfl)⟩, ⟨_, rfl, conv_eq rfl (nA)⟩, ⟨_, rfl, .same rfl⟩, ⟨_, rfl, conv_eq rfl (nA)⟩, ⟨_, rfl, conv_eq rfl (nB')⟩, trivial⟩ trivial (by omega) (by omega)
  · conv => whnf
    try (refine ⟨by kernel_rfl, ?_⟩; conv => whnf)
    exact ⟨_, rfl, rfl⟩
theorem fnFinalStays (l m : List RawD) (hl : l.length ≤ maxLen) (hok : ∀ r ∈ l, r.ok) (hm : m.length ≤ maxLen) (hokm : ∀ r ∈ m, r.ok) : FnV Try.prog G0 7 [.ds false l.length (rawsC l), .ds false m.length (rawsC m)] (bI true) := by
  have gr := grown_fn (most := 20) (by decide) hl hok _ rfl
  obtain ⟨ok0, ln0⟩ := treL_ok (l := l.take 20) (by rw [List.length_take]; omega)
  have t20 : (l.take 20).length ≤ 20 := by rw [List.length_take]; omega
  refine gen_ex (treL (l.take 20)) fun p0 ep => ?_
  rw [← ep] at gr ok0 ln0
  clear ep
  have l21 : p0.L.length ≤ 21 := by omega
  clear ln0 t20
  obtain ⟨f', so⟩ := some_fn false m 12 hm (by decide)
  have e' : m.take 12 = m.take 12 := rfl
  have hl' : (m.take 12).length ≤ 12 := by rw [List.length_take]; omega
  have hok' : ∀ r ∈ m.take 12, r.ok := fun r hr => hokm r (List.mem_of_mem_take hr)
  refine gen_ex (m.take 12) fun l' el' => ?_
  rw [← el'] at so hl' hok'
  clear el' e'
  have nR : noHs (rawsC l) = true := rawsC_noHs _
  have nM : noHs (rawsC m) = true := rawsC_noHs _
  have nR' : noHs (rawsC l') = true := rawsC_noHs _
  have n0 := treV_noH p0
  have nq0 := @rows_noHs _ _ blD_noHs
  have nn := natsC_noHs
  have lw := fline_fn (f := false) (o := true) ok0.bls ok0.fin rfl
  rw [cond_true] at lw
  have pl0 := path_len ok0.bls _ p0.r ok0.fin (Nat.le_refl _)
  unfold TreS.v treeV at gr n0
  unfold treeV at lw
  refine fn_of_vwp Γok Try.func7 (by kernel_rfl) rfl (by simp [Try.ntmps7]) (wpv_ok Γok (by kernel_rfl) _ _ _ ?_); conv => whnf
  refine ⟨_, ret_of_fn G0ok (gr) (by first | rfl | simp only [noHs, noH, nI, bI, Bool.and_self, Bool.and_true, Bool.true_and, nR, nq0]) (by first | rfl | simp only [noHs, noH, nI, bI, Bool.and_self, Bool.and_true, Bool.true_and, nR, nq0]), ?_⟩; (conv => whnf); (try (refine ⟨by kernel_rfl, ?_⟩; conv => whnf))
  refine ⟨_, ret_of_fn G0ok (lw) (by first | rfl | simp only [noHs, noH, nI, bI, Bool.and_self, Bool.and_true, Bool.true_and, nn, nq0]) (by first | rfl | simp only [noHs, noH, nI, bI, Bool.and_self, Bool.and_true, Bool.true_and, nn, nq0]), ?_⟩; (conv => whnf); (try (refine ⟨by kernel_rfl, ?_⟩; conv => whnf))
  refine ⟨_, ret_of_fn G0ok (so) (by first | rfl | simp only [noHs, noH, nI, bI, Bool.and_self, Bool.and_true, Bool.true_and, nM, nR']) (by first | rfl | simp only [noHs, noH, nI, bI, Bool.and_self, Bool.and_true, Bool.true_and, nM, nR']), ?_⟩; (conv => whnf); (try (refine ⟨by kernel_rfl, ?_⟩; conv => whnf))
  refine vloop_invK G0ok [(0, some 0)] 1 (X := Nat) (fun i => [(26, nI .i64 i), (25, nI .i64 l'.length), (24, .ds f' l'.length (rawsC l')), (5, .ptr 0 0), (6, .ds false (path p0.L p0.r).length (natsC (path p0.L p0.r))), (7, nI .i64 0), (4, bI false)]) (fun i => [(0, some [.ds false (treF 3 9 p0 l' i).L.length (rows BlD.cells (treF 3 9 p0 l' i).L), nI .i64 (treF 3 9 p0 l' i).b, nI .i64 (treF 3 9 p0 l' i).r])])
    (fun i => i ≤ l'.length) (fun i => l'.length - i) 0 rfl ⟨⟨_, rfl, conv_nI (rfl)⟩, ⟨_, rfl, conv_nI (rfl)⟩, ⟨_, rfl, conv_eq rfl (nR')⟩, ⟨_, rfl, .ptr rfl⟩, ⟨_, rfl, conv_eq rfl (nn _)⟩, ⟨_, rfl, conv_nI (rfl)⟩, ⟨_, rfl, .same rfl⟩, trivial⟩ ⟨.inr ⟨_, _, rfl, rfl, .same (n0)⟩, trivial⟩ (Nat.zero_le _) ?_
  intro i hi
  dsimp only at hi ⊢
  refine wpv_ok Γok (by kernel_rfl) _ _ _ ?_; conv => whnf
  obtain ⟨ok, ln, _⟩ := treF_to (m := 3) (q := 9) ok0 l' (by omega) i hi
  refine bool_cases (fun hc => ?_) (fun hc => ?_)
  · have hc := of_decide_eq_true hc
    have hc : i < l'.length := by omega
    have nx := treF_next (m := 3) (q := 9) (p := p0) hc
    have rok := hok' _ (List.getElem_mem hc)
    conv => whnf
    try (refine ⟨by kernel_rfl, ?_⟩; conv => whnf)
    refine bindP_intro (if_pos (inB_ok (by omega) (by omega))) ?_; conv => whnf
    refine bindP_intro (raw_load (i := i) rfl rfl rfl (by dsimp only; omega) hc) ?_
    refine gen_ex l'[i] fun r er => ?_
    rw [← er] at nx rok ⊢
    clear er
    refine gen_ex (treF 3 9 p0 l' (i + 1)) fun q eq => ?_
    rw [← eq] at nx
    refine gen_ex (treF 3 9 p0 l' i) fun p ep => ?_
    rw [← ep] at nx ok ln ⊢
    have n1 := treV_noH p
    have lp := ok.bls.some
    unfold TreS.v treeV at n1
    unfold RawD.v RawD.cells
    conv => whnf
    try (refine ⟨by kernel_rfl, ?_⟩; conv => whnf)
    rw [if_neg (show ¬ (1 : Int) > (p.L.length : Int) by omega)]
    refine ⟨_, ret_of_fn G0ok (picked_fn r.a p.L.length (by omega) (by omega)) (by first | rfl | simp only [noHs, noH, nI, bI, Bool.and_self, Bool.and_true, Bool.true_and, ]) (by first | rfl | simp only [noHs, noH, nI, bI, Bool.and_self, Bool.and_true, Bool.true_and, ]), ?_⟩; (conv => whnf); (try (refine ⟨by kernel_rfl, ?_⟩; conv => whnf))
    obtain ⟨k, hk⟩ : ∃ k : Nat, r.a % (p.L.length : Int) = (k : Int) := ⟨(r.a % (p.L.length : Int)).toNat, by have := Int.emod_nonneg r.a (show (p.L.length : Int) ≠ 0 by omega); omega⟩
    have hk2 : k < p.L.length := by have := Int.emod_lt_of_pos r.a (show (0 : Int) < (p.L.length : Int) by omega); omega
    obtain ⟨x, hx⟩ : ∃ x : Nat, r.b % (9 : Int) = (x : Int) := ⟨(r.b % (9 : Int)).toNat, by have := Int.emod_nonneg r.b (show (9 : Int) ≠ 0 by omega); omega⟩
    obtain ⟨f1, q1, b1, e, gf, eb, g1, g2⟩ := fgrow_all ok (show p.L.length < 40 by omega) hk2
    obtain ⟨f2, q2, b2, e', sf, eb', s1, s2⟩ := fsettle_all ok x
    have hk3 : (r.a % (p.L.length : Int)).toNat = k := by omega
    have hx3 : (r.b % (9 : Int)).toNat = x := by omega
    unfold treG at nx
    rw [hk3, hx3] at nx
    rw [hk]
    have nq := @rows_noHs _ _ blD_noHs
    unfold TreS.v treeV at gf sf
    refine ⟨_, ret_of_fn G0ok (gf) (by first | rfl | simp only [noHs, noH, nI, bI, Bool.and_self, Bool.and_true, Bool.true_and, nq]) (by first | rfl | simp only [noHs, noH, nI, bI, Bool.and_self, Bool.and_true, Bool.true_and, nq]), ?_⟩; (conv => whnf); (try (refine ⟨by kernel_rfl, ?_⟩; conv => whnf))
    refine ⟨_, ret_of_fn G0ok (picked_fn r.k 3 (by decide) (by decide)) (by first | rfl | simp only [noHs, noH, nI, bI, Bool.and_self, Bool.and_true, Bool.true_and, ]) (by first | rfl | simp only [noHs, noH, nI, bI, Bool.and_self, Bool.and_true, Bool.true_and, ]), ?_⟩; (conv => whnf); (try (refine ⟨by kernel_rfl, ?_⟩; conv => whnf))
    by_cases hz : r.k % 3 = 0
    · rw [show (r.k % 3 == 0) = true from by rw [hz]; rfl]
      rw [if_pos hz] at nx
      conv => whnf
      try (refine ⟨by kernel_rfl, ?_⟩; conv => whnf)
      refine ⟨_, ret_of_fn G0ok (picked_fn r.b 9 (by decide) (by decide)) (by first | rfl | simp only [noHs, noH, nI, bI, Bool.and_self, Bool.and_true, Bool.true_and, ]) (by first | rfl | simp only [noHs, noH, nI, bI, Bool.and_self, Bool.and_true, Bool.true_and, ]), ?_⟩; (conv => whnf); (try (refine ⟨by kernel_rfl, ?_⟩; conv => whnf))
      rw [hx]
      refine ⟨_, ret_of_fn G0ok (sf) (by first | rfl | simp only [noHs, noH, nI, bI, Bool.and_self, Bool.and_true, Bool.true_and, nq]) (by first | rfl | simp only [noHs, noH, nI, bI, Bool.and_self, Bool.and_true, Bool.true_and, nq]), ?_⟩; (conv => whnf); (try (refine ⟨by kernel_rfl, ?_⟩; conv => whnf))
      by_cases h0 : e' = 0
      · rw [show (((e' : Nat) : Int) == 0) = true from by rw [h0]; rfl]
        obtain ⟨ef, e2, e3⟩ := s1 h0
        rw [← e2] at nx
        subst eq nx
        subst ef e3
        conv => whnf
        try (refine ⟨by kernel_rfl, ?_⟩; conv => whnf)
        refine next_round (y := i) G0ok (i + 1) [(0, some 0)] rfl ⟨⟨_, rfl, conv_nI (ws_i64 (by omega) (by omega))⟩, ⟨_, rfl, conv_nI (rfl)⟩, ⟨_, rfl, conv_eq rfl (nR')⟩, ⟨_, rfl, .ptr rfl⟩, ⟨_, rfl, conv_eq rfl (nn _)⟩, ⟨_, rfl, conv_nI (rfl)⟩, ⟨_, rfl, .same rfl⟩, trivial⟩ ⟨.inr ⟨_, _, rfl, rfl, .same (treV_noH _)⟩, trivial⟩ (by omega) (by omega)
      · rw [show (((e' : Nat) : Int) == 0) = false from (beq_lit e' 0).trans (decide_eq_false h0)]
        rw [s2 h0] at nx
        subst eq nx
        conv => whnf
        try (refine ⟨by kernel_rfl, ?_⟩; conv => whnf)
        refine next_round (y := i) G0ok (i + 1) [(0, some 0)] rfl ⟨⟨_, rfl, conv_nI (ws_i64 (by omega) (by omega))⟩, ⟨_, rfl, conv_nI (rfl)⟩, ⟨_, rfl, conv_eq rfl (nR')⟩, ⟨_, rfl, .ptr rfl⟩, ⟨_, rfl, conv_eq rfl (nn _)⟩, ⟨_, rfl, conv_nI (rfl)⟩, ⟨_, rfl, .same rfl⟩, trivial⟩ ⟨.inr ⟨_, _, rfl, rfl, .same (treV_noH _)⟩, trivial⟩ (by omega) (by omega)
    · rw [show (r.k % 3 == 0) = false from beq_false_of_ne hz]
      rw [if_neg hz] at nx
      conv => whnf
      try (refine ⟨by kernel_rfl, ?_⟩; conv => whnf)
      by_cases h0 : e = 0
      · rw [show (((e : Nat) : Int) == 0) = true from by rw [h0]; rfl]
        obtain ⟨ef, e2, e3, _⟩ := g1 h0
        rw [← e2] at nx
        subst eq nx
        subst ef e3
        conv => whnf
        try (refine ⟨by kernel_rfl, ?_⟩; conv => whnf)
        refine next_round (y := i) G0ok (i + 1) [(0, some 0)] rfl ⟨⟨_, rfl, conv_nI (ws_i64 (by omega) (by omega))⟩, ⟨_, rfl, conv_nI (rfl)⟩, ⟨_, rfl, conv_eq rfl (nR')⟩, ⟨_, rfl, .ptr rfl⟩, ⟨_, rfl, conv_eq rfl (nn _)⟩, ⟨_, rfl, conv_nI (rfl)⟩, ⟨_, rfl, .same rfl⟩, trivial⟩ ⟨.inr ⟨_, _, rfl, rfl, .same (treV_noH _)⟩, trivial⟩ (by omega) (by omega)
      · rw [show (((e : Nat) : Int) == 0) = false from (beq_lit e 0).trans (decide_eq_false h0)]
        rw [(g2 h0).1] at nx
        subst eq nx
        conv => whnf
        try (refine ⟨by kernel_rfl, ?_⟩; conv => whnf)
        refine next_round (y := i) G0ok (i + 1) [(0, some 0)] rfl ⟨⟨_, rfl, conv_nI (ws_i64 (by omega) (by omega))⟩, ⟨_, rfl, conv_nI (rfl)⟩, ⟨_, rfl, conv_eq rfl (nR')⟩, ⟨_, rfl, .ptr rfl⟩, ⟨_, rfl, conv_eq rfl (nn _)⟩, ⟨_, rfl, conv_nI (rfl)⟩, ⟨_, rfl, .same rfl⟩, trivial⟩ ⟨.inr ⟨_, _, rfl, rfl, .same (treV_noH _)⟩, trivial⟩ (by omega) (by omega)
  · have hc := of_decide_eq_false hc
    have e : i = l'.length := by omega
    subst e
    obtain ⟨ok, ln, pr⟩ := treF_to (m := 3) (q := 9) ok0 l' (by omega) l'.length (Nat.le_refl _)
    refine gen_ex (treF 3 9 p0 l' l'.length) fun p ep => ?_
    rw [← ep] at ok ln pr ⊢
    have nq := @rows_noHs _ _ blD_noHs
    have bst := ok.best
    have fin := ok.fin
    have fl := path_len ok.bls _ p.r fin (Nat.le_refl _)
    have bl := path_len ok.bls _ p.b bst (Nat.le_refl _)
    have lb := fline_fn (f := false) (o := false) ok.bls fin rfl
    have lf := fline_fn (f := false) (o := true) ok.bls fin rfl
    rw [cond_false] at lb
    rw [cond_true] at lf
    have ck := fcheck_fn (f := false) ok.bls fin rfl
    have fh := bl_hle ok.bls _ p.r fin (Nat.le_refl _)
    have bh := bl_hle ok.bls _ p.b bst (Nat.le_refl _)
    have b1 := begins_fn pr (by omega)
    have b2 := begins_fn (A := path p.L p.r) (B := path p.L p.b) ((abv_iff ok.bls fin bst).1 (bestN_best ok.bls fin bst).abv) (by omega)
    unfold treeV at lb lf ck
    conv => whnf
    try (refine ⟨by kernel_rfl, ?_⟩; conv => whnf)
    refine ⟨_, ret_of_fn G0ok (lf) (by first | rfl | simp only [noHs, noH, nI, bI, Bool.and_self, Bool.and_true, Bool.true_and, nq, nn]) (by first | rfl | simp only [noHs, noH, nI, bI, Bool.and_self, Bool.and_true, Bool.true_and, nq, nn]), ?_⟩; (conv => whnf); (try (refine ⟨by kernel_rfl, ?_⟩; conv => whnf))
    refine ⟨_, ret_of_fn G0ok (lb) (by first | rfl | simp only [noHs, noH, nI, bI, Bool.and_self, Bool.and_true, Bool.true_and, nq, nn]) (by first | rfl | simp only [noHs, noH, nI, bI, Bool.and_self, Bool.and_true, Bool.true_and, nq, nn]), ?_⟩; (conv => whnf); (try (refine ⟨by kernel_rfl, ?_⟩; conv => whnf))
    rw [decide_eq_true (show (((path p0.L p0.r).length : Nat) : Int) > 0 by omega)]
    conv => whnf
    try (refine ⟨by kernel_rfl, ?_⟩; conv => whnf)
    refine ⟨_, ret_of_fn G0ok (ck) (by first | rfl | simp only [noHs, noH, nI, bI, Bool.and_self, Bool.and_true, Bool.true_and, nq, nn]) (by first | rfl | simp only [noHs, noH, nI, bI, Bool.and_self, Bool.and_true, Bool.true_and, nq, nn]), ?_⟩; (conv => whnf); (try (refine ⟨by kernel_rfl, ?_⟩; conv => whnf))
    refine ⟨_, ret_of_fn G0ok (b1) (by first | rfl | simp only [noHs, noH, nI, bI, Bool.and_self, Bool.and_true, Bool.true_and, nq, nn]) (by first | rfl | simp only [noHs, noH, nI, bI, Bool.and_self, Bool.and_true, Bool.true_and, nq, nn]), ?_⟩; (conv => whnf); (try (refine ⟨by kernel_rfl, ?_⟩; conv => whnf))
    refine ⟨_, ret_of_fn G0ok (b2) (by first | rfl | simp only [noHs, noH, nI, bI, Bool.and_self, Bool.and_true, Bool.true_and, nq, nn]) (by first | rfl | simp only [noHs, noH, nI, bI, Bool.and_self, Bool.and_true, Bool.true_and, nq, nn]), ?_⟩; (conv => whnf); (try (refine ⟨by kernel_rfl, ?_⟩; conv => whnf))
    exact ⟨_, rfl, rfl⟩
namespace lawFinalStays
set_option linter.unusedVariables false
set_option maxRecDepth 100000 in
theorem lifted (os : Os) (started : os.Started) (H : Type) (enc : TypeId × Value → H) :
    ReturnsInHanded {} Try.checked os 7 .any (Rows.finalStaysSpec.pre6 enc Try.prog Try.f7 Rows.finalStaysRow.domain false) (Rows.finalStaysSpec.post enc Try.prog Try.f7 false true false false) := by
  refine returnsInHanded_of_change (C := Try.checked) rowOwn started (by kernel_rfl) Try.func7
    (ChangeSpec.witness6 (enc := enc) (C := Try.checked) false ⟨#[], #[.slice none 0 0, .slice none 0 0], []⟩ 8 (by kernel_rfl) (by kernel_rfl) (by kernel_rfl) (by kernel_rfl)) ?_
  intro W base args ds gs before hval0 hW hcnd _
  have hval : ∀ (j : Nat) t v, Try.f7.params[j]? = some t → args[j]? = some v → Value.okWide Try.prog W .any base t v := hval0
  have hW' := hW
  obtain ⟨p, q, hA0, hV, rfl, hfz, hnd⟩ := hW
  have hA : DataW.TrodAll enc Try.prog W 0 (fun _ => true) true Try.f7.params.toList args.toList ds p := hA0
  rw [Try.params7] at hA hval
  obtain ⟨v0, vs0, d0, ds0, p0, q0, hargs, rfl, rfl, h0, r0⟩ := trodAll_cons hA
  obtain ⟨v1, vs1, d1, ds1, p1, q1, rfl, rfl, rfl, h1, r1⟩ := trodAll_cons r0
  obtain ⟨rfl, rfl, rfl⟩ := trodAll_nil r1
  obtain rfl : args = #[v0, v1] := by cases args; simp_all
  obtain ⟨rfl, rfl⟩ := trodVars_none hV
  have k0 := h0
  have lt0 : ∀ x ∈ p0, x.block < W.heap.size := by obtain ⟨m, hm⟩ := k0; exact DataW.trod_lt m _ _ _ hm
  obtain ⟨a0, l0, w0, u0⟩ := raws_open (hval 0 22 v0 rfl rfl) h0
  have k1 := h1
  have lt1 : ∀ x ∈ p1, x.block < W.heap.size := by obtain ⟨m, hm⟩ := k1; exact DataW.trod_lt m _ _ _ hm
  obtain ⟨a1, l1, w1, u1⟩ := raws_open (hval 1 22 v1 rfl rfl) h1
  clear hA0 hval0
  refine (calls_of_fn Try.func7 (by kernel_rfl) rfl (fnFinalStays a0 a1 l0 w0 l1 w1) (fun _ _ h => by cases h) (VRs.cons u0 (VRs.cons u1 VRs.snoc_nil))).mono fun e W' ⟨he, bel⟩ => ?_
  subst he
  exact ⟨_, rfl, _, _, _, [], _, [], hW', trodAll_mk1 (shut_bool Try.underlying4 _), (trodAll_cons_mk (Below.trod rowLaid (by kernel_rfl) (of_decide_eq_true (by kernel_rfl)) k0 bel lt0) (trodAll_cons_mk (Below.trod rowLaid (by kernel_rfl) (of_decide_eq_true (by kernel_rfl)) k1 bel lt1) trodAll_mk0)), rfl, bel.frame _, fun h => by cases h⟩
theorem over : Rows.finalStaysRow.holds Try.pinned (OpenSpec.ofChange Rows.finalStaysSpec) :=
  OpenClaim.holds_of_wide 7 Try.f7 rfl rfl rfl rfl rfl rfl rfl ⟨rfl, rfl, rfl, rfl, rfl⟩ rfl rfl rfl rfl rfl (by kernel_rfl) Try.func7 (by kernel_rfl)
    (of_decide_eq_true (by kernel_rfl)) (by unfold Func.isWrapper; first | (rw [if_pos (by decide +kernel)]; kernel_rfl) | (rw [if_neg (by decide +kernel)]; exact ⟨rfl, rfl⟩))
    (fun os started H enc _ => lifted os started H enc)
theorem proved : Rows.FinalStaysSaid := over
end lawFinalStays

end Go.Proofs.Ytlecdiopokalgaa
