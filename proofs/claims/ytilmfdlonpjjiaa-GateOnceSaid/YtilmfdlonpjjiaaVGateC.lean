/- gate.Check, fresh, by the engine. -/
import Derived.Test.YtilmfdlonpjjiaaVGate
import Derived.Test.YtilmfdlonpjjiaaBUb
namespace Go.Proofs.Ytilmfdlonpjjiaa
set_option linter.unusedVariables false
set_option linter.unusedSimpArgs false
set_option linter.unusedSectionVars false
open Go.ChangeShapes Go.WideShapes Go.ChangeAt Go.RowKit Go.Joins
set_option maxRecDepth 10000
/-- Several ways that meet at a loop. -/
theorem join_loop {P : Program} {G : Globs} {K : Nat} {x : Code} {Q : Exit → VS → Prop} {X : Type} (inv : X → VS) {R : Prop} (rest : (∀ y, VLoop P G K x Q (inv y)) → R) (key : ∀ y, VLoop P G K x Q (inv y)) : R := rest key
theorem meet {P : Program} {G : Globs} {K : Nat} {x : Code} {Q : Exit → VS → Prop} {T' : List (Nat × VV)} {sz : Nat} {H' : List (Nat × Option (List VV))} {n' : Nat} (h : VLoop P G K x Q ⟨T', sz, H', n'⟩) (hG : GOk G) (ren : List (Nat × Option Nat)) {T : List (Nat × VV)} {H : List (Nat × Option (List VV))} {n : Nat}
    (hok : renOk ren n' = true) (hT : convT ren (frz ren H) T T') (hH : convH ren (frz ren H) H H') (hK : anchOk K ren = true := by rfl) : VLoop P G K x Q ⟨T, sz, H, n⟩ := vloop_clean hG ren n' T' H' hok hT hH h hK
def limTo (g : GtD) : Nat → Bool
  | 0 => decide (g.now ≥ 0) && decide (g.now ≤ 1099511627776)
  | i + 1 => limTo g i && (valB (g.lim i) && valB (g.big i))
def qOk (now : Int) (q : QD) : Bool := valB q.v && (decide (q.ch ≥ 0) && (decide (q.ch < 3) && (decide (q.t ≥ 0) && decide (q.t ≤ now))))
def difTo (L : List QD) (x : QD) : Nat → Bool
  | 0 => true
  | j + 1 => difTo L x j && decide (x.id ≠ (L.getD j qz).id)
def rowsOk (g : GtD) (L : List QD) : Nat → Bool
  | 0 => limTo g 3
  | i + 1 => (rowsOk g L i && qOk g.now (L.getD i qz)) && difTo L (L.getD i qz) i
noncomputable def chkGt (g : GtD) : Nat := if 40 < g.past.length ∨ 40 < g.queue.length then 1 else if rowsOk g (g.past ++ g.queue) (g.past ++ g.queue).length = true then 0 else 12
theorem bne_dec (a b : Int) : (a != b) = decide (a ≠ b) := by
  by_cases h : a = b
  · subst h; simp
  · simp [h]
theorem gcheck_fn {fp fq : Bool} {g : GtD} : FnV Try.prog G0 20 [.agg (g.cells fp fq)] (nI .i64 (chkGt g)) := by
  have nP := rowsQ_noHs g.past
  have nQ := rowsQ_noHs g.queue
  have nG := gtd_noHs fp fq g
  unfold chkGt
  unfold GtD.cells at *
  by_cases s1 : 40 < g.past.length
  · rw [if_pos (.inl s1)]
    refine fn_of_vwp Γok Try.func20 (by kernel_rfl) rfl (by simp [Try.ntmps20]) (wpv_ok Γok (by kernel_rfl) _ _ _ ?_); conv => whnf
    rw [decide_eq_true (show ((g.past.length : Nat) : Int) > 40 by omega)]
    conv => whnf
    try (refine ⟨by kernel_rfl, ?_⟩; conv => whnf)
    exact ⟨_, rfl, rfl⟩
  by_cases s2 : 40 < g.queue.length
  · rw [if_pos (.inr s2)]
    refine fn_of_vwp Γok Try.func20 (by kernel_rfl) rfl (by simp [Try.ntmps20]) (wpv_ok Γok (by kernel_rfl) _ _ _ ?_); conv => whnf
    rw [decide_eq_false (show ¬ ((g.past.length : Nat) : Int) > 40 by omega)]
    conv => whnf
    try (refine ⟨by kernel_rfl, ?_⟩; conv => whnf)
    rw [decide_eq_true (show ((g.queue.length : Nat) : Int) > 40 by omega)]
    conv => whnf
    try (refine ⟨by kernel_rfl, ?_⟩; conv => whnf)
    exact ⟨_, rfl, rfl⟩
  rw [if_neg (by omega)]
  refine fn_of_vwp Γok Try.func20 (by kernel_rfl) rfl (by simp [Try.ntmps20]) (wpv_ok Γok (by kernel_rfl) _ _ _ ?_); conv => whnf
  rw [decide_eq_false (show ¬ ((g.past.length : Nat) : Int) > 40 by omega)]
  conv => whnf
  try (refine ⟨by kernel_rfl, ?_⟩; conv => whnf)
  rw [decide_eq_false (show ¬ ((g.queue.length : Nat) : Int) > 40 by omega)]
  conv => whnf
  try (refine ⟨by kernel_rfl, ?_⟩; conv => whnf)
  have e0 : ∀ (h0 : g.now ≥ 0), bI (decide (g.now ≤ 1099511627776)) = bI (limTo g 0) := fun h0 => by unfold limTo; rw [decide_eq_true h0]; rfl
  have e1 : ¬ g.now ≥ 0 → bI false = bI (limTo g 0) := fun h0 => by unfold limTo; rw [decide_eq_false h0]; rfl
  refine join_loop (P := Try.prog) (G := G0) (x := ?x1) (Q := ?Q1) (K := 0) (fun _ : Unit => (⟨[(28, nI .i64 ((0 : Nat) : Int)), (3, bI (limTo g 0)), (2, nI .i64 0), (1, .ptr 0 0)], Try.f20.ntmps, [(0, some [nI .i64 g.l0, nI .i64 g.l1, nI .i64 g.l2, nI .i64 g.b0, nI .i64 g.b1, nI .i64 g.b2, nI .i64 g.now, .ds fp g.past.length (rows QD.cells g.past), .ds fq g.queue.length (rows QD.cells g.queue)])], 1⟩ : VS)) (fun key => ?rest1) ?key1
  case rest1 =>
    by_cases h0 : g.now ≥ 0
    · rw [decide_eq_true h0]
      conv => whnf
      try (refine ⟨by kernel_rfl, ?_⟩; conv => whnf)
      refine meet (key ()) G0ok [(0, some 0)] rfl ?_ ?_ (by rfl)
      · exact ⟨⟨_, rfl, conv_nI (rfl)⟩, ⟨_, rfl, conv_eq (e0 h0) rfl⟩, ⟨_, rfl, .same rfl⟩, ⟨_, rfl, .ptr rfl⟩, trivial⟩
      · exact ⟨.inr ⟨_, _, rfl, rfl, .same (nG)⟩, trivial⟩
    · rw [decide_eq_false h0]
      conv => whnf
      try (refine ⟨by kernel_rfl, ?_⟩; conv => whnf)
      refine meet (key ()) G0ok [(0, some 0)] rfl ?_ ?_ (by rfl)
      · exact ⟨⟨_, rfl, conv_nI (rfl)⟩, ⟨_, rfl, conv_eq (e1 h0) rfl⟩, ⟨_, rfl, .same rfl⟩, ⟨_, rfl, .ptr rfl⟩, trivial⟩
      · exact ⟨.inr ⟨_, _, rfl, rfl, .same (nG)⟩, trivial⟩
  case key1 =>
    intro _
    refine vloop_invK G0ok [(0, some 0)] 1 (X := Nat) (fun i => [(28, nI .i64 i), (3, bI (limTo g i)), (2, nI .i64 0), (1, .ptr 0 0)]) (fun _ => [(0, some [nI .i64 g.l0, nI .i64 g.l1, nI .i64 g.l2, nI .i64 g.b0, nI .i64 g.b1, nI .i64 g.b2, nI .i64 g.now, .ds fp g.past.length (rows QD.cells g.past), .ds fq g.queue.length (rows QD.cells g.queue)])]) (fun i => i ≤ 3) (fun i => 3 - i) 0 rfl ⟨⟨_, rfl, conv_nI (rfl)⟩, ⟨_, rfl, .same rfl⟩, ⟨_, rfl, .same rfl⟩, ⟨_, rfl, .ptr rfl⟩, trivial⟩ ⟨.inr ⟨_, _, rfl, rfl, .same (nG)⟩, trivial⟩ (Nat.zero_le _) ?_
    intro i hi
    try dsimp only at hi ⊢
    refine wpv_ok Γok (by kernel_rfl) _ _ _ ?_; conv => whnf
    refine bool_cases (fun hc => ?_) (fun hc => ?_)
    · have hc := of_decide_eq_true hc
      have hc : i = 0 ∨ i = 1 ∨ i = 2 := by omega
      rcases hc with rfl | rfl | rfl
      · have st : limTo g 1 = (limTo g 0 && (valB g.l0 && valB g.b0)) := rfl
        cases hk : limTo g 0 with
        | false =>
          rw [hk, Bool.false_and] at st
          conv => whnf
          try (refine ⟨by kernel_rfl, ?_⟩; conv => whnf)
          refine next_round (y := 0) G0ok 1 [(0, some 0)] rfl ⟨⟨_, rfl, conv_nI (ws_i64 (by decide) (by decide))⟩, ⟨_, rfl, conv_eq (congrArg bI st.symm) rfl⟩, ⟨_, rfl, .same rfl⟩, ⟨_, rfl, .ptr rfl⟩, trivial⟩ ⟨.inr ⟨_, _, rfl, rfl, .same (nG)⟩, trivial⟩ (by decide) (by decide)
        | true =>
          rw [hk, Bool.true_and] at st
          conv => whnf
          try (refine ⟨by kernel_rfl, ?_⟩; conv => whnf)
          refine ⟨_, ret_of_fn G0ok (gvalue_fn g.l0) (by first | rfl | simp only [noHs, noH, nI, bI, Bool.and_self, Bool.and_true, Bool.true_and, ]) (by first | rfl | simp only [noHs, noH, nI, bI, Bool.and_self, Bool.and_true, Bool.true_and, ]), ?_⟩; (conv => whnf); (try (refine ⟨by kernel_rfl, ?_⟩; conv => whnf))
          cases hv : valB g.l0 with
          | false =>
            rw [hv, Bool.false_and] at st
            conv => whnf
            try (refine ⟨by kernel_rfl, ?_⟩; conv => whnf)
            refine next_round (y := 0) G0ok 1 [(0, some 0)] rfl ⟨⟨_, rfl, conv_nI (ws_i64 (by decide) (by decide))⟩, ⟨_, rfl, conv_eq (congrArg bI st.symm) rfl⟩, ⟨_, rfl, .same rfl⟩, ⟨_, rfl, .ptr rfl⟩, trivial⟩ ⟨.inr ⟨_, _, rfl, rfl, .same (nG)⟩, trivial⟩ (by decide) (by decide)
          | true =>
            rw [hv, Bool.true_and] at st
            conv => whnf
            try (refine ⟨by kernel_rfl, ?_⟩; conv => whnf)
            refine ⟨_, ret_of_fn G0ok (gvalue_fn g.b0) (by first | rfl | simp only [noHs, noH, nI, bI, Bool.and_self, Bool.and_true, Bool.true_and, ]) (by first | rfl | simp only [noHs, noH, nI, bI, Bool.and_self, Bool.and_true, Bool.true_and, ]), ?_⟩; (conv => whnf); (try (refine ⟨by kernel_rfl, ?_⟩; conv => whnf))
            refine next_round (y := 0) G0ok 1 [(0, some 0)] rfl ⟨⟨_, rfl, conv_nI (ws_i64 (by decide) (by decide))⟩, ⟨_, rfl, conv_eq (congrArg bI st.symm) rfl⟩, ⟨_, rfl, .same rfl⟩, ⟨_, rfl, .ptr rfl⟩, trivial⟩ ⟨.inr ⟨_, _, rfl, rfl, .same (nG)⟩, trivial⟩ (by decide) (by decide)
      · have st : limTo g 2 = (limTo g 1 && (valB g.l1 && valB g.b1)) := rfl
        cases hk : limTo g 1 with
        | false =>
          rw [hk, Bool.false_and] at st
          conv => whnf
          try (refine ⟨by kernel_rfl, ?_⟩; conv => whnf)
          refine next_round (y := 1) G0ok 2 [(0, some 0)] rfl ⟨⟨_, rfl, conv_nI (ws_i64 (by decide) (by decide))⟩, ⟨_, rfl, conv_eq (congrArg bI st.symm) rfl⟩, ⟨_, rfl, .same rfl⟩, ⟨_, rfl, .ptr rfl⟩, trivial⟩ ⟨.inr ⟨_, _, rfl, rfl, .same (nG)⟩, trivial⟩ (by decide) (by decide)
        | true =>
          rw [hk, Bool.true_and] at st
          conv => whnf
          try (refine ⟨by kernel_rfl, ?_⟩; conv => whnf)
          refine ⟨_, ret_of_fn G0ok (gvalue_fn g.l1) (by first | rfl | simp only [noHs, noH, nI, bI, Bool.and_self, Bool.and_true, Bool.true_and, ]) (by first | rfl | simp only [noHs, noH, nI, bI, Bool.and_self, Bool.and_true, Bool.true_and, ]), ?_⟩; (conv => whnf); (try (refine ⟨by kernel_rfl, ?_⟩; conv => whnf))
          cases hv : valB g.l1 with
          | false =>
            rw [hv, Bool.false_and] at st
            conv => whnf
            try (refine ⟨by kernel_rfl, ?_⟩; conv => whnf)
            refine next_round (y := 1) G0ok 2 [(0, some 0)] rfl ⟨⟨_, rfl, conv_nI (ws_i64 (by decide) (by decide))⟩, ⟨_, rfl, conv_eq (congrArg bI st.symm) rfl⟩, ⟨_, rfl, .same rfl⟩, ⟨_, rfl, .ptr rfl⟩, trivial⟩ ⟨.inr ⟨_, _, rfl, rfl, .same (nG)⟩, trivial⟩ (by decide) (by decide)
          | true =>
            rw [hv, Bool.true_and] at st
            conv => whnf
            try (refine ⟨by kernel_rfl, ?_⟩; conv => whnf)
            refine ⟨_, ret_of_fn G0ok (gvalue_fn g.b1) (by first | rfl | simp only [noHs, noH, nI, bI, Bool.and_self, Bool.and_true, Bool.true_and, ]) (by first | rfl | simp only [noHs, noH, nI, bI, Bool.and_self, Bool.and_true, Bool.true_and, ]), ?_⟩; (conv => whnf); (try (refine ⟨by kernel_rfl, ?_⟩; conv => whnf))
            refine next_round (y := 1) G0ok 2 [(0, some 0)] rfl ⟨⟨_, rfl, conv_nI (ws_i64 (by decide) (by decide))⟩, ⟨_, rfl, conv_eq (congrArg bI st.symm) rfl⟩, ⟨_, rfl, .same rfl⟩, ⟨_, rfl, .ptr rfl⟩, trivial⟩ ⟨.inr ⟨_, _, rfl, rfl, .same (nG)⟩, trivial⟩ (by decide) (by decide)
      · have st : limTo g 3 = (limTo g 2 && (valB g.l2 && valB g.b2)) := rfl
        cases hk : limTo g 2 with
        | false =>
          rw [hk, Bool.false_and] at st
          conv => whnf
          try (refine ⟨by kernel_rfl, ?_⟩; conv => whnf)
          refine next_round (y := 2) G0ok 3 [(0, some 0)] rfl ⟨⟨_, rfl, conv_nI (ws_i64 (by decide) (by decide))⟩, ⟨_, rfl, conv_eq (congrArg bI st.symm) rfl⟩, ⟨_, rfl, .same rfl⟩, ⟨_, rfl, .ptr rfl⟩, trivial⟩ ⟨.inr ⟨_, _, rfl, rfl, .same (nG)⟩, trivial⟩ (by decide) (by decide)
        | true =>
          rw [hk, Bool.true_and] at st
          conv => whnf
          try (refine ⟨by kernel_rfl, ?_⟩; conv => whnf)
          refine ⟨_, ret_of_fn G0ok (gvalue_fn g.l2) (by first | rfl | simp only [noHs, noH, nI, bI, Bool.and_self, Bool.and_true, Bool.true_and, ]) (by first | rfl | simp only [noHs, noH, nI, bI, Bool.and_self, Bool.and_true, Bool.true_and, ]), ?_⟩; (conv => whnf); (try (refine ⟨by kernel_rfl, ?_⟩; conv => whnf))
          cases hv : valB g.l2 with
          | false =>
            rw [hv, Bool.false_and] at st
            conv => whnf
            try (refine ⟨by kernel_rfl, ?_⟩; conv => whnf)
            refine next_round (y := 2) G0ok 3 [(0, some 0)] rfl ⟨⟨_, rfl, conv_nI (ws_i64 (by decide) (by decide))⟩, ⟨_, rfl, conv_eq (congrArg bI st.symm) rfl⟩, ⟨_, rfl, .same rfl⟩, ⟨_, rfl, .ptr rfl⟩, trivial⟩ ⟨.inr ⟨_, _, rfl, rfl, .same (nG)⟩, trivial⟩ (by decide) (by decide)
          | true =>
            rw [hv, Bool.true_and] at st
            conv => whnf
            try (refine ⟨by kernel_rfl, ?_⟩; conv => whnf)
            refine ⟨_, ret_of_fn G0ok (gvalue_fn g.b2) (by first | rfl | simp only [noHs, noH, nI, bI, Bool.and_self, Bool.and_true, Bool.true_and, ]) (by first | rfl | simp only [noHs, noH, nI, bI, Bool.and_self, Bool.and_true, Bool.true_and, ]), ?_⟩; (conv => whnf); (try (refine ⟨by kernel_rfl, ?_⟩; conv => whnf))
            refine next_round (y := 2) G0ok 3 [(0, some 0)] rfl ⟨⟨_, rfl, conv_nI (ws_i64 (by decide) (by decide))⟩, ⟨_, rfl, conv_eq (congrArg bI st.symm) rfl⟩, ⟨_, rfl, .same rfl⟩, ⟨_, rfl, .ptr rfl⟩, trivial⟩ ⟨.inr ⟨_, _, rfl, rfl, .same (nG)⟩, trivial⟩ (by decide) (by decide)
    · have hc := of_decide_eq_false hc
      have hc : i = 3 := by omega
      subst hc
      conv => whnf
      try (refine ⟨by kernel_rfl, ?_⟩; conv => whnf)
      refine .ownAs 0 [] rfl rfl ?_
      conv => whnf
      try (refine ⟨by kernel_rfl, ?_⟩; conv => whnf)
      have lP : (rows QD.cells g.past).length = g.past.length * 4 := rows_length (w := 4) fun a _ => rfl
      have lQ : (rows QD.cells g.queue).length = g.queue.length * 4 := rows_length (w := 4) fun a _ => rfl
      refine onlyIf_intro (by show (_ && (_ && Nat.beq (rows QD.cells g.past).length (g.past.length * 4))) = true; rw [lP]; simp) ?_
      conv => whnf
      try (refine ⟨by kernel_rfl, ?_⟩; conv => whnf)
      refine onlyIf_intro (by simp [maxLen]; omega) ?_
      refine .ownAs g.past.length (rows QD.cells g.past) (Nat.zero_add _) rfl ?_
      conv => whnf
      try (refine ⟨by kernel_rfl, ?_⟩; conv => whnf)
      refine onlyIf_intro (by show (_ && (_ && Nat.beq (rows QD.cells g.queue).length (g.queue.length * 4))) = true; rw [lQ]; simp) ?_
      conv => whnf
      try (refine ⟨by kernel_rfl, ?_⟩; conv => whnf)
      refine onlyIf_intro (by show (Nat.beq (rows QD.cells g.past).length (g.past.length * 4) && _) = true; rw [lP]; simp [maxLen]; omega) ?_
      refine .read (g.past ++ g.queue).length (rows QD.cells (g.past ++ g.queue)) List.length_append.symm (rows_app _ _).symm (by rw [rows_length (w := 4) fun a _ => rfl]) (rowsQ_noHs _) ?_
      conv => whnf
      try (refine ⟨by kernel_rfl, ?_⟩; conv => whnf)
      have lL : (g.past ++ g.queue).length ≤ 80 := by rw [List.length_append]; omega
      refine gen_ex (g.past ++ g.queue) fun L eL => ?_
      rw [← eL] at lL ⊢
      clear eL
      have nL := rowsQ_noHs L
      refine vloop_invK G0ok [(0, some 0)] 1 (X := Nat) (fun i => [(56, nI .i64 i), (55, nI .i64 L.length), (54, .ds false L.length (rows QD.cells L)), (5, .ds false L.length (rows QD.cells L)), (3, bI (rowsOk g L i)), (2, nI .i64 0), (1, .ptr 0 0)]) (fun _ => [(0, some [nI .i64 g.l0, nI .i64 g.l1, nI .i64 g.l2, nI .i64 g.b0, nI .i64 g.b1, nI .i64 g.b2, nI .i64 g.now, .ds fp g.past.length (rows QD.cells g.past), .ds fq g.queue.length (rows QD.cells g.queue)])])
        (fun i => i ≤ L.length) (fun i => L.length - i) 0 rfl ⟨⟨_, rfl, conv_nI (rfl)⟩, ⟨_, rfl, conv_nI (rfl)⟩, ⟨_, rfl, conv_eq rfl (nL)⟩, ⟨_, rfl, conv_eq rfl (nL)⟩, ⟨_, rfl, .same rfl⟩, ⟨_, rfl, .same rfl⟩, ⟨_, rfl, .ptr rfl⟩, trivial⟩ ⟨.inr ⟨_, _, rfl, rfl, .same (nG)⟩, trivial⟩ (Nat.zero_le _) ?_
      intro i hi
      try dsimp only at hi ⊢
      refine wpv_ok Γok (by kernel_rfl) _ _ _ ?_; conv => whnf
      refine bool_cases (fun hc => ?_) (fun hc => ?_)
      · have hc := of_decide_eq_true hc
        have hc : i < L.length := by omega
        have gd : L.getD i qz = L[i] := by rw [List.getD_eq_getElem?_getD, List.getElem?_eq_getElem hc]; rfl
        have st : rowsOk g L (i + 1) = ((rowsOk g L i && qOk g.now (L.getD i qz)) && difTo L (L.getD i qz) i) := rfl
        rw [gd] at st
        conv => whnf
        try (refine ⟨by kernel_rfl, ?_⟩; conv => whnf)
        refine bindP_intro (if_pos (inB_ok (by omega) (by omega))) ?_; conv => whnf
        refine bindP_intro (row_load (i := i) (w := 4) rfl rfl rfl (fun a _ => qd_len a) (by dsimp only; omega) hc) ?_
        refine gen_ex L[i] fun q eq => ?_
        rw [← eq] at st ⊢
        clear eq gd
        have qc : q.cells = [nI .i64 q.id, nI .i64 q.v, nI .i64 q.ch, nI .i64 q.t] := rfl
        have lt : (L.take i).length = i := by rw [List.length_take, Nat.min_eq_left hi]
        have nT := rowsQ_noHs (L.take i)
        refine join_loop (P := Try.prog) (G := G0) (x := ?x2) (Q := ?Q2) (K := 0) (fun _ : Unit => (⟨[(93, nI .i64 ((0 : Nat) : Int)), (92, nI .i64 i), (91, .ds false i (rows QD.cells (L.take i))), (3, bI (rowsOk g L i && qOk g.now q)), (6, nI .i64 i), (7, .ptr 1 0), (56, nI .i64 i), (55, nI .i64 L.length), (54, .ds false L.length (rows QD.cells L)), (5, .ds false L.length (rows QD.cells L)), (2, nI .i64 0), (1, .ptr 0 0)], Try.f20.ntmps, [(0, some [nI .i64 g.l0, nI .i64 g.l1, nI .i64 g.l2, nI .i64 g.b0, nI .i64 g.b1, nI .i64 g.b2, nI .i64 g.now, .ds fp g.past.length (rows QD.cells g.past), .ds fq g.queue.length (rows QD.cells g.queue)]), (1, some q.cells)], 2⟩ : VS)) (fun key => ?rest2) ?key2
        case rest2 =>
          rw [qc]
          cases h0 : rowsOk g L i with
          | false =>
            conv => whnf
            try (refine ⟨by kernel_rfl, ?_⟩; conv => whnf)
            refine bindP_intro (vpure_slice (vslice_rows (f := QD.cells) (w := 4) (bs := L) (l := 0) (h := i) rfl rfl (fun a _ => rfl) rfl (by rfl) vb_nat (Nat.zero_le _) hi)) ?_
            rw [show (L.drop 0).take (i - 0) = L.take i from rfl, lt]
            conv => whnf
            try (refine ⟨by kernel_rfl, ?_⟩; conv => whnf)
            refine meet (key ()) G0ok [(0, some 0), (1, some 1)] rfl ?_ ?_ (by rfl)
            · exact ⟨⟨_, rfl, conv_nI (rfl)⟩, ⟨_, rfl, conv_nI (rfl)⟩, ⟨_, rfl, conv_eq rfl (nT)⟩, ⟨_, rfl, conv_eq (congrArg bI (by simp [qOk, h0])) rfl⟩, ⟨_, rfl, conv_nI (rfl)⟩, ⟨_, rfl, .ptr rfl⟩, ⟨_, rfl, conv_nI (rfl)⟩, ⟨_, rfl, conv_nI (rfl)⟩, ⟨_, rfl, conv_eq rfl (nL)⟩, ⟨_, rfl, conv_eq rfl (nL)⟩, ⟨_, rfl, .same rfl⟩, ⟨_, rfl, .ptr rfl⟩, trivial⟩
            · exact ⟨.inr ⟨_, _, rfl, rfl, .same (nG)⟩, .inr ⟨_, _, rfl, rfl, .same rfl⟩, trivial⟩
          | true =>
            conv => whnf
            try (refine ⟨by kernel_rfl, ?_⟩; conv => whnf)
            refine ⟨_, ret_of_fn G0ok (gvalue_fn q.v) (by first | rfl | simp only [noHs, noH, nI, bI, Bool.and_self, Bool.and_true, Bool.true_and, ]) (by first | rfl | simp only [noHs, noH, nI, bI, Bool.and_self, Bool.and_true, Bool.true_and, ]), ?_⟩; (conv => whnf); (try (refine ⟨by kernel_rfl, ?_⟩; conv => whnf))
            cases hv : valB q.v with
            | false =>
              conv => whnf
              try (refine ⟨by kernel_rfl, ?_⟩; conv => whnf)
              refine bindP_intro (vpure_slice (vslice_rows (f := QD.cells) (w := 4) (bs := L) (l := 0) (h := i) rfl rfl (fun a _ => rfl) rfl (by rfl) vb_nat (Nat.zero_le _) hi)) ?_
              rw [show (L.drop 0).take (i - 0) = L.take i from rfl, lt]
              conv => whnf
              try (refine ⟨by kernel_rfl, ?_⟩; conv => whnf)
              refine meet (key ()) G0ok [(0, some 0), (1, some 1)] rfl ?_ ?_ (by rfl)
              · exact ⟨⟨_, rfl, conv_nI (rfl)⟩, ⟨_, rfl, conv_nI (rfl)⟩, ⟨_, rfl, conv_eq rfl (nT)⟩, ⟨_, rfl, conv_eq (congrArg bI (by simp [qOk, h0, hv])) rfl⟩, ⟨_, rfl, conv_nI (rfl)⟩, ⟨_, rfl, .ptr rfl⟩, ⟨_, rfl, conv_nI (rfl)⟩, ⟨_, rfl, conv_nI (rfl)⟩, ⟨_, rfl, conv_eq rfl (nL)⟩, ⟨_, rfl, conv_eq rfl (nL)⟩, ⟨_, rfl, .same rfl⟩, ⟨_, rfl, .ptr rfl⟩, trivial⟩
              · exact ⟨.inr ⟨_, _, rfl, rfl, .same (nG)⟩, .inr ⟨_, _, rfl, rfl, .same rfl⟩, trivial⟩
            | true =>
              conv => whnf
              try (refine ⟨by kernel_rfl, ?_⟩; conv => whnf)
              by_cases h1 : q.ch ≥ 0
              · rw [decide_eq_true h1]
                conv => whnf
                try (refine ⟨by kernel_rfl, ?_⟩; conv => whnf)
                by_cases h2 : q.ch < 3
                · rw [decide_eq_true h2]
                  conv => whnf
                  try (refine ⟨by kernel_rfl, ?_⟩; conv => whnf)
                  by_cases h3 : q.t ≥ 0
                  · rw [decide_eq_true h3]
                    conv => whnf
                    try (refine ⟨by kernel_rfl, ?_⟩; conv => whnf)
                    refine bindP_intro (vpure_slice (vslice_rows (f := QD.cells) (w := 4) (bs := L) (l := 0) (h := i) rfl rfl (fun a _ => rfl) rfl (by rfl) vb_nat (Nat.zero_le _) hi)) ?_
                    rw [show (L.drop 0).take (i - 0) = L.take i from rfl, lt]
                    conv => whnf
                    try (refine ⟨by kernel_rfl, ?_⟩; conv => whnf)
                    refine meet (key ()) G0ok [(0, some 0), (1, some 1)] rfl ?_ ?_ (by rfl)
                    · exact ⟨⟨_, rfl, conv_nI (rfl)⟩, ⟨_, rfl, conv_nI (rfl)⟩, ⟨_, rfl, conv_eq rfl (nT)⟩, ⟨_, rfl, conv_eq (congrArg bI (by simp [qOk, h0, hv, h1, h2, h3])) rfl⟩, ⟨_, rfl, conv_nI (rfl)⟩, ⟨_, rfl, .ptr rfl⟩, ⟨_, rfl, conv_nI (rfl)⟩, ⟨_, rfl, conv_nI (rfl)⟩, ⟨_, rfl, conv_eq rfl (nL)⟩, ⟨_, rfl, conv_eq rfl (nL)⟩, ⟨_, rfl, .same rfl⟩, ⟨_, rfl, .ptr rfl⟩, trivial⟩
                    · exact ⟨.inr ⟨_, _, rfl, rfl, .same (nG)⟩, .inr ⟨_, _, rfl, rfl, .same rfl⟩, trivial⟩
                  · rw [decide_eq_false h3]
                    conv => whnf
                    try (refine ⟨by kernel_rfl, ?_⟩; conv => whnf)
                    refine bindP_intro (vpure_slice (vslice_rows (f := QD.cells) (w := 4) (bs := L) (l := 0) (h := i) rfl rfl (fun a _ => rfl) rfl (by rfl) vb_nat (Nat.zero_le _) hi)) ?_
                    rw [show (L.drop 0).take (i - 0) = L.take i from rfl, lt]
                    conv => whnf
                    try (refine ⟨by kernel_rfl, ?_⟩; conv => whnf)
                    refine meet (key ()) G0ok [(0, some 0), (1, some 1)] rfl ?_ ?_ (by rfl)
                    · exact ⟨⟨_, rfl, conv_nI (rfl)⟩, ⟨_, rfl, conv_nI (rfl)⟩, ⟨_, rfl, conv_eq rfl (nT)⟩, ⟨_, rfl, conv_eq (congrArg bI (by simp [qOk, h0, hv, h1, h2, h3])) rfl⟩, ⟨_, rfl, conv_nI (rfl)⟩, ⟨_, rfl, .ptr rfl⟩, ⟨_, rfl, conv_nI (rfl)⟩, ⟨_, rfl, conv_nI (rfl)⟩, ⟨_, rfl, conv_eq rfl (nL)⟩, ⟨_, rfl, conv_eq rfl (nL)⟩, ⟨_, rfl, .same rfl⟩, ⟨_, rfl, .ptr rfl⟩, trivial⟩
                    · exact ⟨.inr ⟨_, _, rfl, rfl, .same (nG)⟩, .inr ⟨_, _, rfl, rfl, .same rfl⟩, trivial⟩
                · rw [decide_eq_false h2]
                  conv => whnf
                  try (refine ⟨by kernel_rfl, ?_⟩; conv => whnf)
                  refine bindP_intro (vpure_slice (vslice_rows (f := QD.cells) (w := 4) (bs := L) (l := 0) (h := i) rfl rfl (fun a _ => rfl) rfl (by rfl) vb_nat (Nat.zero_le _) hi)) ?_
                  rw [show (L.drop 0).take (i - 0) = L.take i from rfl, lt]
                  conv => whnf
                  try (refine ⟨by kernel_rfl, ?_⟩; conv => whnf)
                  refine meet (key ()) G0ok [(0, some 0), (1, some 1)] rfl ?_ ?_ (by rfl)
                  · exact ⟨⟨_, rfl, conv_nI (rfl)⟩, ⟨_, rfl, conv_nI (rfl)⟩, ⟨_, rfl, conv_eq rfl (nT)⟩, ⟨_, rfl, conv_eq (congrArg bI (by simp [qOk, h0, hv, h1, h2])) rfl⟩, ⟨_, rfl, conv_nI (rfl)⟩, ⟨_, rfl, .ptr rfl⟩, ⟨_, rfl, conv_nI (rfl)⟩, ⟨_, rfl, conv_nI (rfl)⟩, ⟨_, rfl, conv_eq rfl (nL)⟩, ⟨_, rfl, conv_eq rfl (nL)⟩, ⟨_, rfl, .same rfl⟩, ⟨_, rfl, .ptr rfl⟩, trivial⟩
                  · exact ⟨.inr ⟨_, _, rfl, rfl, .same (nG)⟩, .inr ⟨_, _, rfl, rfl, .same rfl⟩, trivial⟩
              · rw [decide_eq_false h1]
                conv => whnf
                try (refine ⟨by kernel_rfl, ?_⟩; conv => whnf)
                refine bindP_intro (vpure_slice (vslice_rows (f := QD.cells) (w := 4) (bs := L) (l := 0) (h := i) rfl rfl (fun a _ => rfl) rfl (by rfl) vb_nat (Nat.zero_le _) hi)) ?_
                rw [show (L.drop 0).take (i - 0) = L.take i from rfl, lt]
                conv => whnf
                try (refine ⟨by kernel_rfl, ?_⟩; conv => whnf)
                refine meet (key ()) G0ok [(0, some 0), (1, some 1)] rfl ?_ ?_ (by rfl)
                · exact ⟨⟨_, rfl, conv_nI (rfl)⟩, ⟨_, rfl, conv_nI (rfl)⟩, ⟨_, rfl, conv_eq rfl (nT)⟩, ⟨_, rfl, conv_eq (congrArg bI (by simp [qOk, h0, hv, h1])) rfl⟩, ⟨_, rfl, conv_nI (rfl)⟩, ⟨_, rfl, .ptr rfl⟩, ⟨_, rfl, conv_nI (rfl)⟩, ⟨_, rfl, conv_nI (rfl)⟩, ⟨_, rfl, conv_eq rfl (nL)⟩, ⟨_, rfl, conv_eq rfl (nL)⟩, ⟨_, rfl, .same rfl⟩, ⟨_, rfl, .ptr rfl⟩, trivial⟩
                · exact ⟨.inr ⟨_, _, rfl, rfl, .same (nG)⟩, .inr ⟨_, _, rfl, rfl, .same rfl⟩, trivial⟩
        case key2 =>
          intro _
          refine gen_ex (rowsOk g L i && qOk g.now q) fun okq eok => ?_
          rw [← eok] at st ⊢
          clear eok
          have gj : ∀ j, j < i → (L.take i).getD j qz = L.getD j qz := fun j hj => by rw [List.getD_eq_getElem?_getD, List.getD_eq_getElem?_getD, List.getElem?_take_of_lt hj]
          rw [qc]
          refine vloop_invK G0ok [(0, some 0), (1, some 1)] 2 (X := Nat) (fun j => [(93, nI .i64 j), (92, nI .i64 i), (91, .ds false i (rows QD.cells (L.take i))), (3, bI (okq && difTo L q j)), (6, nI .i64 i), (7, .ptr 1 0), (56, nI .i64 i), (55, nI .i64 L.length), (54, .ds false L.length (rows QD.cells L)), (5, .ds false L.length (rows QD.cells L)), (2, nI .i64 0), (1, .ptr 0 0)]) (fun _ => [(0, some [nI .i64 g.l0, nI .i64 g.l1, nI .i64 g.l2, nI .i64 g.b0, nI .i64 g.b1, nI .i64 g.b2, nI .i64 g.now, .ds fp g.past.length (rows QD.cells g.past), .ds fq g.queue.length (rows QD.cells g.queue)]), (1, some [nI .i64 q.id, nI .i64 q.v, nI .i64 q.ch, nI .i64 q.t])])
            (fun j => j ≤ i) (fun j => i - j) 0 rfl ⟨⟨_, rfl, conv_nI (rfl)⟩, ⟨_, rfl, conv_nI (rfl)⟩, ⟨_, rfl, conv_eq rfl (nT)⟩, ⟨_, rfl, conv_eq (congrArg bI (Bool.and_true _).symm) rfl⟩, ⟨_, rfl, conv_nI (rfl)⟩, ⟨_, rfl, .ptr rfl⟩, ⟨_, rfl, conv_nI (rfl)⟩, ⟨_, rfl, conv_nI (rfl)⟩, ⟨_, rfl, conv_eq rfl (nL)⟩, ⟨_, rfl, conv_eq rfl (nL)⟩, ⟨_, rfl, .same rfl⟩, ⟨_, rfl, .ptr rfl⟩, trivial⟩ ⟨.inr ⟨_, _, rfl, rfl, .same (nG)⟩, .inr ⟨_, _, rfl, rfl, .same rfl⟩, trivial⟩ (Nat.zero_le _) ?_
          intro j hj
          try dsimp only at hj ⊢
          refine wpv_ok Γok (by kernel_rfl) _ _ _ ?_; conv => whnf
          refine bool_cases (fun hd => ?_) (fun hd => ?_)
          · have hd := of_decide_eq_true hd
            have hd : j < i := by omega
            have sj : difTo L q (j + 1) = (difTo L q j && decide (q.id ≠ (L.getD j qz).id)) := rfl
            have gd : L.getD j qz = (L.take i)[j]'(by omega) := by rw [← gj j hd, List.getD_eq_getElem?_getD, List.getElem?_eq_getElem (by omega)]; rfl
            rw [gd] at sj
            conv => whnf
            try (refine ⟨by kernel_rfl, ?_⟩; conv => whnf)
            refine bindP_intro (if_pos (inB_ok (by omega) (by omega))) ?_; conv => whnf
            refine bindP_intro (row_load (i := j) (w := 4) rfl rfl rfl (fun a _ => qd_len a) (by dsimp only; omega) (by omega)) ?_
            refine gen_ex ((L.take i)[j]'(by omega)) fun y ey => ?_
            rw [← ey] at sj ⊢
            clear ey gd
            have yc : y.cells = [nI .i64 y.id, nI .i64 y.v, nI .i64 y.ch, nI .i64 y.t] := rfl
            rw [yc]
            conv => whnf
            try (refine ⟨by kernel_rfl, ?_⟩; conv => whnf)
            cases hk : (okq && difTo L q j) with
            | false =>
              conv => whnf
              try (refine ⟨by kernel_rfl, ?_⟩; conv => whnf)
              refine next_round (y := j) G0ok (j + 1) [(0, some 0), (1, some 1)] rfl ⟨⟨_, rfl, conv_nI (ws_i64 (by omega) (by omega))⟩, ⟨_, rfl, conv_nI (rfl)⟩, ⟨_, rfl, conv_eq rfl (nT)⟩, ⟨_, rfl, conv_eq (congrArg bI (by rw [sj, ← Bool.and_assoc, hk, Bool.false_and])) rfl⟩, ⟨_, rfl, conv_nI (rfl)⟩, ⟨_, rfl, .ptr rfl⟩, ⟨_, rfl, conv_nI (rfl)⟩, ⟨_, rfl, conv_nI (rfl)⟩, ⟨_, rfl, conv_eq rfl (nL)⟩, ⟨_, rfl, conv_eq rfl (nL)⟩, ⟨_, rfl, .same rfl⟩, ⟨_, rfl, .ptr rfl⟩, trivial⟩ ⟨.inr ⟨_, _, rfl, rfl, .same (nG)⟩, .inr ⟨_, _, rfl, rfl, .same rfl⟩, trivial⟩ (by omega) (by omega)
            | true =>
              conv => whnf
              try (refine ⟨by kernel_rfl, ?_⟩; conv => whnf)
              refine next_round (y := j) G0ok (j + 1) [(0, some 0), (1, some 1)] rfl ⟨⟨_, rfl, conv_nI (ws_i64 (by omega) (by omega))⟩, ⟨_, rfl, conv_nI (rfl)⟩, ⟨_, rfl, conv_eq rfl (nT)⟩, ⟨_, rfl, conv_eq (congrArg bI (by rw [sj, ← Bool.and_assoc, hk, Bool.true_and]; exact bne_dec _ _)) rfl⟩, ⟨_, rfl, conv_nI (rfl)⟩, ⟨_, rfl, .ptr rfl⟩, ⟨_, rfl, conv_nI (rfl)⟩, ⟨_, rfl, conv_nI (rfl)⟩, ⟨_, rfl, conv_eq rfl (nL)⟩, ⟨_, rfl, conv_eq rfl (nL)⟩, ⟨_, rfl, .same rfl⟩, ⟨_, rfl, .ptr rfl⟩, trivial⟩ ⟨.inr ⟨_, _, rfl, rfl, .same (nG)⟩, .inr ⟨_, _, rfl, rfl, .same rfl⟩, trivial⟩ (by omega) (by omega)
          · have hd := of_decide_eq_false hd
            have e : j = i := by omega
            subst e
            rw [← st]
            conv => whnf
            try (refine ⟨by kernel_rfl, ?_⟩; conv => whnf)
            refine next_round (y := j) G0ok (j + 1) [(0, some 0)] rfl ⟨⟨_, rfl, conv_nI (ws_i64 (by omega) (by omega))⟩, ⟨_, rfl, conv_nI (rfl)⟩, ⟨_, rfl, conv_eq rfl (nL)⟩, ⟨_, rfl, conv_eq rfl (nL)⟩, ⟨_, rfl, .same rfl⟩, ⟨_, rfl, .same rfl⟩, ⟨_, rfl, .ptr rfl⟩, trivial⟩ ⟨.inr ⟨_, _, rfl, rfl, .same (nG)⟩, trivial⟩ (by omega) (by omega)
      · have hc := of_decide_eq_false hc
        have e : i = L.length := by omega
        subst e
        conv => whnf
        try (refine ⟨by kernel_rfl, ?_⟩; conv => whnf)
        cases hk : rowsOk g L L.length with
        | false =>
          rw [if_neg (by decide)]
          conv => whnf
          try (refine ⟨by kernel_rfl, ?_⟩; conv => whnf)
          exact ⟨_, rfl, rfl⟩
        | true =>
          rw [if_pos rfl]
          conv => whnf
          try (refine ⟨by kernel_rfl, ?_⟩; conv => whnf)
          exact ⟨_, rfl, rfl⟩
/-- A gate's cells, with lists of its own. -/
def GtD.own (g : GtD) (hp hq : Nat) : List VV := [nI .i64 g.l0, nI .i64 g.l1, nI .i64 g.l2, nI .i64 g.b0, nI .i64 g.b1, nI .i64 g.b2, nI .i64 g.now, .sl hp 0 g.past.length 4, .sl hq 0 g.queue.length 4]
theorem gfresh_fnH {fp fq : Bool} {g : GtD} (h1 : g.past.length ≤ 100) (h2 : g.queue.length ≤ 100) : FnH Try.prog G0 41 [.agg (g.cells fp fq)] [] 0 (.agg (g.own 0 1)) [(0, some (rows QD.cells g.past)), (1, some (rows QD.cells g.queue))] 2 := by
  have nP := rowsQ_noHs g.past
  have nQ := rowsQ_noHs g.queue
  have nG := gtd_noHs fp fq g
  have lP : (rows QD.cells g.past).length = g.past.length * 4 := rows_length (w := 4) fun a _ => rfl
  have lQ : (rows QD.cells g.queue).length = g.queue.length * 4 := rows_length (w := 4) fun a _ => rfl
  unfold GtD.cells at *
  refine fnH_of_vwp Γok G0ok Try.func41 (by kernel_rfl) rfl (by simp [Try.ntmps41]) (wpv_ok Γok (by kernel_rfl) _ _ _ ?_); conv => whnf
  refine .ownAs 0 [] rfl rfl ?_
  conv => whnf
  try (refine ⟨by kernel_rfl, ?_⟩; conv => whnf)
  refine onlyIf_intro (by show (_ && (_ && Nat.beq (rows QD.cells g.past).length (g.past.length * 4))) = true; rw [lP]; simp) ?_
  conv => whnf
  try (refine ⟨by kernel_rfl, ?_⟩; conv => whnf)
  refine onlyIf_intro (by simp [maxLen]; omega) ?_
  refine .ownAs g.past.length (rows QD.cells g.past) (Nat.zero_add _) rfl ?_
  conv => whnf
  try (refine ⟨by kernel_rfl, ?_⟩; conv => whnf)
  refine .ownAs 0 [] rfl rfl ?_
  conv => whnf
  try (refine ⟨by kernel_rfl, ?_⟩; conv => whnf)
  refine onlyIf_intro (by show (_ && (_ && Nat.beq (rows QD.cells g.queue).length (g.queue.length * 4))) = true; rw [lQ]; simp) ?_
  conv => whnf
  try (refine ⟨by kernel_rfl, ?_⟩; conv => whnf)
  refine onlyIf_intro (by simp [maxLen]; omega) ?_
  refine .ownAs g.queue.length (rows QD.cells g.queue) (Nat.zero_add _) rfl ?_
  conv => whnf
  try (refine ⟨by kernel_rfl, ?_⟩; conv => whnf)

  exact ⟨_, rfl, [(0, some 3), (1, some 5)], rfl, rfl, .agg (.cons (.same rfl) (.cons (.same rfl) (.cons (.same rfl) (.cons (.same rfl) (.cons (.same rfl) (.cons (.same rfl) (.cons (.same rfl) (.cons (.sl rfl) (.cons (.sl rfl) .nil))))))))), ⟨.inr ⟨_, _, rfl, rfl, .same (nP)⟩, .inr ⟨_, _, rfl, rfl, .same (nQ)⟩, trivial⟩⟩
end Go.Proofs.Ytilmfdlonpjjiaa
