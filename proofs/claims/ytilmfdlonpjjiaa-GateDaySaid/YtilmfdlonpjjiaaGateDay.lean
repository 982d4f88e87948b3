/- GateDay: within any day not more passes than the limit says, but what has waited a whole day. -/
import Derived.Test.YtilmfdlonpjjiaaBUe
import Derived.Test.YtilmfdlonpjjiaaBUd
namespace Go.Proofs.Ytilmfdlonpjjiaa
set_option linter.unusedVariables false
set_option linter.unusedSimpArgs false
set_option linter.unusedSectionVars false
open Go.ChangeShapes Go.WideShapes Go.ChangeAt Go.RowKit Go.Joins
set_option maxRecDepth 10000
theorem cntD_pos {c t : Int} {p : PaD} (h : 0 ≤ p.v) : 0 ≤ cntD c t p := by unfold cntD; split; exact h; exact Int.le_refl _
theorem dayS_pos {c t : Int} : ∀ {L : List PaD}, (∀ p ∈ L, 0 ≤ p.v) → 0 ≤ dayS L c t
  | [], _ => Int.le_refl _
  | p :: L, h => by
    have h1 := cntD_pos (c := c) (t := t) (h p List.mem_cons_self)
    have h2 := dayS_pos (c := c) (t := t) (L := L) fun q hq => h q (List.mem_cons_of_mem _ hq)
    unfold dayS at h2 ⊢
    rw [List.map_cons, List.sum_cons]
    omega
theorem dayS_app (L M : List PaD) (c t : Int) : dayS (L ++ M) c t = dayS L c t + dayS M c t := by unfold dayS; rw [List.map_append, List.sum_append]
theorem dayS_one (p : PaD) (c t : Int) : dayS [p] c t = cntD c t p := by unfold dayS; show cntD c t p + 0 = _; rw [Int.add_zero]
theorem dayS_take {L : List PaD} {c t : Int} (h : ∀ p ∈ L, 0 ≤ p.v) (j : Nat) : 0 ≤ dayS (L.take j) c t ∧ dayS (L.take j) c t ≤ dayS L c t := by
  have e : dayS L c t = dayS (L.take j) c t + dayS (L.drop j) c t := by rw [← dayS_app, List.take_append_drop]
  have h1 := dayS_pos (c := c) (t := t) (L := L.take j) fun p hp => h p (List.mem_of_mem_take hp)
  have h2 := dayS_pos (c := c) (t := t) (L := L.drop j) fun p hp => h p (List.mem_of_mem_drop hp)
  omega
theorem fnGateDay (x : RawD) (l : List RawD) (from' chain : Int) (hx : x.ok) (hl : l.length ≤ maxLen) (_ : ∀ q ∈ l, q.ok) (_ : I64 from') (_ : I64 chain) : FnV Try.prog G0 5 [x.v, .ds false l.length (rawsC l), nI .i64 from', nI .i64 chain] (bI true) := by
  have go := gateOf_fn x
  have gok := gateR_ok x
  have op := opened_fn (fp := true) (fq := true) (f := false) (g := gateR x) (l := l) (most := 40) hl (by decide) gok rfl rfl (by show x.a % 50 ≤ 50; omega) _ rfl
  have hM : (l.take 40).length ≤ 40 := by rw [List.length_take]; omega
  have al := op_all (M := l.take 40) gok rfl rfl (by show x.a % 50 ≤ 50; omega)
  have ok := al (l.take 40).length hM
  have jd := jd_all (M := l.take 40) gok rfl rfl (by show x.a % 50 ≤ 50; omega) al (l.take 40).length hM
  refine gen_ex (opRun (gateR x) (l.take 40) (l.take 40).length) fun s es => ?_
  rw [← es] at op ok jd
  clear es
  have te := tells_gate
  have n1 := gtd_noHs true true (gateR x)
  have nG := gtd_noHs false false s.g
  have ck := gcheck_fn (fp := false) (fq := false) (g := s.g)
  rw [ok.chk] at ck
  have nO := rowsPa_noHs s.out
  have lO : (rows PaD.cells s.out).length = s.out.length * 5 := rows_length (w := 5) fun a _ => rfl
  have p1 := picked_fn chain 3 (by decide) (by decide)
  have p2 := picked_fn from' 200 (by decide) (by decide)
  have day := jd.day (chain % 3) (from' % 200)
  have vp : ∀ p ∈ s.out, 0 ≤ p.v := fun p hp => (jd.row p hp).1
  have lb := (chk_iff.1 gok).1.lim (chain % 3)
  have oul : s.out.length ≤ 40 := by have := ok.perm.length_eq; have := ok.il; rw [List.length_append, List.length_map, List.length_map, List.length_map] at *; omega
  have lC : (s.g.cells false false).length = 9 := rfl
  have lims : (gateR x).lim (chain % 3) = 50 + shR x.a 0 % 100 ∨ True := .inr trivial
  refine gen_ex (s.g.cells false false) fun D eD => ?_
  rw [← eD] at op ck nG lC
  have gc : (gateR x).cells true true = [nI .i64 (gateR x).l0, nI .i64 (gateR x).l1, nI .i64 (gateR x).l2, nI .i64 (gateR x).b0, nI .i64 (gateR x).b1, nI .i64 (gateR x).b2, nI .i64 (gateR x).now, .ds true 0 [], .ds true 0 []] := rfl
  have lim3 : (gateR x).lim (chain % 3) = if chain % 3 = 0 then (gateR x).l0 else if chain % 3 = 1 then (gateR x).l1 else (gateR x).l2 := rfl
  rw [gc] at go op n1
  rw [lim3] at day lb
  refine gen_ex (gateR x) fun g eg => ?_
  rw [← eg] at go op n1 day lb
  clear eg gok gc lim3 lims al jd
  obtain ⟨c, ec, hc3⟩ : ∃ c : Int, chain % 3 = c ∧ (c = 0 ∨ c = 1 ∨ c = 2) := ⟨_, rfl, by omega⟩
  obtain ⟨t, et, ht⟩ : ∃ t : Int, from' % 200 = t ∧ (0 ≤ t ∧ t < 200) := ⟨_, rfl, by omega⟩
  rw [ec] at p1 day lb
  rw [et] at p2 day
  unfold RawD.v RawD.cells at *
  refine fn_of_vwp Γok Try.func5 (by kernel_rfl) rfl (by simp [Try.ntmps5]) (wpv_ok Γok (by kernel_rfl) _ _ _ ?_); conv => whnf
  refine ⟨_, ret_of_fn G0ok (go) (by first | rfl | simp only [noHs, noH, nI, bI, Bool.and_self, Bool.and_true, Bool.true_and, n1]) (by first | rfl | simp only [noHs, noH, nI, bI, Bool.and_self, Bool.and_true, Bool.true_and, n1]), ?_⟩; (conv => whnf); (try (refine ⟨by kernel_rfl, ?_⟩; conv => whnf))
  refine ⟨_, ret_of_fn G0ok (op) (by first | rfl | simp only [noHs, noH, nI, bI, Bool.and_self, Bool.and_true, Bool.true_and, n1, nG, nO, rawsC_noHs]) (by first | rfl | simp only [noHs, noH, nI, bI, Bool.and_self, Bool.and_true, Bool.true_and, n1, nG, nO, rawsC_noHs]), ?_⟩; (conv => whnf); (try (refine ⟨by kernel_rfl, ?_⟩; conv => whnf))
  refine onlyIf_intro (by rw [lC]; rfl) ?_
  rw [splice_all (by rw [lC]; rfl)]
  conv => whnf
  try (refine ⟨by kernel_rfl, ?_⟩; conv => whnf)
  refine ⟨_, ret_of_fn G0ok (p1) (by first | rfl | simp only [noHs, noH, nI, bI, Bool.and_self, Bool.and_true, Bool.true_and, ]) (by first | rfl | simp only [noHs, noH, nI, bI, Bool.and_self, Bool.and_true, Bool.true_and, ]), ?_⟩; (conv => whnf); (try (refine ⟨by kernel_rfl, ?_⟩; conv => whnf))
  refine ⟨_, ret_of_fn G0ok (p2) (by first | rfl | simp only [noHs, noH, nI, bI, Bool.and_self, Bool.and_true, Bool.true_and, ]) (by first | rfl | simp only [noHs, noH, nI, bI, Bool.and_self, Bool.and_true, Bool.true_and, ]), ?_⟩; (conv => whnf); (try (refine ⟨by kernel_rfl, ?_⟩; conv => whnf))
  refine vloop_invK G0ok [(0, some 1), (1, some 2)] 2 (X := Nat) (fun j => [(33, nI .i64 j), (32, nI .i64 s.out.length), (31, .ds false s.out.length (rows PaD.cells s.out)), (15, nI .i64 (dayS (s.out.take j) c t)), (14, nI .i64 t), (13, nI .i64 c), (12, bI true), (10, .ptr 1 0), (9, .ptr 0 0), (8, bI false)])
    (fun _ => [(0, some [nI .i64 g.l0, nI .i64 g.l1, nI .i64 g.l2, nI .i64 g.b0, nI .i64 g.b1, nI .i64 g.b2, nI .i64 g.now, .ds true 0 [], .ds true 0 []]), (1, some D)]) (fun j => j ≤ s.out.length) (fun j => s.out.length - j) 0 rfl ⟨⟨_, rfl, conv_nI (rfl)⟩, ⟨_, rfl, conv_nI (rfl)⟩, ⟨_, rfl, conv_eq rfl (nO)⟩, ⟨_, rfl, .same rfl⟩, ⟨_, rfl, conv_nI (rfl)⟩, ⟨_, rfl, conv_nI (rfl)⟩, ⟨_, rfl, .same rfl⟩, ⟨_, rfl, .ptr rfl⟩, ⟨_, rfl, .ptr rfl⟩, ⟨_, rfl, .same rfl⟩, trivial⟩ ⟨.inr ⟨_, _, rfl, rfl, .same rfl⟩, .inr ⟨_, _, rfl, rfl, convs_eq rfl (nG)⟩, trivial⟩ (Nat.zero_le _) ?_
  intro j hj
  try dsimp only at hj ⊢
  obtain ⟨d1, d2⟩ := dayS_take (c := c) (t := t) vp j
  obtain ⟨d3, d4⟩ := dayS_take (c := c) (t := t) vp (j + 1)
  refine wpv_ok Γok (by kernel_rfl) _ _ _ ?_; conv => whnf
  refine bool_cases (fun hd => ?_) (fun hd => ?_)
  · have hd := of_decide_eq_true hd
    have hd : j < s.out.length := by omega
    have sj : dayS (s.out.take (j + 1)) c t = dayS (s.out.take j) c t + cntD c t s.out[j] := by rw [List.take_add_one, List.getElem?_eq_getElem hd, dayS_app]; show _ + dayS [s.out[j]] c t = _; rw [dayS_one]
    conv => whnf
    try (refine ⟨by kernel_rfl, ?_⟩; conv => whnf)
    refine bindP_intro (if_pos (inB_ok (by omega) (by omega))) ?_; conv => whnf
    refine bindP_intro (row_load (f := PaD.cells) (i := j) (w := 5) rfl rfl rfl (fun a _ => rfl) (by dsimp only; omega) hd) ?_
    refine gen_ex s.out[j] fun p ep => ?_
    rw [← ep] at sj ⊢
    have pc : p.cells = [nI .i64 p.id, nI .i64 p.v, nI .i64 p.ch, nI .i64 p.t, bI p.held] := rfl
    rw [pc]
    conv => whnf
    try (refine ⟨by kernel_rfl, ?_⟩; conv => whnf)
    unfold cntD at sj
    by_cases e1 : p.ch = c
    · rw [show (p.ch == c) = true from by rw [beq_iff_eq]; exact e1]
      conv => whnf
      try (refine ⟨by kernel_rfl, ?_⟩; conv => whnf)
      cases e2 : p.held with
      | true =>
        rw [if_neg (fun k => by rw [e2] at k; exact absurd k.2.1 (by decide)), Int.add_zero] at sj
        conv => whnf
        try (refine ⟨by kernel_rfl, ?_⟩; conv => whnf)
        refine next_round (y := j) G0ok (j + 1) [(0, some 0), (1, some 1)] rfl ⟨⟨_, rfl, conv_nI (ws_i64 (by omega) (by omega))⟩, ⟨_, rfl, conv_nI (rfl)⟩, ⟨_, rfl, conv_eq rfl (nO)⟩, ⟨_, rfl, conv_nI (sj.symm)⟩, ⟨_, rfl, conv_nI (rfl)⟩, ⟨_, rfl, conv_nI (rfl)⟩, ⟨_, rfl, .same rfl⟩, ⟨_, rfl, .ptr rfl⟩, ⟨_, rfl, .ptr rfl⟩, ⟨_, rfl, .same rfl⟩, trivial⟩ ⟨.inr ⟨_, _, rfl, rfl, .same rfl⟩, .inr ⟨_, _, rfl, rfl, convs_eq rfl (nG)⟩, trivial⟩ (by omega) (by omega)

      | false =>
        conv => whnf
        try (refine ⟨by kernel_rfl, ?_⟩; conv => whnf)
        by_cases e3 : p.t ≥ t
        · rw [decide_eq_true e3]
          conv => whnf
          try (refine ⟨by kernel_rfl, ?_⟩; conv => whnf)
          rw [ws_i64 (x := t + 24) (by omega) (by omega)]
          conv => whnf
          try (refine ⟨by kernel_rfl, ?_⟩; conv => whnf)
          by_cases e4 : p.t < t + 24
          · rw [decide_eq_true e4]
            rw [if_pos ⟨e1, e2, e3, e4⟩] at sj
            conv => whnf
            try (refine ⟨by kernel_rfl, ?_⟩; conv => whnf)
            refine next_round (y := j) G0ok (j + 1) [(0, some 0), (1, some 1)] rfl ⟨⟨_, rfl, conv_nI (ws_i64 (by omega) (by omega))⟩, ⟨_, rfl, conv_nI (rfl)⟩, ⟨_, rfl, conv_eq rfl (nO)⟩, ⟨_, rfl, conv_nI ((ws_i64 (by omega) (by omega)).trans sj.symm)⟩, ⟨_, rfl, conv_nI (rfl)⟩, ⟨_, rfl, conv_nI (rfl)⟩, ⟨_, rfl, .same rfl⟩, ⟨_, rfl, .ptr rfl⟩, ⟨_, rfl, .ptr rfl⟩, ⟨_, rfl, .same rfl⟩, trivial⟩ ⟨.inr ⟨_, _, rfl, rfl, .same rfl⟩, .inr ⟨_, _, rfl, rfl, convs_eq rfl (nG)⟩, trivial⟩ (by omega) (by omega)

          · rw [decide_eq_false e4]
            rw [if_neg (fun k => e4 k.2.2.2), Int.add_zero] at sj
            conv => whnf
            try (refine ⟨by kernel_rfl, ?_⟩; conv => whnf)
            refine next_round (y := j) G0ok (j + 1) [(0, some 0), (1, some 1)] rfl ⟨⟨_, rfl, conv_nI (ws_i64 (by omega) (by omega))⟩, ⟨_, rfl, conv_nI (rfl)⟩, ⟨_, rfl, conv_eq rfl (nO)⟩, ⟨_, rfl, conv_nI (sj.symm)⟩, ⟨_, rfl, conv_nI (rfl)⟩, ⟨_, rfl, conv_nI (rfl)⟩, ⟨_, rfl, .same rfl⟩, ⟨_, rfl, .ptr rfl⟩, ⟨_, rfl, .ptr rfl⟩, ⟨_, rfl, .same rfl⟩, trivial⟩ ⟨.inr ⟨_, _, rfl, rfl, .same rfl⟩, .inr ⟨_, _, rfl, rfl, convs_eq rfl (nG)⟩, trivial⟩ (by omega) (by omega)

        · rw [decide_eq_false e3]
          rw [if_neg (fun k => e3 k.2.2.1), Int.add_zero] at sj
          conv => whnf
          try (refine ⟨by kernel_rfl, ?_⟩; conv => whnf)
          refine next_round (y := j) G0ok (j + 1) [(0, some 0), (1, some 1)] rfl ⟨⟨_, rfl, conv_nI (ws_i64 (by omega) (by omega))⟩, ⟨_, rfl, conv_nI (rfl)⟩, ⟨_, rfl, conv_eq rfl (nO)⟩, ⟨_, rfl, conv_nI (sj.symm)⟩, ⟨_, rfl, conv_nI (rfl)⟩, ⟨_, rfl, conv_nI (rfl)⟩, ⟨_, rfl, .same rfl⟩, ⟨_, rfl, .ptr rfl⟩, ⟨_, rfl, .ptr rfl⟩, ⟨_, rfl, .same rfl⟩, trivial⟩ ⟨.inr ⟨_, _, rfl, rfl, .same rfl⟩, .inr ⟨_, _, rfl, rfl, convs_eq rfl (nG)⟩, trivial⟩ (by omega) (by omega)

    · rw [show (p.ch == c) = false from by rw [beq_eq_false_iff_ne]; exact e1]
      rw [if_neg (fun k => e1 k.1), Int.add_zero] at sj
      conv => whnf
      try (refine ⟨by kernel_rfl, ?_⟩; conv => whnf)
      refine next_round (y := j) G0ok (j + 1) [(0, some 0), (1, some 1)] rfl ⟨⟨_, rfl, conv_nI (ws_i64 (by omega) (by omega))⟩, ⟨_, rfl, conv_nI (rfl)⟩, ⟨_, rfl, conv_eq rfl (nO)⟩, ⟨_, rfl, conv_nI (sj.symm)⟩, ⟨_, rfl, conv_nI (rfl)⟩, ⟨_, rfl, conv_nI (rfl)⟩, ⟨_, rfl, .same rfl⟩, ⟨_, rfl, .ptr rfl⟩, ⟨_, rfl, .ptr rfl⟩, ⟨_, rfl, .same rfl⟩, trivial⟩ ⟨.inr ⟨_, _, rfl, rfl, .same rfl⟩, .inr ⟨_, _, rfl, rfl, convs_eq rfl (nG)⟩, trivial⟩ (by omega) (by omega)

  · have hd := of_decide_eq_false hd
    have e : j = s.out.length := by omega
    subst e
    rw [List.take_length] at d1 d2 ⊢
    conv => whnf
    try (refine ⟨by kernel_rfl, ?_⟩; conv => whnf)
    refine ⟨_, ret_of_fn G0ok (te) (by first | rfl | simp only [noHs, noH, nI, bI, Bool.and_self, Bool.and_true, Bool.true_and, ]) (by first | rfl | simp only [noHs, noH, nI, bI, Bool.and_self, Bool.and_true, Bool.true_and, ]), ?_⟩; (conv => whnf); (try (refine ⟨by kernel_rfl, ?_⟩; conv => whnf))
    refine bindP_intro (load_agg rfl rfl lC) ?_
    conv => whnf
    try (refine ⟨by kernel_rfl, ?_⟩; conv => whnf)
    refine ⟨_, ret_of_fn G0ok (ck) (by first | rfl | simp only [noHs, noH, nI, bI, Bool.and_self, Bool.and_true, Bool.true_and, nG]) (by first | rfl | simp only [noHs, noH, nI, bI, Bool.and_self, Bool.and_true, Bool.true_and, nG]), ?_⟩; (conv => whnf); (try (refine ⟨by kernel_rfl, ?_⟩; conv => whnf))
    rcases hc3 with rfl | rfl | rfl
    · rw [if_pos rfl] at day
      conv => whnf
      try (refine ⟨by kernel_rfl, ?_⟩; conv => whnf)
      rw [decide_eq_true day]
      exact ⟨_, rfl, rfl⟩
    · rw [if_neg (by decide), if_pos rfl] at day
      conv => whnf
      try (refine ⟨by kernel_rfl, ?_⟩; conv => whnf)
      rw [decide_eq_true day]
      exact ⟨_, rfl, rfl⟩
    · rw [if_neg (by decide), if_neg (by decide)] at day
      conv => whnf
      try (refine ⟨by kernel_rfl, ?_⟩; conv => whnf)
      rw [decide_eq_true day]
      exact ⟨_, rfl, rfl⟩
namespace lawGateDay
set_option linter.unusedVariables false
set_option maxRecDepth 100000 in
theorem lifted (os : Os) (started : os.Started) (H : Type) (enc : TypeId × Value → H) :
    ReturnsInHanded {} Try.checked os 5 .any (Rows.gateDaySpec.pre6 enc Try.prog Try.f5 Rows.gateDayRow.domain false) (Rows.gateDaySpec.post enc Try.prog Try.f5 false true false false) := by
  refine returnsInHanded_of_change (C := Try.checked) rowOwn started (by kernel_rfl) Try.func5
    (ChangeSpec.witness6 (enc := enc) (C := Try.checked) false ⟨#[], #[.agg #[.int .i64 0, .int .i64 0, .int .i64 0, .string ByteArray.empty], .slice none 0 0, .int .i64 0, .int .i64 0], []⟩ 8 (by kernel_rfl) (by kernel_rfl) (by kernel_rfl) (by kernel_rfl)) ?_
  intro W base args ds gs before hval0 hW hcnd _
  have hval : ∀ (j : Nat) t v, Try.f5.params[j]? = some t → args[j]? = some v → Value.okWide Try.prog W .any base t v := hval0
  have hW' := hW
  obtain ⟨p, q, hA0, hV, rfl, hfz, hnd⟩ := hW
  have hA : DataW.TrodAll enc Try.prog W 0 (fun _ => true) true Try.f5.params.toList args.toList ds p := hA0
  rw [Try.params5] at hA hval
  obtain ⟨v0, vs0, d0, ds0, p0, q0, hargs, rfl, rfl, h0, r0⟩ := trodAll_cons hA
  obtain ⟨v1, vs1, d1, ds1, p1, q1, rfl, rfl, rfl, h1, r1⟩ := trodAll_cons r0
  obtain ⟨v2, vs2, d2, ds2, p2, q2, rfl, rfl, rfl, h2, r2⟩ := trodAll_cons r1
  obtain ⟨v3, vs3, d3, ds3, p3, q3, rfl, rfl, rfl, h3, r3⟩ := trodAll_cons r2
  obtain ⟨rfl, rfl, rfl⟩ := trodAll_nil r3
  obtain rfl : args = #[v0, v1, v2, v3] := by cases args; simp_all
  obtain ⟨rfl, rfl⟩ := trodVars_none hV
  have k0 := h0
  have lt0 : ∀ x ∈ p0, x.block < W.heap.size := by obtain ⟨m, hm⟩ := k0; exact DataW.trod_lt m _ _ _ hm
  obtain ⟨a0, w0, u0⟩ := raw_open (hval 0 23 v0 rfl rfl) h0
  have k1 := h1
  have lt1 : ∀ x ∈ p1, x.block < W.heap.size := by obtain ⟨m, hm⟩ := k1; exact DataW.trod_lt m _ _ _ hm
  obtain ⟨a1, l1, w1, u1⟩ := raws_open (hval 1 24 v1 rfl rfl) h1
  obtain ⟨a2, rfl, rfl, rfl, w2⟩ := open_int Try.underlying3 (hval 2 3 v2 rfl rfl) h2
  obtain ⟨a3, rfl, rfl, rfl, w3⟩ := open_int Try.underlying3 (hval 3 3 v3 rfl rfl) h3
  clear hA0 hval0
  refine (calls_of_fn Try.func5 (by kernel_rfl) rfl (fnGateDay a0 a1 a2 a3 w0 l1 w1 (bounds_i64 w2) (bounds_i64 w3)) (fun _ _ h => by cases h) (VRs.cons (u0 _) (VRs.cons u1 (VRs.cons rfl (VRs.cons rfl VRs.snoc_nil))))).mono fun e W' ⟨he, bel⟩ => ?_
  subst he
  exact ⟨_, rfl, _, _, _, [], _, [], hW', trodAll_mk1 (shut_bool Try.underlying4 _), (trodAll_cons_mk (Below.trod rowLaid (by kernel_rfl) (of_decide_eq_true (by kernel_rfl)) k0 bel lt0) (trodAll_cons_mk (Below.trod rowLaid (by kernel_rfl) (of_decide_eq_true (by kernel_rfl)) k1 bel lt1) (trodAll_cons_mk (shut_int Try.underlying3 w2) (trodAll_cons_mk (shut_int Try.underlying3 w3) trodAll_mk0)))), rfl, bel.frame _, fun h => by cases h⟩
theorem over : Rows.gateDayRow.holds Try.pinned (OpenSpec.ofChange Rows.gateDaySpec) :=
  OpenClaim.holds_of_wide 5 Try.f5 rfl rfl rfl rfl rfl rfl rfl ⟨rfl, rfl, rfl, rfl, rfl⟩ rfl rfl rfl rfl rfl (by kernel_rfl) Try.func5 (by kernel_rfl)
    (of_decide_eq_true (by kernel_rfl)) (by unfold Func.isWrapper; first | (rw [if_pos (by decide +kernel)]; kernel_rfl) | (rw [if_neg (by decide +kernel)]; exact ⟨rfl, rfl⟩))
    (fun os started H enc _ => lifted os started H enc)
theorem proved : Rows.GateDaySaid := over
end lawGateDay

end Go.Proofs.Ytilmfdlonpjjiaa
