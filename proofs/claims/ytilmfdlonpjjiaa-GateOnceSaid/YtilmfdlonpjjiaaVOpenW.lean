/- basculekeep.opened, gateOf, gateTells, by the engine. -/
import Derived.Test.YtilmfdlonpjjiaaVOpened
namespace Go.Proofs.Ytilmfdlonpjjiaa
set_option linter.unusedVariables false
set_option linter.unusedSimpArgs false
set_option linter.unusedSectionVars false
open Go.ChangeShapes Go.WideShapes Go.ChangeAt Go.RowKit Go.Joins
set_option maxRecDepth 10000
theorem op_all {g : GtD} {M : List RawD} (ck : chkGt g = 0) (hq : g.queue = []) (hp : g.past = []) (hn : g.now ≤ 50) : ∀ i, i ≤ 40 → OpOk g i (opRun g M i)
  | 0, _ => op_first ck hq hp
  | i + 1, h => op_next (op_all ck hq hp hn i (Nat.le_of_succ_le h)) h ⟨(chk_iff.1 ck).1.now.1, hn⟩
theorem rowsPa_noHs (l : List PaD) : noHs (rows PaD.cells l) = true := rows_noHs pad_noHs l
theorem mapTyP : MapTy Try.prog 100 3 53 .i64 := ⟨Try.underlying100, Try.underlying3⟩
theorem zeroP : ZeroIs Try.prog 53 (.agg pz.cells) := ⟨.agg #[.int .i64 0, .int .i64 0, .int .i64 0, .int .i64 0, .bool false], fun w => by kernel_rfl, fun E => by
  simp only [VR]
  exact ⟨[.int .i64 0, .int .i64 0, .int .i64 0, .int .i64 0, .bool false], rfl, VRs.cons rfl (VRs.cons rfl (VRs.cons rfl (VRs.cons rfl (VRs.cons rfl VRs.snoc_nil)))), fun u hu => by simp at hu; rcases hu with rfl | rfl <;> rfl⟩⟩
theorem opened_fn {fp fq f : Bool} {g : GtD} {l : List RawD} {most : Nat} (hl : l.length ≤ maxLen) (hm : most ≤ 40) (ck : chkGt g = 0) (hq : g.queue = []) (hp : g.past = []) (hn : g.now ≤ 50) (s : OpS) (es : s = opRun g (l.take most) (l.take most).length) :
    FnV Try.prog G0 18 [.agg (g.cells fp fq), .ds f l.length (rawsC l), nI .i64 most] (.tup [.agg (s.g.cells false false), .ds false s.out.length (rows PaD.cells s.out), bI true]) := by
  obtain ⟨f', so⟩ := some_fn f l most hl (by omega)
  have hM : (l.take most).length ≤ 40 := by rw [List.length_take]; omega
  refine gen_ex (l.take most) fun M eM => ?_
  rw [← eM] at hM so es
  clear eM
  subst es
  have al := fun i hi => op_all (M := M) ck hq hp hn i hi
  have nG := gtd_noHs fp fq g
  unfold GtD.cells at nG ⊢
  refine fn_of_vwp Γok Try.func18 (by kernel_rfl) rfl (by simp [Try.ntmps18]) (wpv_ok Γok (by kernel_rfl) _ _ _ ?_); conv => whnf
  refine ⟨_, ret_of_fn G0ok (so) (by first | rfl | simp only [noHs, noH, nI, bI, Bool.and_self, Bool.and_true, Bool.true_and, rawsC_noHs]) (by first | rfl | simp only [noHs, noH, nI, bI, Bool.and_self, Bool.and_true, Bool.true_and, rawsC_noHs]), ?_⟩; (conv => whnf); (try (refine ⟨by kernel_rfl, ?_⟩; conv => whnf))
  have nP := rowsQ_noHs g.past
  have nQ := rowsQ_noHs g.queue
  refine vloop_invK G0ok [(0, some 0), (1, some 1), (2, some 2), (3, none)] 4 (X := Nat) (fun i => [(30, nI .i64 i), (29, nI .i64 M.length), (28, .ds f' M.length (rawsC M)), (11, bI true), (10, .mp 2), (9, .sl 3 0 (opRun g M i).out.length 5), (8, bI false), (7, .ds true 0 []), (6, .ptr 1 0), (3, .ptr 0 0)])
    (fun i => [(0, some ((opRun g M i).g.cells false false)), (1, some [nI .i64 0, nI .i64 0, nI .i64 0, nI .i64 0, nI .i64 0, nI .i64 0, nI .i64 0, .ds true 0 [], .ds true 0 []]), (2, some ((opRun g M i).ids.map entP)), (3, some (rows PaD.cells (opRun g M i).out))]) (fun i => i ≤ M.length) (fun i => M.length - i) 0 rfl
    ⟨⟨_, rfl, conv_nI (rfl)⟩, ⟨_, rfl, conv_nI (rfl)⟩, ⟨_, rfl, conv_eq rfl (rawsC_noHs _)⟩, ⟨_, rfl, .same rfl⟩, ⟨_, rfl, .mp rfl⟩, ⟨_, rfl, .null rfl⟩, ⟨_, rfl, .same rfl⟩, ⟨_, rfl, .same rfl⟩, ⟨_, rfl, .ptr rfl⟩, ⟨_, rfl, .ptr rfl⟩, trivial⟩ ⟨.inr ⟨_, _, rfl, rfl, .cons (.same rfl) (.cons (.same rfl) (.cons (.same rfl) (.cons (.same rfl) (.cons (.same rfl) (.cons (.same rfl) (.cons (.same rfl) (.cons (.loose nP) (.cons (.loose nQ) .nil))))))))⟩, .inr ⟨_, _, rfl, rfl, .same rfl⟩, .inr ⟨_, _, rfl, rfl, .same rfl⟩, .inl ⟨rfl, rfl⟩, trivial⟩ (Nat.zero_le _) ?_
  intro i hi
  try dsimp only at hi ⊢
  have okn := al (i + 1)
  have st : opRun g M (i + 1) = opStep (opRun g M i) i (M.getD i rz0) := rfl
  have ok := al i (by omega)
  have il := ok.il
  have oul : (opRun g M i).out.length ≤ i := by have := ok.perm.length_eq; rw [List.length_append, List.length_map, List.length_map, List.length_map] at this; omega
  refine gen_ex (opRun g M i) fun s es => ?_
  rw [← es] at st ok il oul ⊢
  have gc : s.g.cells false false = [nI .i64 s.g.l0, nI .i64 s.g.l1, nI .i64 s.g.l2, nI .i64 s.g.b0, nI .i64 s.g.b1, nI .i64 s.g.b2, nI .i64 s.g.now, .ds false s.g.past.length (rows QD.cells s.g.past), .ds false s.g.queue.length (rows QD.cells s.g.queue)] := rfl
  have nG2 := gtd_noHs false false s.g
  refine wpv_ok Γok (by kernel_rfl) _ _ _ ?_; conv => whnf
  refine bool_cases (fun hc => ?_) (fun hc => ?_)
  · have hc := of_decide_eq_true hc
    have hc : i < M.length := by omega
    have okn := okn (by omega)
    have gd : M.getD i rz0 = M[i] := by rw [List.getD_eq_getElem?_getD, List.getElem?_eq_getElem hc]; rfl
    rw [gd] at st
    rw [st] at okn
    conv => whnf
    try (refine ⟨by kernel_rfl, ?_⟩; conv => whnf)
    refine bindP_intro (if_pos (inB_ok (by omega) (by omega))) ?_; conv => whnf
    refine bindP_intro (raw_load (i := i) rfl rfl rfl (by dsimp only; omega) hc) ?_
    refine gen_ex M[i] fun r er => ?_
    rw [← er] at st okn ⊢
    clear er gd
    have pk := picked_fn r.k 3 (by decide) (by decide)
    unfold RawD.v RawD.cells
    conv => whnf
    try (refine ⟨by kernel_rfl, ?_⟩; conv => whnf)
    refine ⟨_, ret_of_fn G0ok (pk) (by first | rfl | simp only [noHs, noH, nI, bI, Bool.and_self, Bool.and_true, Bool.true_and, ]) (by first | rfl | simp only [noHs, noH, nI, bI, Bool.and_self, Bool.and_true, Bool.true_and, ]), ?_⟩; (conv => whnf); (try (refine ⟨by kernel_rfl, ?_⟩; conv => whnf))
    by_cases k0 : r.k % 3 = 0
    · rw [show ((r.k % 3) == 0) = true from by rw [beq_iff_eq]; exact k0]
      have st : opRun g M (i + 1) = ⟨tickG s.g (1 + r.a % 9), s.out ++ (tickS s.g (1 + r.a % 9)).out.map fun z => relP (s.g.now + (1 + r.a % 9)) (getP s.ids z), s.ids⟩ := by rw [st]; unfold opStep; rw [if_pos k0]
      conv => whnf
      try (refine ⟨by kernel_rfl, ?_⟩; conv => whnf)
      have p9 := picked_fn r.a 9 (by decide) (by decide)
      refine ⟨_, ret_of_fn G0ok (p9) (by first | rfl | simp only [noHs, noH, nI, bI, Bool.and_self, Bool.and_true, Bool.true_and, ]) (by first | rfl | simp only [noHs, noH, nI, bI, Bool.and_self, Bool.and_true, Bool.true_and, ]), ?_⟩; (conv => whnf); (try (refine ⟨by kernel_rfl, ?_⟩; conv => whnf))
      obtain ⟨gok, _⟩ := chk_iff.1 ok.chk
      obtain ⟨n1, n2⟩ := ok.now
      rw [ws_i64 (x := 1 + r.a % 9) (by omega) (by omega)]
      have tk := gtick_ok (fp := false) (fq := false) (g := s.g) (h := 1 + r.a % 9) ok.chk gok ⟨by omega, by omega, by omega⟩
      have nG3 := gtd_noHs false false (tickG s.g (1 + r.a % 9))
      refine ⟨_, ret_of_fn G0ok (tk) (by first | rfl | simp only [noHs, noH, nI, bI, Bool.and_self, Bool.and_true, Bool.true_and, nG2, nG3, intsC_noHs]) (by first | rfl | simp only [noHs, noH, nI, bI, Bool.and_self, Bool.and_true, Bool.true_and, nG2, nG3, intsC_noHs]), ?_⟩; (conv => whnf); (try (refine ⟨by kernel_rfl, ?_⟩; conv => whnf))
      have eN : (tickG s.g (1 + r.a % 9)).now = s.g.now + (1 + r.a % 9) := rfl
      have outf : ∀ z ∈ (tickS s.g (1 + r.a % 9)).out, ∃ p, s.ids.find? (fun p => p.id == z) = some p ∧ 0 ≤ p.t ∧ p.t ≤ s.g.now := fun z hz => by
        obtain ⟨q, hq, rfl⟩ := tick_out_mem hz
        obtain ⟨p, h1, _, _, h2, _⟩ := ok.found q hq
        have := (gok.row q (.inr hq)).2.2
        exact ⟨p, h1, by rw [h2]; exact this.1, by rw [h2]; exact this.2⟩
      have oll : (tickS s.g (1 + r.a % 9)).out.length ≤ 40 := Nat.le_trans (tk_all gok (N := s.g.now + (1 + r.a % 9)) (by omega) s.g.queue.length (Nat.le_refl _)).lo gok.lq
      refine gen_ex (tickG s.g (1 + r.a % 9)) fun g2 eg2 => ?_
      rw [← eg2] at st eN nG3 tk ⊢
      refine gen_ex (tickS s.g (1 + r.a % 9)).out fun L eL => ?_
      rw [← eL] at st outf oll tk ⊢
      refine gen_ex (s.g.now + (1 + r.a % 9)) fun N eNN => ?_
      rw [← eNN] at st eN
      have gc2 : g2.cells false false = [nI .i64 g2.l0, nI .i64 g2.l1, nI .i64 g2.l2, nI .i64 g2.b0, nI .i64 g2.b1, nI .i64 g2.b2, nI .i64 g2.now, .ds false g2.past.length (rows QD.cells g2.past), .ds false g2.queue.length (rows QD.cells g2.queue)] := rfl
      clear tk eg2 eL
      refine vloop_invK G0ok [(0, some 0), (1, some 1), (2, some 2), (3, some 3), (4, some 5)] 5 (X := Nat) (fun j => [(55, nI .i64 j), (54, nI .i64 L.length), (53, .ds false L.length (intsC L)), (30, nI .i64 i), (29, nI .i64 M.length), (28, .ds f' M.length (rawsC M)), (14, .ptr 4 0), (11, bI true), (10, .mp 2), (9, .sl 3 0 (s.out ++ (L.take j).map fun z => relP N (getP s.ids z)).length 5), (8, bI false), (7, .ds true 0 []), (6, .ptr 1 0), (3, .ptr 0 0)])
        (fun j => [(0, some (s.g.cells false false)), (1, some [nI .i64 0, nI .i64 0, nI .i64 0, nI .i64 0, nI .i64 0, nI .i64 0, nI .i64 0, .ds true 0 [], .ds true 0 []]), (2, some (s.ids.map entP)), (3, some (rows PaD.cells (s.out ++ (L.take j).map fun z => relP N (getP s.ids z)))), (4, some (g2.cells false false))]) (fun j => j ≤ L.length) (fun j => L.length - j) 0 rfl
        ⟨⟨_, rfl, conv_nI (rfl)⟩, ⟨_, rfl, conv_nI (rfl)⟩, ⟨_, rfl, conv_eq rfl (intsC_noHs _)⟩, ⟨_, rfl, conv_nI (rfl)⟩, ⟨_, rfl, conv_nI (rfl)⟩, ⟨_, rfl, conv_eq rfl (rawsC_noHs _)⟩, ⟨_, rfl, .ptr rfl⟩, ⟨_, rfl, .same rfl⟩, ⟨_, rfl, .mp rfl⟩, ⟨_, rfl, conv_slE rfl rfl (by rw [List.take_zero, List.map_nil, List.append_nil]) rfl⟩, ⟨_, rfl, .same rfl⟩, ⟨_, rfl, .same rfl⟩, ⟨_, rfl, .ptr rfl⟩, ⟨_, rfl, .ptr rfl⟩, trivial⟩ ⟨.inr ⟨_, _, rfl, rfl, convs_eq rfl (nG2)⟩, .inr ⟨_, _, rfl, rfl, .same rfl⟩, .inr ⟨_, _, rfl, rfl, .same (entP_noHs _)⟩, .inr ⟨_, _, rfl, rfl, convs_eq (by rw [List.take_zero, List.map_nil, List.append_nil]) (rowsPa_noHs _)⟩, .inr ⟨_, _, rfl, rfl, convs_eq rfl (nG3)⟩, trivial⟩ (Nat.zero_le _) ?_
      intro j hj
      try dsimp only at hj ⊢
      rw [gc2]
      refine wpv_ok Γok (by kernel_rfl) _ _ _ ?_; conv => whnf
      refine bool_cases (fun hd => ?_) (fun hd => ?_)
      · have hd := of_decide_eq_true hd
        have hd : j < L.length := by omega
        obtain ⟨p, hp, ht1, ht2⟩ := outf _ (List.getElem_mem hd)
        obtain ⟨jj, hmf⟩ := mfind_some hp
        have sj : s.out ++ (L.take (j + 1)).map (fun z => relP N (getP s.ids z)) = (s.out ++ (L.take j).map fun z => relP N (getP s.ids z)) ++ [relP N p] := by rw [List.take_add_one, List.getElem?_eq_getElem hd, List.map_append, ← List.append_assoc]; show _ ++ [relP N (getP s.ids L[j])] = _; rw [getP_of hp]
        have lj : (s.out ++ (L.take j).map fun z => relP N (getP s.ids z)).length ≤ i + 40 := by rw [List.length_append, List.length_map, List.length_take]; omega
        have ix : (intsC L)[j]? = some (nI .i64 L[j]) := by unfold intsC; rw [List.getElem?_map, List.getElem?_eq_getElem hd]; rfl
        refine gen_ex L[j] fun z ez => ?_
        rw [← ez] at hmf hp ix
        refine gen_ex (s.out ++ (L.take j).map fun z => relP N (getP s.ids z)) fun O eO => ?_
        rw [← eO] at sj lj ⊢
        have lO : (rows PaD.cells O).length = O.length * 5 := rows_length (w := 5) fun a _ => rfl
        conv => whnf
        try (refine ⟨by kernel_rfl, ?_⟩; conv => whnf)
        refine bindP_intro (if_pos (inB_ok (by omega) (by omega))) ?_; conv => whnf
        refine bindP_intro (show (intsC L)[_]? = some (nI .i64 z) from by rw [← ix]; congr 1; dsimp only; omega) ?_
        conv => whnf
        try (refine ⟨by kernel_rfl, ?_⟩; conv => whnf)
        refine ⟨_, _, mapTyP, _, zeroP, _, hmf, ?_⟩
        conv => whnf
        try (refine ⟨by kernel_rfl, ?_⟩; conv => whnf)
        have ew : wS .i64 (g2.now - p.t) = N - p.t := by rw [eN]; exact ws_i64 (by omega) (by omega)
        rw [ew, eN]
        refine .ownAs 1 (relP N p).cells rfl rfl ?_
        conv => whnf
        try (refine ⟨by kernel_rfl, ?_⟩; conv => whnf)
        refine onlyIf_intro (by show (Nat.beq (rows PaD.cells O).length (O.length * 5) && _) = true; rw [lO]; simp [maxLen]; omega) ?_
        refine .ownAs (O.length + 1) (rows PaD.cells (O ++ [relP N p])) rfl (by rw [rows_app, rows_one]) ?_
        conv => whnf
        try (refine ⟨by kernel_rfl, ?_⟩; conv => whnf)
        rw [gc2, eN] at nG3
        refine next_round (y := j) G0ok (j + 1) [(0, some 0), (1, some 1), (2, some 2), (3, some 7), (4, some 4)] rfl ⟨⟨_, rfl, conv_nI (ws_i64 (by omega) (by omega))⟩, ⟨_, rfl, conv_nI (rfl)⟩, ⟨_, rfl, conv_eq rfl (intsC_noHs _)⟩, ⟨_, rfl, conv_nI (rfl)⟩, ⟨_, rfl, conv_nI (rfl)⟩, ⟨_, rfl, conv_eq rfl (rawsC_noHs _)⟩, ⟨_, rfl, .ptr rfl⟩, ⟨_, rfl, .same rfl⟩, ⟨_, rfl, .mp rfl⟩, ⟨_, rfl, conv_slE rfl rfl (by rw [sj, List.length_append]; rfl) rfl⟩, ⟨_, rfl, .same rfl⟩, ⟨_, rfl, .same rfl⟩, ⟨_, rfl, .ptr rfl⟩, ⟨_, rfl, .ptr rfl⟩, trivial⟩ ⟨.inr ⟨_, _, rfl, rfl, convs_eq rfl (nG2)⟩, .inr ⟨_, _, rfl, rfl, .same rfl⟩, .inr ⟨_, _, rfl, rfl, .same (entP_noHs _)⟩, .inr ⟨_, _, rfl, rfl, convs_eq (by rw [sj]) (rowsPa_noHs _)⟩, .inr ⟨_, _, rfl, rfl, convs_eq rfl (nG3)⟩, trivial⟩ (by omega) (by omega)
      · have hd := of_decide_eq_false hd
        have e : j = L.length := by omega
        subst e
        rw [List.take_length]
        have st2 : opRun g M (i + 1) = ⟨g2, s.out ++ L.map fun z => relP N (getP s.ids z), s.ids⟩ := st
        conv => whnf
        try (refine ⟨by kernel_rfl, ?_⟩; conv => whnf)
        refine next_round (y := i) G0ok (i + 1) [(0, some 0), (1, some 1), (2, some 2), (3, some 3)] rfl ⟨⟨_, rfl, conv_nI (ws_i64 (by omega) (by omega))⟩, ⟨_, rfl, conv_nI (rfl)⟩, ⟨_, rfl, conv_eq rfl (rawsC_noHs _)⟩, ⟨_, rfl, .same rfl⟩, ⟨_, rfl, .mp rfl⟩, ⟨_, rfl, conv_slE rfl rfl (by rw [st2]) rfl⟩, ⟨_, rfl, .same rfl⟩, ⟨_, rfl, .same rfl⟩, ⟨_, rfl, .ptr rfl⟩, ⟨_, rfl, .ptr rfl⟩, trivial⟩ ⟨.inr ⟨_, _, rfl, rfl, convs_eq (by rw [st2]; rfl) (by rw [st2]; exact nG3)⟩, .inr ⟨_, _, rfl, rfl, .same rfl⟩, .inr ⟨_, _, rfl, rfl, convs_eq (by rw [st2]) (entP_noHs _)⟩, .inr ⟨_, _, rfl, rfl, convs_eq (by rw [st2]) (rowsPa_noHs _)⟩, trivial⟩ (by omega) (by omega)
    · rw [show ((r.k % 3) == 0) = false from by rw [beq_eq_false_iff_ne]; exact k0]
      have p1 := picked_fn r.a 70 (by decide) (by decide)
      have p2 := picked_fn r.b 3 (by decide) (by decide)
      have nP2 := rowsQ_noHs s.g.past
      have nQ2 := rowsQ_noHs s.g.queue
      obtain ⟨gok, _⟩ := chk_iff.1 ok.chk
      have idz : ∀ q, (q ∈ s.g.past ∨ q ∈ s.g.queue) → q.id ≠ (i : Int) := fun q hq => by
        rcases hq with hq | hq
        · have := (ok.past q hq).2; omega
        · obtain ⟨p, hp, _, _, _, e⟩ := ok.found q hq
          have := (ok.ids p (List.mem_of_find?_eq_some hp)).2
          rw [← e]; omega
      have hql : s.g.queue.length ≠ 40 := by have := ok.ql; omega
      have mfn := mfind_none (l := s.ids) (z := (i : Int)) fun p hp => by have := (ok.ids p hp).2; omega
      have vb : valB (r.a % 70) = true := valB_iff.2 ⟨by omega, by omega⟩
      have of' := fun (R : VV) h0 h1 => goff_ok (fp := false) (fq := false) (g := s.g) (id := (i : Int)) (n := r.a % 70) (ch := r.b % 3) (r := R) ok.chk gok vb ⟨by omega, by omega⟩ (fun ⟨q, hq, e⟩ => absurd e (idz q hq)) h0 (fun _ _ e => absurd e hql) h1
      unfold opStep at st
      rw [if_neg k0] at st
      have lO : (rows PaD.cells s.out).length = s.out.length * 5 := rows_length (w := 5) fun a _ => rfl
      have pc : (offP s.g i r).cells = [nI .i64 i, nI .i64 (r.a % 70), nI .i64 (r.b % 3), nI .i64 s.g.now, bI false] := rfl
      have ec : entP (offP s.g i r) = ent .i64 (i : Int) (.agg [nI .i64 i, nI .i64 (r.a % 70), nI .i64 (r.b % 3), nI .i64 s.g.now, bI false]) := rfl
      conv => whnf
      try (refine ⟨by kernel_rfl, ?_⟩; conv => whnf)
      refine ⟨_, ret_of_fn G0ok (p1) (by first | rfl | simp only [noHs, noH, nI, bI, Bool.and_self, Bool.and_true, Bool.true_and, ]) (by first | rfl | simp only [noHs, noH, nI, bI, Bool.and_self, Bool.and_true, Bool.true_and, ]), ?_⟩; (conv => whnf); (try (refine ⟨by kernel_rfl, ?_⟩; conv => whnf))
      refine ⟨_, ret_of_fn G0ok (p2) (by first | rfl | simp only [noHs, noH, nI, bI, Bool.and_self, Bool.and_true, Bool.true_and, ]) (by first | rfl | simp only [noHs, noH, nI, bI, Bool.and_self, Bool.and_true, Bool.true_and, ]), ?_⟩; (conv => whnf); (try (refine ⟨by kernel_rfl, ?_⟩; conv => whnf))
      rw [gc]
      conv => whnf
      try (refine ⟨by kernel_rfl, ?_⟩; conv => whnf)
      cases hf : fitsB s.g (offX s.g i r) with
      | true =>
        rw [if_pos hf] at st
        have ofr := of' _ (fun _ _ => rfl) (fun _ h => absurd (show fitsB s.g (offX s.g i r) = true from hf) (by rw [show fitsB s.g (offX s.g i r) = fitsB s.g ⟨(i : Int), r.a % 70, r.b % 3, s.g.now⟩ from rfl, h]; decide))
        have nG3 := gtd_noHs false false { s.g with past := s.g.past ++ [offX s.g i r] }
        rw [show (⟨(i : Int), r.a % 70, r.b % 3, s.g.now⟩ : QD) = offX s.g i r from rfl] at ofr
        rw [gc] at ofr nG2
        refine ⟨_, ret_of_fn G0ok (ofr) (by first | rfl | simp only [noHs, noH, nI, bI, Bool.and_self, Bool.and_true, Bool.true_and, nG2, nG3, nP2, nQ2]) (by first | rfl | simp only [noHs, noH, nI, bI, Bool.and_self, Bool.and_true, Bool.true_and, nG2, nG3, nP2, nQ2]), ?_⟩; (conv => whnf); (try (refine ⟨by kernel_rfl, ?_⟩; conv => whnf))
        refine ⟨_, _, mapTyP, none, mfn, ?_⟩
        conv => whnf
        try (refine ⟨by kernel_rfl, ?_⟩; conv => whnf)
        refine .ownAs 1 (offP s.g i r).cells rfl rfl ?_
        conv => whnf
        try (refine ⟨by kernel_rfl, ?_⟩; conv => whnf)
        refine onlyIf_intro (by show (Nat.beq (rows PaD.cells s.out).length (s.out.length * 5) && _) = true; rw [lO]; simp [maxLen]; omega) ?_
        refine .ownAs (s.out.length + 1) (rows PaD.cells (s.out ++ [offP s.g i r])) rfl (by rw [rows_app, rows_one]) ?_
        conv => whnf
        try (refine ⟨by kernel_rfl, ?_⟩; conv => whnf)
        have st2 : opRun g M (i + 1) = ⟨{ s.g with past := s.g.past ++ [offX s.g i r] }, s.out ++ [offP s.g i r], s.ids ++ [offP s.g i r]⟩ := st
        refine next_round (y := i) G0ok (i + 1) [(0, some 0), (1, some 1), (2, some 2), (3, some 8)] rfl ⟨⟨_, rfl, conv_nI (ws_i64 (by omega) (by omega))⟩, ⟨_, rfl, conv_nI (rfl)⟩, ⟨_, rfl, conv_eq rfl (rawsC_noHs _)⟩, ⟨_, rfl, .same rfl⟩, ⟨_, rfl, .mp rfl⟩, ⟨_, rfl, conv_slE rfl rfl (by rw [st2, List.length_append]; rfl) rfl⟩, ⟨_, rfl, .same rfl⟩, ⟨_, rfl, .same rfl⟩, ⟨_, rfl, .ptr rfl⟩, ⟨_, rfl, .ptr rfl⟩, trivial⟩ ⟨.inr ⟨_, _, rfl, rfl, convs_eq (by rw [st2]) (by rw [st2]; exact nG3)⟩, .inr ⟨_, _, rfl, rfl, .same rfl⟩, .inr ⟨_, _, rfl, rfl, convs_eq (by rw [st2, List.map_append]; rfl) (entP_noHs _)⟩, .inr ⟨_, _, rfl, rfl, convs_eq (by rw [st2]) (rowsPa_noHs _)⟩, trivial⟩ (by omega) (by omega)

      | false =>
        rw [if_neg (by rw [hf]; decide)] at st
        have ofr := of' _ (fun _ h => absurd (show fitsB s.g (offX s.g i r) = true from h) (by rw [hf]; decide)) (fun _ _ _ => rfl)
        have nG3 := gtd_noHs false false { s.g with queue := s.g.queue ++ [offX s.g i r] }
        rw [show (⟨(i : Int), r.a % 70, r.b % 3, s.g.now⟩ : QD) = offX s.g i r from rfl] at ofr
        rw [gc] at ofr nG2
        refine ⟨_, ret_of_fn G0ok (ofr) (by first | rfl | simp only [noHs, noH, nI, bI, Bool.and_self, Bool.and_true, Bool.true_and, nG2, nG3, nP2, nQ2]) (by first | rfl | simp only [noHs, noH, nI, bI, Bool.and_self, Bool.and_true, Bool.true_and, nG2, nG3, nP2, nQ2]), ?_⟩; (conv => whnf); (try (refine ⟨by kernel_rfl, ?_⟩; conv => whnf))
        refine ⟨_, _, mapTyP, none, mfn, ?_⟩
        conv => whnf
        try (refine ⟨by kernel_rfl, ?_⟩; conv => whnf)
        have st2 : opRun g M (i + 1) = ⟨{ s.g with queue := s.g.queue ++ [offX s.g i r] }, s.out, s.ids ++ [offP s.g i r]⟩ := st
        refine next_round (y := i) G0ok (i + 1) [(0, some 0), (1, some 1), (2, some 2), (3, some 3)] rfl ⟨⟨_, rfl, conv_nI (ws_i64 (by omega) (by omega))⟩, ⟨_, rfl, conv_nI (rfl)⟩, ⟨_, rfl, conv_eq rfl (rawsC_noHs _)⟩, ⟨_, rfl, .same rfl⟩, ⟨_, rfl, .mp rfl⟩, ⟨_, rfl, conv_slE rfl rfl (by rw [st2]) rfl⟩, ⟨_, rfl, .same rfl⟩, ⟨_, rfl, .same rfl⟩, ⟨_, rfl, .ptr rfl⟩, ⟨_, rfl, .ptr rfl⟩, trivial⟩ ⟨.inr ⟨_, _, rfl, rfl, convs_eq (by rw [st2]) (by rw [st2]; exact nG3)⟩, .inr ⟨_, _, rfl, rfl, .same rfl⟩, .inr ⟨_, _, rfl, rfl, convs_eq (by rw [st2, List.map_append]; rfl) (entP_noHs _)⟩, .inr ⟨_, _, rfl, rfl, convs_eq (by rw [st2]) (rowsPa_noHs _)⟩, trivial⟩ (by omega) (by omega)

  · have hc := of_decide_eq_false hc
    have e : i = M.length := by omega
    subst e
    rw [← es]
    conv => whnf
    try (refine ⟨by kernel_rfl, ?_⟩; conv => whnf)
    have lO : (rows PaD.cells s.out).length = s.out.length * 5 := rows_length (w := 5) fun a _ => rfl
    exact ⟨_, rfl, deep_tup (mapO_cons (deepV_noH _ (.agg _) nG2) (mapO_cons (deep_row rfl lO (rowsPa_noHs _)) (mapO_cons (deepV_noH _ _ rfl) mapO_nil)))⟩
/-- The gate of a raw thing. -/
def shR (a : Int) (i : Nat) : Int := Int.fdiv a (2 ^ i)
def gateR (r : RawD) : GtD := ⟨50 + shR r.a 0 % 100, 50 + shR r.a 1 % 100, 50 + shR r.a 2 % 100, 20 + shR r.b 0 % 60, 20 + shR r.b 1 % 60, 20 + shR r.b 2 % 60, r.a % 50, [], []⟩
theorem gateR_ok (r : RawD) : chkGt (gateR r) = 0 := by
  refine chk_iff.2 ⟨⟨Nat.zero_le _, Nat.zero_le _, ⟨by show 0 ≤ r.a % 50; omega, by show r.a % 50 ≤ _; omega⟩, fun c => ?_, fun c => ?_, fun q hq => by rcases hq with h | h <;> cases h⟩, List.nodup_nil⟩
  · unfold GtD.lim gateR; dsimp only; split; omega; split <;> omega
  · unfold GtD.big gateR; dsimp only; split; omega; split <;> omega
theorem gateOf_fn (r : RawD) : FnV Try.prog G0 17 [r.v] (.agg ((gateR r).cells true true)) := by
  have p := fun x => picked_fn x 100 (by decide) (by decide)
  have q := fun x => picked_fn x 60 (by decide) (by decide)
  have p0 := picked_fn r.a 50 (by decide) (by decide)
  unfold RawD.v RawD.cells
  refine fn_of_vwp Γok Try.func17 (by kernel_rfl) rfl (by simp [Try.ntmps17]) (wpv_ok Γok (by kernel_rfl) _ _ _ ?_); conv => whnf
  refine ⟨_, ret_of_fn G0ok (p0) (by first | rfl | simp only [noHs, noH, nI, bI, Bool.and_self, Bool.and_true, Bool.true_and, ]) (by first | rfl | simp only [noHs, noH, nI, bI, Bool.and_self, Bool.and_true, Bool.true_and, ]), ?_⟩; (conv => whnf); (try (refine ⟨by kernel_rfl, ?_⟩; conv => whnf))
  refine vloop_clean G0ok [(0, some 0), (1, some 1), (2, some 2)] 3 [(9, nI .i64 0), (3, .ptr 2 0), (2, .ptr 1 0), (1, .ptr 0 0)] [(0, some [nI .i64 r.k, nI .i64 r.a, nI .i64 r.b, .v (.string r.s)]), (1, some [nI .i64 0, nI .i64 0, nI .i64 0, nI .i64 0, nI .i64 0, nI .i64 0, nI .i64 0, .ds true 0 [], .ds true 0 []]), (2, some [nI .i64 0, nI .i64 0, nI .i64 0, nI .i64 0, nI .i64 0, nI .i64 0, nI .i64 (r.a % 50), .ds true 0 [], .ds true 0 []])] rfl ⟨⟨_, rfl, conv_nI (rfl)⟩, ⟨_, rfl, .ptr rfl⟩, ⟨_, rfl, .ptr rfl⟩, ⟨_, rfl, .ptr rfl⟩, trivial⟩ ⟨.inr ⟨_, _, rfl, rfl, .same rfl⟩, .inr ⟨_, _, rfl, rfl, .same rfl⟩, .inr ⟨_, _, rfl, rfl, .same rfl⟩, trivial⟩ ?_
  refine vloop_unroll ?_
  refine wpv_ok Γok (by kernel_rfl) _ _ _ ?_; conv => whnf
  rw [show Int.fdiv r.a (2 ^ min (Int.toNat 0) IntKind.i64.bits) = shR r.a 0 from rfl]
  refine ⟨_, ret_of_fn G0ok (p (shR r.a 0)) (by first | rfl | simp only [noHs, noH, nI, bI, Bool.and_self, Bool.and_true, Bool.true_and, ]) (by first | rfl | simp only [noHs, noH, nI, bI, Bool.and_self, Bool.and_true, Bool.true_and, ]), ?_⟩; (conv => whnf); (try (refine ⟨by kernel_rfl, ?_⟩; conv => whnf))
  rw [show Int.fdiv r.b (2 ^ min (Int.toNat 0) IntKind.i64.bits) = shR r.b 0 from rfl]
  refine ⟨_, ret_of_fn G0ok (q (shR r.b 0)) (by first | rfl | simp only [noHs, noH, nI, bI, Bool.and_self, Bool.and_true, Bool.true_and, ]) (by first | rfl | simp only [noHs, noH, nI, bI, Bool.and_self, Bool.and_true, Bool.true_and, ]), ?_⟩; (conv => whnf); (try (refine ⟨by kernel_rfl, ?_⟩; conv => whnf))
  rw [ws_i64 (x := 50 + shR r.a 0 % 100) (by omega) (by omega), ws_i64 (x := 20 + shR r.b 0 % 60) (by omega) (by omega)]
  conv => whnf
  try (refine ⟨by kernel_rfl, ?_⟩; conv => whnf)
  refine vloop_clean G0ok [(0, some 0), (1, some 1), (2, some 2)] 3 [(9, nI .i64 1), (3, .ptr 2 0), (2, .ptr 1 0), (1, .ptr 0 0)] [(0, some [nI .i64 r.k, nI .i64 r.a, nI .i64 r.b, .v (.string r.s)]), (1, some [nI .i64 0, nI .i64 0, nI .i64 0, nI .i64 0, nI .i64 0, nI .i64 0, nI .i64 0, .ds true 0 [], .ds true 0 []]), (2, some [nI .i64 (50 + shR r.a 0 % 100), nI .i64 0, nI .i64 0, nI .i64 (20 + shR r.b 0 % 60), nI .i64 0, nI .i64 0, nI .i64 (r.a % 50), .ds true 0 [], .ds true 0 []])] rfl ⟨⟨_, rfl, conv_nI (ws_i64 (by decide) (by decide))⟩, ⟨_, rfl, .ptr rfl⟩, ⟨_, rfl, .ptr rfl⟩, ⟨_, rfl, .ptr rfl⟩, trivial⟩ ⟨.inr ⟨_, _, rfl, rfl, .same rfl⟩, .inr ⟨_, _, rfl, rfl, .same rfl⟩, .inr ⟨_, _, rfl, rfl, .same rfl⟩, trivial⟩ ?_
  refine vloop_unroll ?_
  refine wpv_ok Γok (by kernel_rfl) _ _ _ ?_; conv => whnf
  rw [show Int.fdiv r.a (2 ^ min (Int.toNat 1) IntKind.i64.bits) = shR r.a 1 from rfl]
  refine ⟨_, ret_of_fn G0ok (p (shR r.a 1)) (by first | rfl | simp only [noHs, noH, nI, bI, Bool.and_self, Bool.and_true, Bool.true_and, ]) (by first | rfl | simp only [noHs, noH, nI, bI, Bool.and_self, Bool.and_true, Bool.true_and, ]), ?_⟩; (conv => whnf); (try (refine ⟨by kernel_rfl, ?_⟩; conv => whnf))
  rw [show Int.fdiv r.b (2 ^ min (Int.toNat 1) IntKind.i64.bits) = shR r.b 1 from rfl]
  refine ⟨_, ret_of_fn G0ok (q (shR r.b 1)) (by first | rfl | simp only [noHs, noH, nI, bI, Bool.and_self, Bool.and_true, Bool.true_and, ]) (by first | rfl | simp only [noHs, noH, nI, bI, Bool.and_self, Bool.and_true, Bool.true_and, ]), ?_⟩; (conv => whnf); (try (refine ⟨by kernel_rfl, ?_⟩; conv => whnf))
  rw [ws_i64 (x := 50 + shR r.a 1 % 100) (by omega) (by omega), ws_i64 (x := 20 + shR r.b 1 % 60) (by omega) (by omega)]
  conv => whnf
  try (refine ⟨by kernel_rfl, ?_⟩; conv => whnf)
  refine vloop_clean G0ok [(0, some 0), (1, some 1), (2, some 2)] 3 [(9, nI .i64 2), (3, .ptr 2 0), (2, .ptr 1 0), (1, .ptr 0 0)] [(0, some [nI .i64 r.k, nI .i64 r.a, nI .i64 r.b, .v (.string r.s)]), (1, some [nI .i64 0, nI .i64 0, nI .i64 0, nI .i64 0, nI .i64 0, nI .i64 0, nI .i64 0, .ds true 0 [], .ds true 0 []]), (2, some [nI .i64 (50 + shR r.a 0 % 100), nI .i64 (50 + shR r.a 1 % 100), nI .i64 0, nI .i64 (20 + shR r.b 0 % 60), nI .i64 (20 + shR r.b 1 % 60), nI .i64 0, nI .i64 (r.a % 50), .ds true 0 [], .ds true 0 []])] rfl ⟨⟨_, rfl, conv_nI (ws_i64 (by decide) (by decide))⟩, ⟨_, rfl, .ptr rfl⟩, ⟨_, rfl, .ptr rfl⟩, ⟨_, rfl, .ptr rfl⟩, trivial⟩ ⟨.inr ⟨_, _, rfl, rfl, .same rfl⟩, .inr ⟨_, _, rfl, rfl, .same rfl⟩, .inr ⟨_, _, rfl, rfl, .same rfl⟩, trivial⟩ ?_
  refine vloop_unroll ?_
  refine wpv_ok Γok (by kernel_rfl) _ _ _ ?_; conv => whnf
  rw [show Int.fdiv r.a (2 ^ min (Int.toNat 2) IntKind.i64.bits) = shR r.a 2 from rfl]
  refine ⟨_, ret_of_fn G0ok (p (shR r.a 2)) (by first | rfl | simp only [noHs, noH, nI, bI, Bool.and_self, Bool.and_true, Bool.true_and, ]) (by first | rfl | simp only [noHs, noH, nI, bI, Bool.and_self, Bool.and_true, Bool.true_and, ]), ?_⟩; (conv => whnf); (try (refine ⟨by kernel_rfl, ?_⟩; conv => whnf))
  rw [show Int.fdiv r.b (2 ^ min (Int.toNat 2) IntKind.i64.bits) = shR r.b 2 from rfl]
  refine ⟨_, ret_of_fn G0ok (q (shR r.b 2)) (by first | rfl | simp only [noHs, noH, nI, bI, Bool.and_self, Bool.and_true, Bool.true_and, ]) (by first | rfl | simp only [noHs, noH, nI, bI, Bool.and_self, Bool.and_true, Bool.true_and, ]), ?_⟩; (conv => whnf); (try (refine ⟨by kernel_rfl, ?_⟩; conv => whnf))
  rw [ws_i64 (x := 50 + shR r.a 2 % 100) (by omega) (by omega), ws_i64 (x := 20 + shR r.b 2 % 60) (by omega) (by omega)]
  conv => whnf
  try (refine ⟨by kernel_rfl, ?_⟩; conv => whnf)
  refine vloop_clean G0ok [(0, some 0), (1, some 1), (2, some 2)] 3 [(9, nI .i64 3), (3, .ptr 2 0), (2, .ptr 1 0), (1, .ptr 0 0)] [(0, some [nI .i64 r.k, nI .i64 r.a, nI .i64 r.b, .v (.string r.s)]), (1, some [nI .i64 0, nI .i64 0, nI .i64 0, nI .i64 0, nI .i64 0, nI .i64 0, nI .i64 0, .ds true 0 [], .ds true 0 []]), (2, some [nI .i64 (50 + shR r.a 0 % 100), nI .i64 (50 + shR r.a 1 % 100), nI .i64 (50 + shR r.a 2 % 100), nI .i64 (20 + shR r.b 0 % 60), nI .i64 (20 + shR r.b 1 % 60), nI .i64 (20 + shR r.b 2 % 60), nI .i64 (r.a % 50), .ds true 0 [], .ds true 0 []])] rfl ⟨⟨_, rfl, conv_nI (ws_i64 (by decide) (by decide))⟩, ⟨_, rfl, .ptr rfl⟩, ⟨_, rfl, .ptr rfl⟩, ⟨_, rfl, .ptr rfl⟩, trivial⟩ ⟨.inr ⟨_, _, rfl, rfl, .same rfl⟩, .inr ⟨_, _, rfl, rfl, .same rfl⟩, .inr ⟨_, _, rfl, rfl, .same rfl⟩, trivial⟩ ?_
  refine vloop_unroll ?_
  refine wpv_ok Γok (by kernel_rfl) _ _ _ ?_; conv => whnf
  exact ⟨_, rfl, rfl⟩
theorem tells_gate : FnV Try.prog G0 19 [] (bI true) := by
  have go := gateOf_fn rz0
  have of' := goff_ok (fp := true) (fq := true) (g := gateR rz0) (id := 1) (n := 1) (ch := 0) (gateR_ok rz0) (chk_iff.1 (gateR_ok rz0)).1 rfl ⟨by decide, by decide⟩ (fun ⟨q, hq, e⟩ => by rcases hq with h | h <;> cases h) (fun _ _ => rfl) (fun _ h _ => absurd (show fitsB (gateR rz0) ⟨1, 1, 0, (gateR rz0).now⟩ = true from by decide) (by rw [h]; decide)) (fun _ h _ => absurd (show fitsB (gateR rz0) ⟨1, 1, 0, (gateR rz0).now⟩ = true from by decide) (by rw [h]; decide))
  have n1 := gtd_noHs true true (gateR rz0)
  have n2 := gtd_noHs false false { gateR rz0 with past := (gateR rz0).past ++ [⟨1, 1, 0, (gateR rz0).now⟩] }
  refine gen_ex ((gateR rz0).cells true true) fun C eC => ?_
  rw [← eC] at go of' n1
  refine gen_ex (GtD.cells false false { gateR rz0 with past := (gateR rz0).past ++ [⟨1, 1, 0, (gateR rz0).now⟩] }) fun D eD => ?_
  have lD : D.length = 9 := by rw [eD]; rfl
  rw [← eD] at of' n2
  refine fn_of_vwp Γok Try.func19 (by kernel_rfl) rfl (by simp [Try.ntmps19]) (wpv_ok Γok (by kernel_rfl) _ _ _ ?_); conv => whnf
  refine ⟨_, ret_of_fn G0ok (go) (by first | rfl | simp only [noHs, noH, nI, bI, Bool.and_self, Bool.and_true, Bool.true_and, n1]) (by first | rfl | simp only [noHs, noH, nI, bI, Bool.and_self, Bool.and_true, Bool.true_and, n1]), ?_⟩; (conv => whnf); (try (refine ⟨by kernel_rfl, ?_⟩; conv => whnf))
  refine ⟨_, ret_of_fn G0ok (of') (by first | rfl | simp only [noHs, noH, nI, bI, Bool.and_self, Bool.and_true, Bool.true_and, n1, n2]) (by first | rfl | simp only [noHs, noH, nI, bI, Bool.and_self, Bool.and_true, Bool.true_and, n1, n2]), ?_⟩; (conv => whnf); (try (refine ⟨by kernel_rfl, ?_⟩; conv => whnf))
  refine onlyIf_intro (by rw [lD]; rfl) ?_
  rw [splice_all (by rw [lD]; rfl)]
  conv => whnf
  try (refine ⟨by kernel_rfl, ?_⟩; conv => whnf)
  exact ⟨_, rfl, rfl⟩
end Go.Proofs.Ytilmfdlonpjjiaa
