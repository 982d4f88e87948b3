/- GateWaits: what waits is let go within a day, each once; what is big is never let go sooner. -/
import Derived.Test.YtilmfdlonpjjiaaBUe
import Derived.Test.YtilmfdlonpjjiaaVGateW
import Derived.Test.YtilmfdlonpjjiaaBUd
namespace Go.Proofs.Ytilmfdlonpjjiaa
set_option linter.unusedVariables false
set_option linter.unusedSimpArgs false
set_option linter.unusedSectionVars false
open Go.ChangeShapes Go.WideShapes Go.ChangeAt Go.RowKit Go.Joins
set_option maxRecDepth 10000
theorem mapTyI : MapTy Try.prog 60 3 3 .i64 := ⟨Try.underlying60, Try.underlying3⟩
theorem zeroI : ZeroIs Try.prog 3 (nI .i64 0) := ⟨.int .i64 0, fun w => by kernel_rfl, fun E => rfl⟩
theorem fnGateWaits (x : RawD) (l : List RawD) (hx : x.ok) (hl : l.length ≤ maxLen) (_ : ∀ q ∈ l, q.ok) : FnV Try.prog G0 6 [x.v, .ds false l.length (rawsC l)] (bI true) := by
  have go := gateOf_fn x
  have gok := gateR_ok x
  have op := opened_fn (fp := true) (fq := true) (f := false) (g := gateR x) (l := l) (most := 40) hl (by decide) gok rfl rfl (by show x.a % 50 ≤ 50; omega) _ rfl
  have hM : (l.take 40).length ≤ 40 := by rw [List.length_take]; omega
  have al := op_all (M := l.take 40) gok rfl rfl (by show x.a % 50 ≤ 50; omega)
  have ok := al (l.take 40).length hM
  have bg := bg_all (M := l.take 40) al (l.take 40).length hM
  refine gen_ex (opRun (gateR x) (l.take 40) (l.take 40).length) fun s es => ?_
  rw [← es] at op ok bg
  clear es
  have te := tells_gate
  have n1 := gtd_noHs true true (gateR x)
  have nG := gtd_noHs false false s.g
  have nO := rowsPa_noHs s.out
  have lO : (rows PaD.cells s.out).length = s.out.length * 5 := rows_length (w := 5) fun a _ => rfl
  obtain ⟨gk, gnd⟩ := chk_iff.1 ok.chk
  have hnow := ok.now
  have n0 : (gateR x).now ≤ 50 := by show x.a % 50 ≤ 50; omega
  have n00 := (chk_iff.1 gok).1.now.1
  have tk := gtick_ok (fp := false) (fq := false) (g := s.g) (h := 24) ok.chk gk ⟨by decide, by decide, by omega⟩
  obtain ⟨dq, do'⟩ := day_all gk
  have nG3 := gtd_noHs false false (tickG s.g 24)
  have ndd : (s.out.map PaD.id ++ (tickS s.g 24).out).Nodup := by rw [do']; exact (List.Perm.nodup_iff ok.perm).2 ok.nd
  have oul : s.out.length ≤ 40 := by have := ok.perm.length_eq; have := ok.il; rw [List.length_append, List.length_map, List.length_map, List.length_map] at *; omega
  have lql := gk.lq
  have lL : (tickS s.g 24).out.length = s.g.queue.length := by rw [do', List.length_map]
  refine gen_ex (tickS s.g 24).out fun L eL => ?_
  rw [← eL] at tk ndd lL
  have lb := fun c => (chk_iff.1 gok).1.big c
  have gc : (gateR x).cells true true = [nI .i64 (gateR x).l0, nI .i64 (gateR x).l1, nI .i64 (gateR x).l2, nI .i64 (gateR x).b0, nI .i64 (gateR x).b1, nI .i64 (gateR x).b2, nI .i64 (gateR x).now, .ds true 0 [], .ds true 0 []] := rfl
  have gcs : s.g.cells false false = [nI .i64 s.g.l0, nI .i64 s.g.l1, nI .i64 s.g.l2, nI .i64 s.g.b0, nI .i64 s.g.b1, nI .i64 s.g.b2, nI .i64 s.g.now, .ds false s.g.past.length (rows QD.cells s.g.past), .ds false s.g.queue.length (rows QD.cells s.g.queue)] := rfl
  have gc3 : (tickG s.g 24).cells false false = [nI .i64 s.g.l0, nI .i64 s.g.l1, nI .i64 s.g.l2, nI .i64 s.g.b0, nI .i64 s.g.b1, nI .i64 s.g.b2, nI .i64 (s.g.now + 24), .ds false (tickG s.g 24).past.length (rows QD.cells (tickG s.g 24).past), .ds false 0 []] := by
    show [_, _, _, _, _, _, _, _, VV.ds false (tickG s.g 24).queue.length (rows QD.cells (tickG s.g 24).queue)] = _
    rw [dq]; rfl
  have bigc : ∀ p ∈ s.out, (gateR x).big p.ch = if p.ch = 0 then (gateR x).b0 else if p.ch = 1 then (gateR x).b1 else (gateR x).b2 := fun p _ => rfl
  have nP3 := rowsQ_noHs (tickG s.g 24).past
  rw [gc3] at tk nG3
  refine gen_ex (rows QD.cells (tickG s.g 24).past) fun R3 eR => ?_
  rw [← eR] at tk nG3 nP3
  refine gen_ex (tickG s.g 24).past.length fun m3 em => ?_
  rw [← em] at tk nG3
  rw [gc] at go op n1
  refine gen_ex (gateR x) fun g eg => ?_
  rw [← eg] at go op n1 bg bigc
  clear eg gok gc al eL eR em
  have nP := rowsQ_noHs s.g.past
  have nQ := rowsQ_noHs s.g.queue
  rw [gcs] at op nG tk
  unfold RawD.v RawD.cells at *
  refine fn_of_vwp Γok Try.func6 (by kernel_rfl) rfl (by simp [Try.ntmps6]) (wpv_ok Γok (by kernel_rfl) _ _ _ ?_); conv => whnf
  refine ⟨_, ret_of_fn G0ok (go) (by first | rfl | simp only [noHs, noH, nI, bI, Bool.and_self, Bool.and_true, Bool.true_and, n1]) (by first | rfl | simp only [noHs, noH, nI, bI, Bool.and_self, Bool.and_true, Bool.true_and, n1]), ?_⟩; (conv => whnf); (try (refine ⟨by kernel_rfl, ?_⟩; conv => whnf))
  refine ⟨_, ret_of_fn G0ok (op) (by first | rfl | simp only [noHs, noH, nI, bI, Bool.and_self, Bool.and_true, Bool.true_and, n1, nG, nO, nP, nQ, rawsC_noHs]) (by first | rfl | simp only [noHs, noH, nI, bI, Bool.and_self, Bool.and_true, Bool.true_and, n1, nG, nO, nP, nQ, rawsC_noHs]), ?_⟩; (conv => whnf); (try (refine ⟨by kernel_rfl, ?_⟩; conv => whnf))
  refine ⟨_, ret_of_fn G0ok (tk) (by first | rfl | simp only [noHs, noH, nI, bI, Bool.and_self, Bool.and_true, Bool.true_and, nG, nG3, nP3, nP, nQ, intsC_noHs]) (by first | rfl | simp only [noHs, noH, nI, bI, Bool.and_self, Bool.and_true, Bool.true_and, nG, nG3, nP3, nP, nQ, intsC_noHs]), ?_⟩; (conv => whnf); (try (refine ⟨by kernel_rfl, ?_⟩; conv => whnf))
  have ndo : (s.out.map PaD.id).Nodup := (List.nodup_append.1 ndd).1
  refine vloop_invK G0ok [(0, some 1), (1, some 2), (2, some 3), (3, some 4)] 4 (X := Nat) (fun i => [(37, nI .i64 i), (36, nI .i64 s.out.length), (35, .ds false s.out.length (rows PaD.cells s.out)), (12, .mp 3), (11, nI .i64 0), (10, .ds false L.length (intsC L)), (9, .ptr 2 0), (8, bI true), (6, .ptr 1 0), (5, .ptr 0 0), (4, bI false)])
    (fun i => [(0, some [nI .i64 g.l0, nI .i64 g.l1, nI .i64 g.l2, nI .i64 g.b0, nI .i64 g.b1, nI .i64 g.b2, nI .i64 g.now, .ds true 0 [], .ds true 0 []]), (1, some [nI .i64 s.g.l0, nI .i64 s.g.l1, nI .i64 s.g.l2, nI .i64 s.g.b0, nI .i64 s.g.b1, nI .i64 s.g.b2, nI .i64 s.g.now, .ds false s.g.past.length (rows QD.cells s.g.past), .ds false s.g.queue.length (rows QD.cells s.g.queue)]), (2, some [nI .i64 s.g.l0, nI .i64 s.g.l1, nI .i64 s.g.l2, nI .i64 s.g.b0, nI .i64 s.g.b1, nI .i64 s.g.b2, nI .i64 (s.g.now + 24), .ds false m3 R3, .ds false 0 []]), (3, some (((s.out.map PaD.id).take i).map oneE))]) (fun i => i ≤ s.out.length) (fun i => s.out.length - i) 0 rfl
    ⟨⟨_, rfl, conv_nI (rfl)⟩, ⟨_, rfl, conv_nI (rfl)⟩, ⟨_, rfl, conv_eq rfl (nO)⟩, ⟨_, rfl, .mp rfl⟩, ⟨_, rfl, conv_nI (rfl)⟩, ⟨_, rfl, conv_eq rfl (intsC_noHs _)⟩, ⟨_, rfl, .ptr rfl⟩, ⟨_, rfl, .same rfl⟩, ⟨_, rfl, .ptr rfl⟩, ⟨_, rfl, .ptr rfl⟩, ⟨_, rfl, .same rfl⟩, trivial⟩ ⟨.inr ⟨_, _, rfl, rfl, .same rfl⟩, .inr ⟨_, _, rfl, rfl, convs_eq rfl (nG)⟩, .inr ⟨_, _, rfl, rfl, convs_eq rfl (nG3)⟩, .inr ⟨_, _, rfl, rfl, convs_eq (rfl) (oneE_noHs _)⟩, trivial⟩ (Nat.zero_le _) ?_
  intro i hi
  try dsimp only at hi ⊢
  refine wpv_ok Γok (by kernel_rfl) _ _ _ ?_; conv => whnf
  refine bool_cases (fun hd => ?_) (fun hd => ?_)
  · have hd := of_decide_eq_true hd
    have hd : i < s.out.length := by omega
    have hd' : i < (s.out.map PaD.id).length := by rw [List.length_map]; exact hd
    have fresh := nodup_new ndo hd'
    have tk1 : (s.out.map PaD.id).take (i + 1) = (s.out.map PaD.id).take i ++ [(s.out.map PaD.id)[i]] := by rw [List.take_add_one, List.getElem?_eq_getElem hd']; rfl
    have eid : (s.out.map PaD.id)[i] = s.out[i].id := List.getElem_map _
    have b1 := bg _ (List.getElem_mem hd)
    have b2 := bigc _ (List.getElem_mem hd)
    rw [b2] at b1
    have lt' : ((s.out.map PaD.id).take i).length = i := by rw [List.length_take]; omega
    conv => whnf
    try (refine ⟨by kernel_rfl, ?_⟩; conv => whnf)
    refine bindP_intro (if_pos (inB_ok (by omega) (by omega))) ?_; conv => whnf
    refine bindP_intro (row_load (f := PaD.cells) (i := i) (w := 5) rfl rfl rfl (fun a _ => rfl) (by dsimp only; omega) hd) ?_
    rw [eid] at fresh tk1
    refine gen_ex s.out[i] fun p ep => ?_
    rw [← ep] at b1 fresh tk1 ⊢
    refine gen_ex ((s.out.map PaD.id).take i) fun A eA => ?_
    rw [← eA] at fresh tk1 lt' ⊢
    have pc : p.cells = [nI .i64 p.id, nI .i64 p.v, nI .i64 p.ch, nI .i64 p.t, bI p.held] := rfl
    rw [pc]
    conv => whnf
    try (refine ⟨by kernel_rfl, ?_⟩; conv => whnf)
    refine ⟨_, _, mapTyI, _, zeroI, none, one_new fresh, ?_⟩
    conv => whnf
    try (refine ⟨by kernel_rfl, ?_⟩; conv => whnf)
    refine ⟨_, _, mapTyI, none, one_new fresh, ?_⟩
    conv => whnf
    try (refine ⟨by kernel_rfl, ?_⟩; conv => whnf)
    have hcc : p.ch = 0 ∨ p.ch = 1 ∨ p.ch = 2 := by omega
    have dn : decide (p.held = true) = p.held := by cases p.held <;> rfl
    rcases hcc with e | e | e
    all_goals
      rw [e] at b1 ⊢
      simp at b1
      conv => whnf
      try (refine ⟨by kernel_rfl, ?_⟩; conv => whnf)
    · by_cases h1 : p.v ≥ g.b0
      · rw [decide_eq_true h1]
        have hh : p.held = true := b1.resolve_right (by omega)
        rw [hh]
        conv => whnf
        try (refine ⟨by kernel_rfl, ?_⟩; conv => whnf)
        refine next_round (y := i) G0ok (i + 1) [(0, some 0), (1, some 1), (2, some 2), (3, some 3)] rfl ⟨⟨_, rfl, conv_nI (ws_i64 (by omega) (by omega))⟩, ⟨_, rfl, conv_nI (rfl)⟩, ⟨_, rfl, conv_eq rfl (nO)⟩, ⟨_, rfl, .mp rfl⟩, ⟨_, rfl, conv_nI (rfl)⟩, ⟨_, rfl, conv_eq rfl (intsC_noHs _)⟩, ⟨_, rfl, .ptr rfl⟩, ⟨_, rfl, .same rfl⟩, ⟨_, rfl, .ptr rfl⟩, ⟨_, rfl, .ptr rfl⟩, ⟨_, rfl, .same rfl⟩, trivial⟩ ⟨.inr ⟨_, _, rfl, rfl, .same rfl⟩, .inr ⟨_, _, rfl, rfl, convs_eq rfl (nG)⟩, .inr ⟨_, _, rfl, rfl, convs_eq rfl (nG3)⟩, .inr ⟨_, _, rfl, rfl, convs_eq (by rw [tk1, List.map_append]; show _ ++ [ent .i64 p.id (nI .i64 (wS .i64 (0 + 1)))] = _; rw [ws_i64 (x := 0 + 1) (by decide) (by decide)]; rfl) (oneE_noHs _)⟩, trivial⟩ (by omega) (by omega)

      · rw [decide_eq_false h1]
        conv => whnf
        try (refine ⟨by kernel_rfl, ?_⟩; conv => whnf)
        refine next_round (y := i) G0ok (i + 1) [(0, some 0), (1, some 1), (2, some 2), (3, some 3)] rfl ⟨⟨_, rfl, conv_nI (ws_i64 (by omega) (by omega))⟩, ⟨_, rfl, conv_nI (rfl)⟩, ⟨_, rfl, conv_eq rfl (nO)⟩, ⟨_, rfl, .mp rfl⟩, ⟨_, rfl, conv_nI (rfl)⟩, ⟨_, rfl, conv_eq rfl (intsC_noHs _)⟩, ⟨_, rfl, .ptr rfl⟩, ⟨_, rfl, .same rfl⟩, ⟨_, rfl, .ptr rfl⟩, ⟨_, rfl, .ptr rfl⟩, ⟨_, rfl, .same rfl⟩, trivial⟩ ⟨.inr ⟨_, _, rfl, rfl, .same rfl⟩, .inr ⟨_, _, rfl, rfl, convs_eq rfl (nG)⟩, .inr ⟨_, _, rfl, rfl, convs_eq rfl (nG3)⟩, .inr ⟨_, _, rfl, rfl, convs_eq (by rw [tk1, List.map_append]; show _ ++ [ent .i64 p.id (nI .i64 (wS .i64 (0 + 1)))] = _; rw [ws_i64 (x := 0 + 1) (by decide) (by decide)]; rfl) (oneE_noHs _)⟩, trivial⟩ (by omega) (by omega)

    · by_cases h1 : p.v ≥ g.b1
      · rw [decide_eq_true h1]
        have hh : p.held = true := b1.resolve_right (by omega)
        rw [hh]
        conv => whnf
        try (refine ⟨by kernel_rfl, ?_⟩; conv => whnf)
        refine next_round (y := i) G0ok (i + 1) [(0, some 0), (1, some 1), (2, some 2), (3, some 3)] rfl ⟨⟨_, rfl, conv_nI (ws_i64 (by omega) (by omega))⟩, ⟨_, rfl, conv_nI (rfl)⟩, ⟨_, rfl, conv_eq rfl (nO)⟩, ⟨_, rfl, .mp rfl⟩, ⟨_, rfl, conv_nI (rfl)⟩, ⟨_, rfl, conv_eq rfl (intsC_noHs _)⟩, ⟨_, rfl, .ptr rfl⟩, ⟨_, rfl, .same rfl⟩, ⟨_, rfl, .ptr rfl⟩, ⟨_, rfl, .ptr rfl⟩, ⟨_, rfl, .same rfl⟩, trivial⟩ ⟨.inr ⟨_, _, rfl, rfl, .same rfl⟩, .inr ⟨_, _, rfl, rfl, convs_eq rfl (nG)⟩, .inr ⟨_, _, rfl, rfl, convs_eq rfl (nG3)⟩, .inr ⟨_, _, rfl, rfl, convs_eq (by rw [tk1, List.map_append]; show _ ++ [ent .i64 p.id (nI .i64 (wS .i64 (0 + 1)))] = _; rw [ws_i64 (x := 0 + 1) (by decide) (by decide)]; rfl) (oneE_noHs _)⟩, trivial⟩ (by omega) (by omega)

      · rw [decide_eq_false h1]
        conv => whnf
        try (refine ⟨by kernel_rfl, ?_⟩; conv => whnf)
        refine next_round (y := i) G0ok (i + 1) [(0, some 0), (1, some 1), (2, some 2), (3, some 3)] rfl ⟨⟨_, rfl, conv_nI (ws_i64 (by omega) (by omega))⟩, ⟨_, rfl, conv_nI (rfl)⟩, ⟨_, rfl, conv_eq rfl (nO)⟩, ⟨_, rfl, .mp rfl⟩, ⟨_, rfl, conv_nI (rfl)⟩, ⟨_, rfl, conv_eq rfl (intsC_noHs _)⟩, ⟨_, rfl, .ptr rfl⟩, ⟨_, rfl, .same rfl⟩, ⟨_, rfl, .ptr rfl⟩, ⟨_, rfl, .ptr rfl⟩, ⟨_, rfl, .same rfl⟩, trivial⟩ ⟨.inr ⟨_, _, rfl, rfl, .same rfl⟩, .inr ⟨_, _, rfl, rfl, convs_eq rfl (nG)⟩, .inr ⟨_, _, rfl, rfl, convs_eq rfl (nG3)⟩, .inr ⟨_, _, rfl, rfl, convs_eq (by rw [tk1, List.map_append]; show _ ++ [ent .i64 p.id (nI .i64 (wS .i64 (0 + 1)))] = _; rw [ws_i64 (x := 0 + 1) (by decide) (by decide)]; rfl) (oneE_noHs _)⟩, trivial⟩ (by omega) (by omega)

    · by_cases h1 : p.v ≥ g.b2
      · rw [decide_eq_true h1]
        have hh : p.held = true := b1.resolve_right (by omega)
        rw [hh]
        conv => whnf
        try (refine ⟨by kernel_rfl, ?_⟩; conv => whnf)
        refine next_round (y := i) G0ok (i + 1) [(0, some 0), (1, some 1), (2, some 2), (3, some 3)] rfl ⟨⟨_, rfl, conv_nI (ws_i64 (by omega) (by omega))⟩, ⟨_, rfl, conv_nI (rfl)⟩, ⟨_, rfl, conv_eq rfl (nO)⟩, ⟨_, rfl, .mp rfl⟩, ⟨_, rfl, conv_nI (rfl)⟩, ⟨_, rfl, conv_eq rfl (intsC_noHs _)⟩, ⟨_, rfl, .ptr rfl⟩, ⟨_, rfl, .same rfl⟩, ⟨_, rfl, .ptr rfl⟩, ⟨_, rfl, .ptr rfl⟩, ⟨_, rfl, .same rfl⟩, trivial⟩ ⟨.inr ⟨_, _, rfl, rfl, .same rfl⟩, .inr ⟨_, _, rfl, rfl, convs_eq rfl (nG)⟩, .inr ⟨_, _, rfl, rfl, convs_eq rfl (nG3)⟩, .inr ⟨_, _, rfl, rfl, convs_eq (by rw [tk1, List.map_append]; show _ ++ [ent .i64 p.id (nI .i64 (wS .i64 (0 + 1)))] = _; rw [ws_i64 (x := 0 + 1) (by decide) (by decide)]; rfl) (oneE_noHs _)⟩, trivial⟩ (by omega) (by omega)

      · rw [decide_eq_false h1]
        conv => whnf
        try (refine ⟨by kernel_rfl, ?_⟩; conv => whnf)
        refine next_round (y := i) G0ok (i + 1) [(0, some 0), (1, some 1), (2, some 2), (3, some 3)] rfl ⟨⟨_, rfl, conv_nI (ws_i64 (by omega) (by omega))⟩, ⟨_, rfl, conv_nI (rfl)⟩, ⟨_, rfl, conv_eq rfl (nO)⟩, ⟨_, rfl, .mp rfl⟩, ⟨_, rfl, conv_nI (rfl)⟩, ⟨_, rfl, conv_eq rfl (intsC_noHs _)⟩, ⟨_, rfl, .ptr rfl⟩, ⟨_, rfl, .same rfl⟩, ⟨_, rfl, .ptr rfl⟩, ⟨_, rfl, .ptr rfl⟩, ⟨_, rfl, .same rfl⟩, trivial⟩ ⟨.inr ⟨_, _, rfl, rfl, .same rfl⟩, .inr ⟨_, _, rfl, rfl, convs_eq rfl (nG)⟩, .inr ⟨_, _, rfl, rfl, convs_eq rfl (nG3)⟩, .inr ⟨_, _, rfl, rfl, convs_eq (by rw [tk1, List.map_append]; show _ ++ [ent .i64 p.id (nI .i64 (wS .i64 (0 + 1)))] = _; rw [ws_i64 (x := 0 + 1) (by decide) (by decide)]; rfl) (oneE_noHs _)⟩, trivial⟩ (by omega) (by omega)

  · have hd := of_decide_eq_false hd
    have e : i = s.out.length := by omega
    subst e
    rw [show (s.out.map PaD.id).take s.out.length = s.out.map PaD.id from List.take_of_length_le (by rw [List.length_map]; exact Nat.le_refl _)]
    have lOI : (s.out.map PaD.id).length = s.out.length := List.length_map _
    refine gen_ex (s.out.map PaD.id) fun O eO => ?_
    rw [← eO] at ndd lOI ⊢
    conv => whnf
    try (refine ⟨by kernel_rfl, ?_⟩; conv => whnf)
    refine vloop_invK G0ok [(0, some 0), (1, some 1), (2, some 2), (3, some 3)] 4 (X := Nat) (fun j => [(62, nI .i64 j), (61, nI .i64 L.length), (60, .ds false L.length (intsC L)), (12, .mp 3), (11, nI .i64 0), (10, .ds false L.length (intsC L)), (9, .ptr 2 0), (8, bI true), (6, .ptr 1 0), (4, bI false)])
      (fun j => [(0, some [nI .i64 g.l0, nI .i64 g.l1, nI .i64 g.l2, nI .i64 g.b0, nI .i64 g.b1, nI .i64 g.b2, nI .i64 g.now, .ds true 0 [], .ds true 0 []]), (1, some [nI .i64 s.g.l0, nI .i64 s.g.l1, nI .i64 s.g.l2, nI .i64 s.g.b0, nI .i64 s.g.b1, nI .i64 s.g.b2, nI .i64 s.g.now, .ds false s.g.past.length (rows QD.cells s.g.past), .ds false s.g.queue.length (rows QD.cells s.g.queue)]), (2, some [nI .i64 s.g.l0, nI .i64 s.g.l1, nI .i64 s.g.l2, nI .i64 s.g.b0, nI .i64 s.g.b1, nI .i64 s.g.b2, nI .i64 (s.g.now + 24), .ds false m3 R3, .ds false 0 []]), (3, some ((O ++ L.take j).map oneE))]) (fun j => j ≤ L.length) (fun j => L.length - j) 0 rfl
      ⟨⟨_, rfl, conv_nI (rfl)⟩, ⟨_, rfl, conv_nI (rfl)⟩, ⟨_, rfl, conv_eq rfl (intsC_noHs _)⟩, ⟨_, rfl, .mp rfl⟩, ⟨_, rfl, conv_nI (rfl)⟩, ⟨_, rfl, conv_eq rfl (intsC_noHs _)⟩, ⟨_, rfl, .ptr rfl⟩, ⟨_, rfl, .same rfl⟩, ⟨_, rfl, .ptr rfl⟩, ⟨_, rfl, .same rfl⟩, trivial⟩ ⟨.inr ⟨_, _, rfl, rfl, .same rfl⟩, .inr ⟨_, _, rfl, rfl, convs_eq rfl (nG)⟩, .inr ⟨_, _, rfl, rfl, convs_eq rfl (nG3)⟩, .inr ⟨_, _, rfl, rfl, convs_eq (by rw [List.take_zero, List.append_nil]) (oneE_noHs _)⟩, trivial⟩ (Nat.zero_le _) ?_
    intro j hj
    try dsimp only at hj ⊢
    refine wpv_ok Γok (by kernel_rfl) _ _ _ ?_; conv => whnf
    refine bool_cases (fun hd => ?_) (fun hd => ?_)
    · have hd := of_decide_eq_true hd
      have hd : j < L.length := by omega
      have tk1 : O ++ L.take (j + 1) = (O ++ L.take j) ++ [L[j]] := by rw [List.take_add_one, List.getElem?_eq_getElem hd, List.append_assoc]; rfl
      have fresh : L[j] ∉ O ++ L.take j := fun hm => by
        rw [← List.take_append_drop j L, List.drop_eq_getElem_cons hd, ← List.append_assoc, List.nodup_append] at ndd
        exact ndd.2.2 _ hm _ List.mem_cons_self rfl
      have ix : (intsC L)[j]? = some (nI .i64 L[j]) := by unfold intsC; rw [List.getElem?_map, List.getElem?_eq_getElem hd]; rfl
      refine gen_ex L[j] fun z ez => ?_
      rw [← ez] at fresh tk1 ix
      refine gen_ex (O ++ L.take j) fun A eA => ?_
      rw [← eA] at fresh tk1 ⊢
      conv => whnf
      try (refine ⟨by kernel_rfl, ?_⟩; conv => whnf)
      refine bindP_intro (if_pos (inB_ok (by omega) (by omega))) ?_; conv => whnf
      refine bindP_intro (show (intsC L)[_]? = some (nI .i64 z) from by rw [← ix]; congr 1; dsimp only; omega) ?_
      conv => whnf
      try (refine ⟨by kernel_rfl, ?_⟩; conv => whnf)
      refine ⟨_, _, mapTyI, _, zeroI, none, one_new fresh, ?_⟩
      conv => whnf
      try (refine ⟨by kernel_rfl, ?_⟩; conv => whnf)
      refine ⟨_, _, mapTyI, none, one_new fresh, ?_⟩
      conv => whnf
      try (refine ⟨by kernel_rfl, ?_⟩; conv => whnf)
      refine next_round (y := j) G0ok (j + 1) [(0, some 0), (1, some 1), (2, some 2), (3, some 3)] rfl ⟨⟨_, rfl, conv_nI (ws_i64 (by omega) (by omega))⟩, ⟨_, rfl, conv_nI (rfl)⟩, ⟨_, rfl, conv_eq rfl (intsC_noHs _)⟩, ⟨_, rfl, .mp rfl⟩, ⟨_, rfl, conv_nI (rfl)⟩, ⟨_, rfl, conv_eq rfl (intsC_noHs _)⟩, ⟨_, rfl, .ptr rfl⟩, ⟨_, rfl, .same rfl⟩, ⟨_, rfl, .ptr rfl⟩, ⟨_, rfl, .same rfl⟩, trivial⟩ ⟨.inr ⟨_, _, rfl, rfl, .same rfl⟩, .inr ⟨_, _, rfl, rfl, convs_eq rfl (nG)⟩, .inr ⟨_, _, rfl, rfl, convs_eq rfl (nG3)⟩, .inr ⟨_, _, rfl, rfl, convs_eq (by rw [tk1, List.map_append]; show _ ++ [ent .i64 z (nI .i64 (wS .i64 (0 + 1)))] = _; rw [ws_i64 (x := 0 + 1) (by decide) (by decide)]; rfl) (oneE_noHs _)⟩, trivial⟩ (by omega) (by omega)

    · have hd := of_decide_eq_false hd
      have e : j = L.length := by omega
      subst e
      rw [List.take_length]
      have all1 : ∀ c ∈ (O ++ L).map oneE, ∃ y, c = .tup [y, nI .i64 1] := fun c hc => by
        obtain ⟨z, _, rfl⟩ := List.mem_map.1 hc
        exact ⟨_, rfl⟩
      refine gen_ex ((O ++ L).map oneE) fun C eC => ?_
      have nC : noHs C = true := by rw [eC]; exact oneE_noHs _
      rw [← eC] at all1 ⊢
      conv => whnf
      try (refine ⟨by kernel_rfl, ?_⟩; conv => whnf)
      refine ⟨_, _, _, mapTyI, ?_⟩
      conv => whnf
      try (refine ⟨by kernel_rfl, ?_⟩; conv => whnf)
      refine vloop_invK G0ok [(0, some 1), (1, some 2), (2, some 3), (3, some 4)] 4 (X := Nat) (fun q => [(72, .it 3), (11, nI .i64 0), (10, .ds false L.length (intsC L)), (9, .ptr 1 0), (8, bI true), (6, .ptr 0 0), (4, bI false)])
        (fun q => [(0, some [nI .i64 s.g.l0, nI .i64 s.g.l1, nI .i64 s.g.l2, nI .i64 s.g.b0, nI .i64 s.g.b1, nI .i64 s.g.b2, nI .i64 s.g.now, .ds false s.g.past.length (rows QD.cells s.g.past), .ds false s.g.queue.length (rows QD.cells s.g.queue)]), (1, some [nI .i64 s.g.l0, nI .i64 s.g.l1, nI .i64 s.g.l2, nI .i64 s.g.b0, nI .i64 s.g.b1, nI .i64 s.g.b2, nI .i64 (s.g.now + 24), .ds false m3 R3, .ds false 0 []]), (2, some C), (3, some [.tup [.mp 2, nI .i64 (q : Nat), nI .i64 (C.length : Nat)]])]) (fun q => q ≤ C.length) (fun q => C.length - q) 0 rfl
        ⟨⟨_, rfl, .it rfl⟩, ⟨_, rfl, conv_nI (rfl)⟩, ⟨_, rfl, conv_eq rfl (intsC_noHs _)⟩, ⟨_, rfl, .ptr rfl⟩, ⟨_, rfl, .same rfl⟩, ⟨_, rfl, .ptr rfl⟩, ⟨_, rfl, .same rfl⟩, trivial⟩ ⟨.inr ⟨_, _, rfl, rfl, convs_eq rfl (nG)⟩, .inr ⟨_, _, rfl, rfl, convs_eq rfl (nG3)⟩, .inr ⟨_, _, rfl, rfl, convs_eq rfl (nC)⟩, .inr ⟨_, _, rfl, rfl, .cons (.tup (.cons (.mp rfl) (.same rfl))) .nil⟩, trivial⟩ (Nat.zero_le _) ?_
      intro q hq
      try dsimp only at hq ⊢
      refine wpv_ok Γok (by kernel_rfl) _ _ _ ?_; conv => whnf
      refine ⟨2, q, C, nI .i64 1, rfl, rfl, all1, ?_⟩
      by_cases hqe : q = C.length
      · rw [show Nat.beq q C.length = true from by rw [hqe]; exact Nat.beq_refl _]
        conv => whnf
        try (refine ⟨by kernel_rfl, ?_⟩; conv => whnf)
        refine ⟨_, ret_of_fn G0ok (te) (by first | rfl | simp only [noHs, noH, nI, bI, Bool.and_self, Bool.and_true, Bool.true_and, ]) (by first | rfl | simp only [noHs, noH, nI, bI, Bool.and_self, Bool.and_true, Bool.true_and, ]), ?_⟩; (conv => whnf); (try (refine ⟨by kernel_rfl, ?_⟩; conv => whnf))
        rw [show ((L.length : Int) == (s.g.queue.length : Int)) = true from by rw [lL]; exact beq_self_eq_true _]
        conv => whnf
        try (refine ⟨by kernel_rfl, ?_⟩; conv => whnf)
        rw [ws_i64 (x := s.g.now + 24) (by omega) (by omega), show (s.g.now + 24 == s.g.now + 24) = true from beq_self_eq_true _]
        exact ⟨_, rfl, rfl⟩
      · rw [show Nat.beq q C.length = false from by cases e : Nat.beq q C.length with | false => rfl | true => exact absurd (Nat.eq_of_beq_eq_true e) hqe]
        conv => whnf
        try (refine ⟨by kernel_rfl, ?_⟩; conv => whnf)
        refine ⟨2, q + 1, C, nI .i64 1, rfl, rfl, all1, Nat.succ_le_succ (Nat.zero_le _), ?_⟩
        conv => whnf
        try (refine ⟨by kernel_rfl, ?_⟩; conv => whnf)
        refine next_round (y := q) G0ok (q + 1) [(0, some 0), (1, some 1), (2, some 2), (3, some 3)] rfl ⟨⟨_, rfl, .it rfl⟩, ⟨_, rfl, conv_nI (rfl)⟩, ⟨_, rfl, conv_eq rfl (intsC_noHs _)⟩, ⟨_, rfl, .ptr rfl⟩, ⟨_, rfl, .same rfl⟩, ⟨_, rfl, .ptr rfl⟩, ⟨_, rfl, .same rfl⟩, trivial⟩ ⟨.inr ⟨_, _, rfl, rfl, convs_eq rfl (nG)⟩, .inr ⟨_, _, rfl, rfl, convs_eq rfl (nG3)⟩, .inr ⟨_, _, rfl, rfl, convs_eq rfl (nC)⟩, .inr ⟨_, _, rfl, rfl, .cons (.tup (.cons (.mp rfl) (.same rfl))) .nil⟩, trivial⟩ (by omega) (by omega)
namespace lawGateWaits
set_option linter.unusedVariables false
set_option maxRecDepth 100000 in
theorem lifted (os : Os) (started : os.Started) (H : Type) (enc : TypeId × Value → H) :
    ReturnsInHanded {} Try.checked os 6 .any (Rows.gateWaitsSpec.pre6 enc Try.prog Try.f6 Rows.gateWaitsRow.domain false) (Rows.gateWaitsSpec.post enc Try.prog Try.f6 false true false false) := by
  refine returnsInHanded_of_change (C := Try.checked) rowOwn started (by kernel_rfl) Try.func6
    (ChangeSpec.witness6 (enc := enc) (C := Try.checked) false ⟨#[], #[.agg #[.int .i64 0, .int .i64 0, .int .i64 0, .string ByteArray.empty], .slice none 0 0], []⟩ 8 (by kernel_rfl) (by kernel_rfl) (by kernel_rfl) (by kernel_rfl)) ?_
  intro W base args ds gs before hval0 hW hcnd _
  have hval : ∀ (j : Nat) t v, Try.f6.params[j]? = some t → args[j]? = some v → Value.okWide Try.prog W .any base t v := hval0
  have hW' := hW
  obtain ⟨p, q, hA0, hV, rfl, hfz, hnd⟩ := hW
  have hA : DataW.TrodAll enc Try.prog W 0 (fun _ => true) true Try.f6.params.toList args.toList ds p := hA0
  rw [Try.params6] at hA hval
  obtain ⟨v0, vs0, d0, ds0, p0, q0, hargs, rfl, rfl, h0, r0⟩ := trodAll_cons hA
  obtain ⟨v1, vs1, d1, ds1, p1, q1, rfl, rfl, rfl, h1, r1⟩ := trodAll_cons r0
  obtain ⟨rfl, rfl, rfl⟩ := trodAll_nil r1
  obtain rfl : args = #[v0, v1] := by cases args; simp_all
  obtain ⟨rfl, rfl⟩ := trodVars_none hV
  have k0 := h0
  have lt0 : ∀ x ∈ p0, x.block < W.heap.size := by obtain ⟨m, hm⟩ := k0; exact DataW.trod_lt m _ _ _ hm
  obtain ⟨a0, w0, u0⟩ := raw_open (hval 0 23 v0 rfl rfl) h0
  have k1 := h1
  have lt1 : ∀ x ∈ p1, x.block < W.heap.size := by obtain ⟨m, hm⟩ := k1; exact DataW.trod_lt m _ _ _ hm
  obtain ⟨a1, l1, w1, u1⟩ := raws_open (hval 1 24 v1 rfl rfl) h1
  clear hA0 hval0
  refine (calls_of_fn Try.func6 (by kernel_rfl) rfl (fnGateWaits a0 a1 w0 l1 w1) (fun _ _ h => by cases h) (VRs.cons (u0 _) (VRs.cons u1 VRs.snoc_nil))).mono fun e W' ⟨he, bel⟩ => ?_
  subst he
  exact ⟨_, rfl, _, _, _, [], _, [], hW', trodAll_mk1 (shut_bool Try.underlying4 _), (trodAll_cons_mk (Below.trod rowLaid (by kernel_rfl) (of_decide_eq_true (by kernel_rfl)) k0 bel lt0) (trodAll_cons_mk (Below.trod rowLaid (by kernel_rfl) (of_decide_eq_true (by kernel_rfl)) k1 bel lt1) trodAll_mk0)), rfl, bel.frame _, fun h => by cases h⟩
theorem over : Rows.gateWaitsRow.holds Try.pinned (OpenSpec.ofChange Rows.gateWaitsSpec) :=
  OpenClaim.holds_of_wide 6 Try.f6 rfl rfl rfl rfl rfl rfl rfl ⟨rfl, rfl, rfl, rfl, rfl⟩ rfl rfl rfl rfl rfl (by kernel_rfl) Try.func6 (by kernel_rfl)
    (of_decide_eq_true (by kernel_rfl)) (by unfold Func.isWrapper; first | (rw [if_pos (by decide +kernel)]; kernel_rfl) | (rw [if_neg (by decide +kernel)]; exact ⟨rfl, rfl⟩))
    (fun os started H enc _ => lifted os started H enc)
theorem proved : Rows.GateWaitsSaid := over
end lawGateWaits

end Go.Proofs.Ytilmfdlonpjjiaa
