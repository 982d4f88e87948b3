/- gate.Offer, by the engine. -/
import Derived.Test.YtilmfdlonpjjiaaVGateC
namespace Go.Proofs.Ytilmfdlonpjjiaa
set_option linter.unusedVariables false
set_option linter.unusedSimpArgs false
set_option linter.unusedSectionVars false
open Go.ChangeShapes Go.WideShapes Go.ChangeAt Go.RowKit Go.Joins
set_option maxRecDepth 10000
theorem own_rn (g : GtD) (n : Nat) : rnVs (hmap [] 0 n) (g.own 0 1) = g.own n (n + 1) := rfl
theorem gfresh_ret {fp fq : Bool} {g : GtD} {n : Nat} {lkf : Nat → Option (List VV)} (h1 : g.past.length ≤ 100) (h2 : g.queue.length ≤ 100) :
    Ret Try.prog G0 41 [.agg (g.cells fp fq)] lkf n ⟨.agg (g.own n (n + 1)), [], [(n, some (rows QD.cells g.past)), (n + 1, some (rows QD.cells g.queue))], 2⟩ :=
  ret_fnH G0ok (gfresh_fnH h1 h2) [] rfl rfl rfl (lowVs_noHs (show noHs [VV.agg (g.cells fp fq)] = true from by simp only [noHs, noH, gtd_noHs, Bool.and_self])) rfl trivial ⟨⟨trivial, fun ds e => (Option.some.inj (show some (rows QD.cells g.past) = some ds from e)) ▸ lowVs_noHs (rowsQ_noHs _)⟩, fun ds e => (Option.some.inj (show some (rows QD.cells g.queue) = some ds from e)) ▸ lowVs_noHs (rowsQ_noHs _)⟩
    (rnVs_no _ _ (show noHs [VV.agg (g.cells fp fq)] = true from by simp only [noHs, noH, gtd_noHs, Bool.and_self])) rfl (by show [(n + 0, some (rnVs _ (rows QD.cells g.past))), (n + 1, some (rnVs _ (rows QD.cells g.queue)))] = _; rw [rnVs_no _ _ (rowsQ_noHs _), rnVs_no _ _ (rowsQ_noHs _)]; rfl)
/-- No gate. -/
def gtZ : GtD := ⟨0, 0, 0, 0, 0, 0, 0, [], []⟩
def gtErr (e : Nat) : VV := .tup [.agg (gtZ.cells true true), bI false, nI .i64 e]
theorem goff_bad {fp fq : Bool} {g : GtD} {id n ch : Int} (h : chkGt g ≠ 0) : FnV Try.prog G0 22 [.agg (g.cells fp fq), nI .i64 id, nI .i64 n, nI .i64 ch] (gtErr (chkGt g)) := by
  have ck := gcheck_fn (fp := fp) (fq := fq) (g := g)
  have nP := rowsQ_noHs g.past
  have nQ := rowsQ_noHs g.queue
  have nG := gtd_noHs fp fq g
  unfold GtD.cells at ck nG ⊢
  refine gen_ex (chkGt g) fun c ec => ?_
  rw [← ec] at ck h ⊢
  refine fn_of_vwp Γok Try.func22 (by kernel_rfl) rfl (by simp [Try.ntmps22]) (wpv_ok Γok (by kernel_rfl) _ _ _ ?_); conv => whnf
  refine ⟨_, ret_of_fn G0ok (ck) (by first | rfl | simp only [noHs, noH, nI, bI, Bool.and_self, Bool.and_true, Bool.true_and, nP, nQ]) (by first | rfl | simp only [noHs, noH, nI, bI, Bool.and_self, Bool.and_true, Bool.true_and, nP, nQ]), ?_⟩; (conv => whnf); (try (refine ⟨by kernel_rfl, ?_⟩; conv => whnf))
  rw [show (((c : Nat) : Int) != 0) = true from by rw [bne_iff_ne]; omega]
  conv => whnf
  try (refine ⟨by kernel_rfl, ?_⟩; conv => whnf)
  exact ⟨_, rfl, rfl⟩
theorem goff_range {fp fq : Bool} {g : GtD} {id n ch : Int} (h : chkGt g = 0) (hr : valB n = false ∨ ch < 0 ∨ 3 ≤ ch) : FnV Try.prog G0 22 [.agg (g.cells fp fq), nI .i64 id, nI .i64 n, nI .i64 ch] (gtErr 6) := by
  have ck := gcheck_fn (fp := fp) (fq := fq) (g := g)
  rw [h] at ck
  have nP := rowsQ_noHs g.past
  have nQ := rowsQ_noHs g.queue
  have nG := gtd_noHs fp fq g
  unfold GtD.cells at ck nG ⊢
  refine fn_of_vwp Γok Try.func22 (by kernel_rfl) rfl (by simp [Try.ntmps22]) (wpv_ok Γok (by kernel_rfl) _ _ _ ?_); conv => whnf
  refine ⟨_, ret_of_fn G0ok (ck) (by first | rfl | simp only [noHs, noH, nI, bI, Bool.and_self, Bool.and_true, Bool.true_and, nP, nQ]) (by first | rfl | simp only [noHs, noH, nI, bI, Bool.and_self, Bool.and_true, Bool.true_and, nP, nQ]), ?_⟩; (conv => whnf); (try (refine ⟨by kernel_rfl, ?_⟩; conv => whnf))
  refine ⟨_, ret_of_fn G0ok (gvalue_fn n) (by first | rfl | simp only [noHs, noH, nI, bI, Bool.and_self, Bool.and_true, Bool.true_and, ]) (by first | rfl | simp only [noHs, noH, nI, bI, Bool.and_self, Bool.and_true, Bool.true_and, ]), ?_⟩; (conv => whnf); (try (refine ⟨by kernel_rfl, ?_⟩; conv => whnf))
  cases hv : valB n with
  | false =>
    conv => whnf
    try (refine ⟨by kernel_rfl, ?_⟩; conv => whnf)
    exact ⟨_, rfl, rfl⟩
  | true =>
    rw [hv] at hr
    have hr : ch < 0 ∨ 3 ≤ ch := by rcases hr with h | h; exact absurd h (by decide); exact h
    conv => whnf
    try (refine ⟨by kernel_rfl, ?_⟩; conv => whnf)
    by_cases h1 : ch < 0
    · rw [decide_eq_true h1]
      conv => whnf
      try (refine ⟨by kernel_rfl, ?_⟩; conv => whnf)
      exact ⟨_, rfl, rfl⟩
    · rw [decide_eq_false h1]
      conv => whnf
      try (refine ⟨by kernel_rfl, ?_⟩; conv => whnf)
      rw [decide_eq_true (show ch ≥ 3 by omega)]
      conv => whnf
      try (refine ⟨by kernel_rfl, ?_⟩; conv => whnf)
      exact ⟨_, rfl, rfl⟩
theorem goff_ok {fp fq : Bool} {g : GtD} {id n ch : Int} {r : VV} (h : chkGt g = 0) (ok : GtOk g) (hn : valB n = true) (hc : 0 ≤ ch ∧ ch < 3)
    (h8 : (∃ q, (q ∈ g.past ∨ q ∈ g.queue) ∧ q.id = id) → r = gtErr 8)
    (h0 : (∀ q, (q ∈ g.past ∨ q ∈ g.queue) → q.id ≠ id) → fitsB g ⟨id, n, ch, g.now⟩ = true → r = .tup [.agg (GtD.cells false false { g with past := g.past ++ [⟨id, n, ch, g.now⟩] }), bI true, nI .i64 0])
    (h9 : (∀ q, (q ∈ g.past ∨ q ∈ g.queue) → q.id ≠ id) → fitsB g ⟨id, n, ch, g.now⟩ = false → g.queue.length = 40 → r = gtErr 9)
    (h1 : (∀ q, (q ∈ g.past ∨ q ∈ g.queue) → q.id ≠ id) → fitsB g ⟨id, n, ch, g.now⟩ = false → g.queue.length ≠ 40 → r = .tup [.agg (GtD.cells false false { g with queue := g.queue ++ [⟨id, n, ch, g.now⟩] }), bI false, nI .i64 0]) :
    FnV Try.prog G0 22 [.agg (g.cells fp fq), nI .i64 id, nI .i64 n, nI .i64 ch] r := by
  have ck := gcheck_fn (fp := fp) (fq := fq) (g := g)
  rw [h] at ck
  have nP := rowsQ_noHs g.past
  have nQ := rowsQ_noHs g.queue
  have nG := gtd_noHs fp fq g
  have nG2 : noHs [VV.agg (g.cells fp fq)] = true := by simp only [noHs, noH, nG, Bool.and_self]
  unfold GtD.cells at ck nG nG2 ⊢
  refine fn_of_vwp Γok Try.func22 (by kernel_rfl) rfl (by simp [Try.ntmps22]) (wpv_ok Γok (by kernel_rfl) _ _ _ ?_); conv => whnf
  refine ⟨_, ret_of_fn G0ok (ck) (by first | rfl | simp only [noHs, noH, nI, bI, Bool.and_self, Bool.and_true, Bool.true_and, nP, nQ]) (by first | rfl | simp only [noHs, noH, nI, bI, Bool.and_self, Bool.and_true, Bool.true_and, nP, nQ]), ?_⟩; (conv => whnf); (try (refine ⟨by kernel_rfl, ?_⟩; conv => whnf))
  refine ⟨_, ret_of_fn G0ok (gvalue_fn n) (by first | rfl | simp only [noHs, noH, nI, bI, Bool.and_self, Bool.and_true, Bool.true_and, ]) (by first | rfl | simp only [noHs, noH, nI, bI, Bool.and_self, Bool.and_true, Bool.true_and, ]), ?_⟩; (conv => whnf); (try (refine ⟨by kernel_rfl, ?_⟩; conv => whnf))
  rw [hn]
  conv => whnf
  try (refine ⟨by kernel_rfl, ?_⟩; conv => whnf)
  rw [decide_eq_false (show ¬ ch < 0 by omega)]
  conv => whnf
  try (refine ⟨by kernel_rfl, ?_⟩; conv => whnf)
  rw [decide_eq_false (show ¬ ch ≥ 3 by omega)]
  conv => whnf
  try (refine ⟨by kernel_rfl, ?_⟩; conv => whnf)
  have okp := ok.lp
  have okq := ok.lq
  have nA : noH (.agg [.ds fp g.past.length (rows QD.cells g.past), .ds fq g.queue.length (rows QD.cells g.queue)]) = true := by simp only [noH, noHs, nP, nQ, Bool.and_self]
  refine vloop_clean G0ok [(0, some 0), (1, some 1)] 2 [(40, nI .i64 0), (39, .agg [.ds fp g.past.length (rows QD.cells g.past), .ds fq g.queue.length (rows QD.cells g.queue)]), (10, nI .i64 0), (9, bI false), (8, .ptr 1 0), (4, .ptr 0 0), (3, nI .i64 ch), (2, nI .i64 n), (1, nI .i64 id)] [(0, some [nI .i64 g.l0, nI .i64 g.l1, nI .i64 g.l2, nI .i64 g.b0, nI .i64 g.b1, nI .i64 g.b2, nI .i64 g.now, .ds fp g.past.length (rows QD.cells g.past), .ds fq g.queue.length (rows QD.cells g.queue)]), (1, some [nI .i64 0, nI .i64 0, nI .i64 0, nI .i64 0, nI .i64 0, nI .i64 0, nI .i64 0, .ds true 0 [], .ds true 0 []])] rfl ⟨⟨_, rfl, conv_nI (rfl)⟩, ⟨_, rfl, conv_eq rfl (nA)⟩, ⟨_, rfl, conv_nI (rfl)⟩, ⟨_, rfl, .same rfl⟩, ⟨_, rfl, .ptr rfl⟩, ⟨_, rfl, .ptr rfl⟩, ⟨_, rfl, conv_nI (rfl)⟩, ⟨_, rfl, conv_nI (rfl)⟩, ⟨_, rfl, conv_nI (rfl)⟩, trivial⟩ ⟨.inr ⟨_, _, rfl, rfl, .same (nG)⟩, .inr ⟨_, _, rfl, rfl, .same rfl⟩, trivial⟩ ?_
  refine vloop_unroll ?_
  refine wpv_ok Γok (by kernel_rfl) _ _ _ ?_; conv => whnf
  refine vloop_invK G0ok [(0, some 0), (1, some 1)] 2 (X := Nat) (fun j => [(45, nI .i64 j), (44, nI .i64 g.past.length), (43, .ds fp g.past.length (rows QD.cells g.past)), (40, nI .i64 0), (39, .agg [.ds fp g.past.length (rows QD.cells g.past), .ds fq g.queue.length (rows QD.cells g.queue)]), (10, nI .i64 0), (9, bI false), (8, .ptr 1 0), (4, .ptr 0 0), (3, nI .i64 ch), (2, nI .i64 n), (1, nI .i64 id)]) (fun _ => [(0, some [nI .i64 g.l0, nI .i64 g.l1, nI .i64 g.l2, nI .i64 g.b0, nI .i64 g.b1, nI .i64 g.b2, nI .i64 g.now, .ds fp g.past.length (rows QD.cells g.past), .ds fq g.queue.length (rows QD.cells g.queue)]), (1, some [nI .i64 0, nI .i64 0, nI .i64 0, nI .i64 0, nI .i64 0, nI .i64 0, nI .i64 0, .ds true 0 [], .ds true 0 []])])
    (fun j => j ≤ g.past.length ∧ ∀ q ∈ g.past.take j, q.id ≠ id) (fun j => g.past.length - j) 0 rfl ⟨⟨_, rfl, conv_nI (rfl)⟩, ⟨_, rfl, conv_nI (rfl)⟩, ⟨_, rfl, conv_eq rfl (nP)⟩, ⟨_, rfl, conv_nI (rfl)⟩, ⟨_, rfl, conv_eq rfl (nA)⟩, ⟨_, rfl, conv_nI (rfl)⟩, ⟨_, rfl, .same rfl⟩, ⟨_, rfl, .ptr rfl⟩, ⟨_, rfl, .ptr rfl⟩, ⟨_, rfl, conv_nI (rfl)⟩, ⟨_, rfl, conv_nI (rfl)⟩, ⟨_, rfl, conv_nI (rfl)⟩, trivial⟩ ⟨.inr ⟨_, _, rfl, rfl, .same (nG)⟩, .inr ⟨_, _, rfl, rfl, .same rfl⟩, trivial⟩ ⟨Nat.zero_le _, fun q hq => by simp at hq⟩ ?_
  rintro j ⟨hj, hno⟩
  try dsimp only at hj hno ⊢
  refine wpv_ok Γok (by kernel_rfl) _ _ _ ?_; conv => whnf
  refine bool_cases (fun hd => ?_) (fun hd => ?_)
  · have hd := of_decide_eq_true hd
    have hd : j < g.past.length := by omega
    have st : g.past.take (j + 1) = g.past.take j ++ [g.past[j]] := by rw [List.take_add_one, List.getElem?_eq_getElem hd]; rfl
    have mem : g.past[j] ∈ g.past := List.getElem_mem hd
    conv => whnf
    try (refine ⟨by kernel_rfl, ?_⟩; conv => whnf)
    refine bindP_intro (if_pos (inB_ok (by omega) (by omega))) ?_; conv => whnf
    refine bindP_intro (row_load (i := j) (w := 4) rfl rfl rfl (fun a _ => qd_len a) (by dsimp only; omega) hd) ?_
    refine gen_ex g.past[j] fun y ey => ?_
    rw [← ey] at st mem ⊢
    clear ey
    have yc : y.cells = [nI .i64 y.id, nI .i64 y.v, nI .i64 y.ch, nI .i64 y.t] := rfl
    rw [yc]
    conv => whnf
    try (refine ⟨by kernel_rfl, ?_⟩; conv => whnf)
    by_cases e : y.id = id
    · rw [show (y.id == id) = true from by rw [beq_iff_eq]; exact e]
      conv => whnf
      try (refine ⟨by kernel_rfl, ?_⟩; conv => whnf)
      rw [h8 ⟨y, .inl mem, e⟩]
      exact ⟨_, rfl, rfl⟩
    · rw [show (y.id == id) = false from by rw [beq_eq_false_iff_ne]; exact e]
      conv => whnf
      try (refine ⟨by kernel_rfl, ?_⟩; conv => whnf)
      refine next_round (y := j) G0ok (j + 1) [(0, some 0), (1, some 1)] rfl ⟨⟨_, rfl, conv_nI (ws_i64 (by omega) (by omega))⟩, ⟨_, rfl, conv_nI (rfl)⟩, ⟨_, rfl, conv_eq rfl (nP)⟩, ⟨_, rfl, conv_nI (rfl)⟩, ⟨_, rfl, conv_eq rfl (nA)⟩, ⟨_, rfl, conv_nI (rfl)⟩, ⟨_, rfl, .same rfl⟩, ⟨_, rfl, .ptr rfl⟩, ⟨_, rfl, .ptr rfl⟩, ⟨_, rfl, conv_nI (rfl)⟩, ⟨_, rfl, conv_nI (rfl)⟩, ⟨_, rfl, conv_nI (rfl)⟩, trivial⟩ ⟨.inr ⟨_, _, rfl, rfl, .same (nG)⟩, .inr ⟨_, _, rfl, rfl, .same rfl⟩, trivial⟩ ⟨hd, fun q hq => by
        rw [st, List.mem_append, List.mem_singleton] at hq
        rcases hq with hq | rfl
        · exact hno q hq
        · exact e⟩ (by omega)
  · have hd := of_decide_eq_false hd
    have e : j = g.past.length := by omega
    subst e
    rw [List.take_length] at hno
    clear hj hd
    have noP := hno
    clear hno
    conv => whnf
    try (refine ⟨by kernel_rfl, ?_⟩; conv => whnf)
    refine vloop_clean G0ok [(0, some 0), (1, some 1)] 2 [(40, nI .i64 1), (39, .agg [.ds fp g.past.length (rows QD.cells g.past), .ds fq g.queue.length (rows QD.cells g.queue)]), (10, nI .i64 0), (9, bI false), (8, .ptr 1 0), (4, .ptr 0 0), (3, nI .i64 ch), (2, nI .i64 n), (1, nI .i64 id)] [(0, some [nI .i64 g.l0, nI .i64 g.l1, nI .i64 g.l2, nI .i64 g.b0, nI .i64 g.b1, nI .i64 g.b2, nI .i64 g.now, .ds fp g.past.length (rows QD.cells g.past), .ds fq g.queue.length (rows QD.cells g.queue)]), (1, some [nI .i64 0, nI .i64 0, nI .i64 0, nI .i64 0, nI .i64 0, nI .i64 0, nI .i64 0, .ds true 0 [], .ds true 0 []])] rfl ⟨⟨_, rfl, conv_nI (ws_i64 (by decide) (by decide))⟩, ⟨_, rfl, conv_eq rfl (nA)⟩, ⟨_, rfl, conv_nI (rfl)⟩, ⟨_, rfl, .same rfl⟩, ⟨_, rfl, .ptr rfl⟩, ⟨_, rfl, .ptr rfl⟩, ⟨_, rfl, conv_nI (rfl)⟩, ⟨_, rfl, conv_nI (rfl)⟩, ⟨_, rfl, conv_nI (rfl)⟩, trivial⟩ ⟨.inr ⟨_, _, rfl, rfl, .same (nG)⟩, .inr ⟨_, _, rfl, rfl, .same rfl⟩, trivial⟩ ?_
    refine vloop_unroll ?_
    refine wpv_ok Γok (by kernel_rfl) _ _ _ ?_; conv => whnf
    refine vloop_invK G0ok [(0, some 0), (1, some 1)] 2 (X := Nat) (fun j => [(45, nI .i64 j), (44, nI .i64 g.queue.length), (43, .ds fq g.queue.length (rows QD.cells g.queue)), (40, nI .i64 1), (39, .agg [.ds fp g.past.length (rows QD.cells g.past), .ds fq g.queue.length (rows QD.cells g.queue)]), (10, nI .i64 0), (9, bI false), (8, .ptr 1 0), (4, .ptr 0 0), (3, nI .i64 ch), (2, nI .i64 n), (1, nI .i64 id)]) (fun _ => [(0, some [nI .i64 g.l0, nI .i64 g.l1, nI .i64 g.l2, nI .i64 g.b0, nI .i64 g.b1, nI .i64 g.b2, nI .i64 g.now, .ds fp g.past.length (rows QD.cells g.past), .ds fq g.queue.length (rows QD.cells g.queue)]), (1, some [nI .i64 0, nI .i64 0, nI .i64 0, nI .i64 0, nI .i64 0, nI .i64 0, nI .i64 0, .ds true 0 [], .ds true 0 []])])
      (fun j => j ≤ g.queue.length ∧ ∀ q ∈ g.queue.take j, q.id ≠ id) (fun j => g.queue.length - j) 0 rfl ⟨⟨_, rfl, conv_nI (rfl)⟩, ⟨_, rfl, conv_nI (rfl)⟩, ⟨_, rfl, conv_eq rfl (nQ)⟩, ⟨_, rfl, conv_nI (rfl)⟩, ⟨_, rfl, conv_eq rfl (nA)⟩, ⟨_, rfl, conv_nI (rfl)⟩, ⟨_, rfl, .same rfl⟩, ⟨_, rfl, .ptr rfl⟩, ⟨_, rfl, .ptr rfl⟩, ⟨_, rfl, conv_nI (rfl)⟩, ⟨_, rfl, conv_nI (rfl)⟩, ⟨_, rfl, conv_nI (rfl)⟩, trivial⟩ ⟨.inr ⟨_, _, rfl, rfl, .same (nG)⟩, .inr ⟨_, _, rfl, rfl, .same rfl⟩, trivial⟩ ⟨Nat.zero_le _, fun q hq => by simp at hq⟩ ?_
    rintro j ⟨hj, hno⟩
    try dsimp only at hj hno ⊢
    refine wpv_ok Γok (by kernel_rfl) _ _ _ ?_; conv => whnf
    refine bool_cases (fun hd => ?_) (fun hd => ?_)
    · have hd := of_decide_eq_true hd
      have hd : j < g.queue.length := by omega
      have st : g.queue.take (j + 1) = g.queue.take j ++ [g.queue[j]] := by rw [List.take_add_one, List.getElem?_eq_getElem hd]; rfl
      have mem : g.queue[j] ∈ g.queue := List.getElem_mem hd
      conv => whnf
      try (refine ⟨by kernel_rfl, ?_⟩; conv => whnf)
      refine bindP_intro (if_pos (inB_ok (by omega) (by omega))) ?_; conv => whnf
      refine bindP_intro (row_load (i := j) (w := 4) rfl rfl rfl (fun a _ => qd_len a) (by dsimp only; omega) hd) ?_
      refine gen_ex g.queue[j] fun y ey => ?_
      rw [← ey] at st mem ⊢
      clear ey
      have yc : y.cells = [nI .i64 y.id, nI .i64 y.v, nI .i64 y.ch, nI .i64 y.t] := rfl
      rw [yc]
      conv => whnf
      try (refine ⟨by kernel_rfl, ?_⟩; conv => whnf)
      by_cases e : y.id = id
      · rw [show (y.id == id) = true from by rw [beq_iff_eq]; exact e]
        conv => whnf
        try (refine ⟨by kernel_rfl, ?_⟩; conv => whnf)
        rw [h8 ⟨y, .inr mem, e⟩]
        exact ⟨_, rfl, rfl⟩
      · rw [show (y.id == id) = false from by rw [beq_eq_false_iff_ne]; exact e]
        conv => whnf
        try (refine ⟨by kernel_rfl, ?_⟩; conv => whnf)
        refine next_round (y := j) G0ok (j + 1) [(0, some 0), (1, some 1)] rfl ⟨⟨_, rfl, conv_nI (ws_i64 (by omega) (by omega))⟩, ⟨_, rfl, conv_nI (rfl)⟩, ⟨_, rfl, conv_eq rfl (nQ)⟩, ⟨_, rfl, conv_nI (rfl)⟩, ⟨_, rfl, conv_eq rfl (nA)⟩, ⟨_, rfl, conv_nI (rfl)⟩, ⟨_, rfl, .same rfl⟩, ⟨_, rfl, .ptr rfl⟩, ⟨_, rfl, .ptr rfl⟩, ⟨_, rfl, conv_nI (rfl)⟩, ⟨_, rfl, conv_nI (rfl)⟩, ⟨_, rfl, conv_nI (rfl)⟩, trivial⟩ ⟨.inr ⟨_, _, rfl, rfl, .same (nG)⟩, .inr ⟨_, _, rfl, rfl, .same rfl⟩, trivial⟩ ⟨hd, fun q hq => by
          rw [st, List.mem_append, List.mem_singleton] at hq
          rcases hq with hq | rfl
          · exact hno q hq
          · exact e⟩ (by omega)
    · have hd := of_decide_eq_false hd
      have e : j = g.queue.length := by omega
      subst e
      rw [List.take_length] at hno
      clear hj hd
      have noQ := hno
      clear hno
      conv => whnf
      try (refine ⟨by kernel_rfl, ?_⟩; conv => whnf)
      refine vloop_clean G0ok [(0, some 0), (1, some 1)] 2 [(40, nI .i64 2), (39, .agg [.ds fp g.past.length (rows QD.cells g.past), .ds fq g.queue.length (rows QD.cells g.queue)]), (10, nI .i64 0), (9, bI false), (8, .ptr 1 0), (4, .ptr 0 0), (3, nI .i64 ch), (2, nI .i64 n), (1, nI .i64 id)] [(0, some [nI .i64 g.l0, nI .i64 g.l1, nI .i64 g.l2, nI .i64 g.b0, nI .i64 g.b1, nI .i64 g.b2, nI .i64 g.now, .ds fp g.past.length (rows QD.cells g.past), .ds fq g.queue.length (rows QD.cells g.queue)]), (1, some [nI .i64 0, nI .i64 0, nI .i64 0, nI .i64 0, nI .i64 0, nI .i64 0, nI .i64 0, .ds true 0 [], .ds true 0 []])] rfl ⟨⟨_, rfl, conv_nI (ws_i64 (by decide) (by decide))⟩, ⟨_, rfl, conv_eq rfl (nA)⟩, ⟨_, rfl, conv_nI (rfl)⟩, ⟨_, rfl, .same rfl⟩, ⟨_, rfl, .ptr rfl⟩, ⟨_, rfl, .ptr rfl⟩, ⟨_, rfl, conv_nI (rfl)⟩, ⟨_, rfl, conv_nI (rfl)⟩, ⟨_, rfl, conv_nI (rfl)⟩, trivial⟩ ⟨.inr ⟨_, _, rfl, rfl, .same (nG)⟩, .inr ⟨_, _, rfl, rfl, .same rfl⟩, trivial⟩ ?_
      refine vloop_unroll ?_
      refine wpv_ok Γok (by kernel_rfl) _ _ _ ?_; conv => whnf
      refine ⟨_, gfresh_ret (fp := fp) (fq := fq) (g := g) (by omega) (by omega), ?_⟩
      conv => whnf
      try (refine ⟨by kernel_rfl, ?_⟩; conv => whnf)
      have lP : (rows QD.cells g.past).length = g.past.length * 4 := rows_length (w := 4) fun a _ => rfl
      have lQ : (rows QD.cells g.queue).length = g.queue.length * 4 := rows_length (w := 4) fun a _ => rfl
      have fi := gfits_fn (fp := false) (fq := false) (g := g) (x := ⟨id, n, ch, g.now⟩) (by omega) (fun q hq => (ok.row q (.inl hq)).1) ⟨ok.now.1, by have := ok.now.2; omega⟩ (fun q hq => ⟨(ok.row q (.inl hq)).2.2.1, by have := (ok.row q (.inl hq)).2.2.2; have := ok.now.2; omega⟩) (by unfold valB at hn; simp only [Bool.and_eq_true, decide_eq_true_eq] at hn; exact hn) hc
      refine ⟨_, ret_own [3, 4] G0ok (fi) (mapO_cons (deep_agg rfl (mapO_cons (deepV_noH _ _ rfl) (mapO_cons (deepV_noH _ _ rfl) (mapO_cons (deepV_noH _ _ rfl) (mapO_cons (deepV_noH _ _ rfl) (mapO_cons (deepV_noH _ _ rfl) (mapO_cons (deepV_noH _ _ rfl) (mapO_cons (deepV_noH _ _ rfl) (mapO_cons (deep_row rfl lP nP) (mapO_cons (deep_row rfl lQ nQ) mapO_nil)))))))))) (mapO_cons (deepV_noH _ _ rfl) mapO_nil)) rfl, ?_⟩; (conv => whnf); (try (refine ⟨by kernel_rfl, ?_⟩; conv => whnf))
      refine gen_ex (⟨id, n, ch, g.now⟩ : QD) fun x ex => ?_
      have xc : x.cells = [nI .i64 id, nI .i64 n, nI .i64 ch, nI .i64 g.now] := by rw [ex]; rfl
      rw [← ex] at h0 h1 h9 ⊢
      have noA : ∀ q, (q ∈ g.past ∨ q ∈ g.queue) → q.id ≠ id := fun q hq => hq.elim (noP q) (noQ q)
      cases hf : fitsB g x with
      | true =>
        have h0 := h0 noA hf
        have lP1 : (rows QD.cells (g.past ++ [x])).length = (g.past.length + 1) * 4 := by rw [rows_length (w := 4) fun a _ => rfl, List.length_append]; rfl
        have nP1 := rowsQ_noHs (g.past ++ [x])
        rw [h0]
        unfold GtD.cells
        dsimp only
        rw [List.length_append, show [x].length = 1 from rfl]
        conv => whnf
        try (refine ⟨by kernel_rfl, ?_⟩; conv => whnf)
        refine .ownAs 1 x.cells rfl (by rw [xc]; rfl) ?_
        conv => whnf
        try (refine ⟨by kernel_rfl, ?_⟩; conv => whnf)
        refine onlyIf_intro (by show (Nat.beq (rows QD.cells g.past).length (g.past.length * 4) && _) = true; rw [lP]; simp [maxLen]; omega) ?_
        refine .ownAs (g.past.length + 1) (rows QD.cells (g.past ++ [x])) rfl (by rw [rows_app, rows_one]) ?_
        conv => whnf
        try (refine ⟨by kernel_rfl, ?_⟩; conv => whnf)
        exact ⟨_, rfl, deep_tup (mapO_cons (deep_agg rfl (mapO_cons (deepV_noH _ _ rfl) (mapO_cons (deepV_noH _ _ rfl) (mapO_cons (deepV_noH _ _ rfl) (mapO_cons (deepV_noH _ _ rfl) (mapO_cons (deepV_noH _ _ rfl) (mapO_cons (deepV_noH _ _ rfl) (mapO_cons (deepV_noH _ _ rfl) (mapO_cons (deep_row rfl lP1 nP1) (mapO_cons (deep_row rfl lQ nQ) mapO_nil)))))))))) (mapO_cons (deepV_noH _ _ rfl) (mapO_cons (deepV_noH _ _ rfl) mapO_nil)))⟩
      | false =>
        conv => whnf
        try (refine ⟨by kernel_rfl, ?_⟩; conv => whnf)
        rw [show (((g.queue.length : Nat) : Int) == 40) = decide (g.queue.length = 40) from beq_lit _ 40]
        by_cases hq : g.queue.length = 40
        · rw [decide_eq_true hq, h9 noA hf hq]
          conv => whnf
          try (refine ⟨by kernel_rfl, ?_⟩; conv => whnf)
          exact ⟨_, rfl, rfl⟩
        · have h1 := h1 noA hf hq
          have lQ1 : (rows QD.cells (g.queue ++ [x])).length = (g.queue.length + 1) * 4 := by rw [rows_length (w := 4) fun a _ => rfl, List.length_append]; rfl
          have nQ1 := rowsQ_noHs (g.queue ++ [x])
          rw [decide_eq_false hq, h1]
          unfold GtD.cells
          dsimp only
          rw [List.length_append, show [x].length = 1 from rfl]
          conv => whnf
          try (refine ⟨by kernel_rfl, ?_⟩; conv => whnf)
          refine .ownAs 1 x.cells rfl (by rw [xc]; rfl) ?_
          conv => whnf
          try (refine ⟨by kernel_rfl, ?_⟩; conv => whnf)
          refine onlyIf_intro (by show (Nat.beq (rows QD.cells g.queue).length (g.queue.length * 4) && _) = true; rw [lQ]; simp [maxLen]; omega) ?_
          refine .ownAs (g.queue.length + 1) (rows QD.cells (g.queue ++ [x])) rfl (by rw [rows_app, rows_one]) ?_
          conv => whnf
          try (refine ⟨by kernel_rfl, ?_⟩; conv => whnf)
          exact ⟨_, rfl, deep_tup (mapO_cons (deep_agg rfl (mapO_cons (deepV_noH _ _ rfl) (mapO_cons (deepV_noH _ _ rfl) (mapO_cons (deepV_noH _ _ rfl) (mapO_cons (deepV_noH _ _ rfl) (mapO_cons (deepV_noH _ _ rfl) (mapO_cons (deepV_noH _ _ rfl) (mapO_cons (deepV_noH _ _ rfl) (mapO_cons (deep_row rfl lP nP) (mapO_cons (deep_row rfl lQ1 nQ1) mapO_nil)))))))))) (mapO_cons (deepV_noH _ _ rfl) (mapO_cons (deepV_noH _ _ rfl) mapO_nil)))⟩
end Go.Proofs.Ytilmfdlonpjjiaa
