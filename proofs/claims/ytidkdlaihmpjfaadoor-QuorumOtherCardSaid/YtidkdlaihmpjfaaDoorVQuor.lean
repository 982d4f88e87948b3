/- quorum.Need, Check, by the engine. -/
import Derived.Test.YtidkdlaihmpjfaaDoorVMemb
namespace Go.Proofs.YtidkdlaihmpjfaaDoor
set_option linter.unusedVariables false
set_option linter.unusedSimpArgs false
set_option linter.unusedSectionVars false
open Go.ChangeShapes Go.WideShapes Go.ChangeAt Go.RowKit Go.Joins
set_option maxRecDepth 10000
theorem need_fn (n : Nat) (h2 : n ≤ 19) : FnV Tryd.prog G0 40 [nI .i64 n] (.tup [nI .i64 (2 * n / 3 + 1 : Nat), nI .i64 0]) := by
  refine fn_of_vwp Γok Tryd.func40 (by kernel_rfl) rfl (by simp [Tryd.ntmps40]) (wpv_ok Γok (by kernel_rfl) _ _ _ ?_); conv => whnf
  rw [decide_eq_false (show ¬ (n : Int) < 0 by omega)]
  conv => whnf
  try (refine ⟨by kernel_rfl, ?_⟩; conv => whnf)
  rw [decide_eq_false (show ¬ (n : Int) > 19 by omega)]
  conv => whnf
  try (refine ⟨by kernel_rfl, ?_⟩; conv => whnf)
  rw [ws_i64 (x := 2 * (n : Int)) (by omega) (by omega), Int.tdiv_eq_ediv_of_nonneg (by omega), ws_i64 (x := 2 * (n : Int) / 3) (by omega) (by omega), ws_i64 (x := 2 * (n : Int) / 3 + 1) (by omega) (by omega), show 2 * (n : Int) / 3 + 1 = ((2 * n / 3 + 1 : Nat) : Int) from by omega]
  exact ⟨_, rfl, rfl⟩
theorem ne_key {l m : List Nat} (hl : l.length = 20) (hm : m.length = 20) : EqAgg Tryd.prog .neq 64 (bts l) (bts m) (!decide (l = m)) := by
  have h := eqAgg_ints_ne (k := .u8) Γok (t := 64) (e := 5) Tryd.underlying64 rfl rfl rfl Tryd.underlying5 (by kernel_rfl) (l.map fun (x : Nat) => (x : Int)) (m.map fun (x : Nat) => (x : Int)) (by simpa using hl) (by simpa using hm)
  rw [← bts_map, ← bts_map] at h
  rw [show decide (l = m) = decide ((l.map fun (x : Nat) => (x : Int)) = m.map fun (x : Nat) => (x : Int)) from decide_eq_decide.2 (map_cast_eq _ _).symm]
  exact h
/-- Who signs, how, and what is recovered: whether there is a point, and which. -/
structure QE where
  who : Nat
  s : SgD
  e : Nat
  p : PtD
noncomputable def QE.cells (x : QE) : List VV := nI .i64 x.who :: x.s.cells
theorem QE.len (x : QE) : x.cells.length = 10 := rfl
theorem qE_noHs (x : QE) : noHs x.cells = true := by
  unfold QE.cells
  simp only [noHs, noH, nI, sgD_noHs, Bool.and_self]
open Classical in
noncomputable def ckQ (n : Nat) (key : Nat → List Nat) : Int → List QE → Nat
  | _, [] => 0
  | last, x :: r => if n ≤ x.who then 6 else if (x.who : Int) ≤ last then 3 else if x.e ≠ 0 then x.e else if keyB x.p ≠ key x.who then 10 else ckQ n key x.who r
theorem ckQ_cons (n : Nat) (key : Nat → List Nat) (last : Int) (x : QE) (r : List QE) : ckQ n key last (x :: r) = if n ≤ x.who then 6 else if (x.who : Int) ≤ last then 3 else if x.e ≠ 0 then x.e else if keyB x.p ≠ key x.who then 10 else ckQ n key x.who r := rfl
theorem qcheck_fn {c : CvD} (g : Good c) {n : Nat} (h1 : 1 ≤ n) (h19 : n ≤ 19) {key : Nat → List Nat} (lk : ∀ i, (key i).length = 20) {b : List Nat} (lb : b.length = 32) {f1 f2 : Bool} {L : List QE} (hL : L.length ≤ 1000) (hw : ∀ x ∈ L, x.who < 1000)
    (rc : ∀ x ∈ L, FnV Tryd.prog G0 33 [c.v, .agg (bts b), x.s.v] (.tup [x.p.v, nI .i64 x.e])) (hn : 2 * n / 3 + 1 ≤ L.length) :
    FnV Tryd.prog G0 41 [c.v, .agg [nI .i64 0, .ds f1 n (rows (fun i => bts (key i)) (List.range n)), nI .i64 0], .agg (bts b), .ds f2 L.length (rows QE.cells L)] (nI .i64 (ckQ n key (-1) L : Nat)) := by
  have k := chk_ok g
  have nd := need_fn n h19
  have ky := fun p => keyOf_fn p
  have lB : (bts b).length = 32 := by rw [bts_length, lb]
  have nK : ∀ i, noHs (bts (key i)) = true := fun i => bts_noHs _
  unfold CvD.v CvD.cells SgD.v SgD.cells PtD.v PtD.cells at *
  refine fn_of_vwp Γok Tryd.func41 (by kernel_rfl) rfl (by simp [Tryd.ntmps41]) (wpv_ok Γok (by kernel_rfl) _ _ _ ?_); conv => whnf
  refine ⟨_, ret_of_fn G0ok (k) (by first | rfl | simp only [noHs, noH, nI, bI, Bool.and_self, Bool.and_true, Bool.true_and, ]) (by first | rfl | simp only [noHs, noH, nI, bI, Bool.and_self, Bool.and_true, Bool.true_and, ]), ?_⟩; (conv => whnf); (try (refine ⟨by kernel_rfl, ?_⟩; conv => whnf))
  rw [decide_eq_false (show ¬ (n : Int) < 1 by omega)]
  conv => whnf
  try (refine ⟨by kernel_rfl, ?_⟩; conv => whnf)
  rw [decide_eq_false (show ¬ (n : Int) > 19 by omega)]
  conv => whnf
  try (refine ⟨by kernel_rfl, ?_⟩; conv => whnf)
  refine ⟨_, ret_of_fn G0ok (nd) (by first | rfl | simp only [noHs, noH, nI, bI, Bool.and_self, Bool.and_true, Bool.true_and, ]) (by first | rfl | simp only [noHs, noH, nI, bI, Bool.and_self, Bool.and_true, Bool.true_and, ]), ?_⟩; (conv => whnf); (try (refine ⟨by kernel_rfl, ?_⟩; conv => whnf))
  rw [decide_eq_false (show ¬ (L.length : Int) < ((2 * n / 3 + 1 : Nat) : Int) by omega)]
  conv => whnf
  try (refine ⟨by kernel_rfl, ?_⟩; conv => whnf)
  refine vloop_invK G0ok [(0, some 0), (1, some 1), (2, some 2)] 3 (X := Nat × Int)
    (fun y => [(43, nI .i64 y.1), (42, nI .i64 L.length), (41, .ds f2 L.length (rows QE.cells L)), (13, nI .i64 y.2), (10, nI .i64 n), (8, nI .i64 0), (6, .ptr 2 0), (5, .ptr 1 0), (4, .ptr 0 0)])
    (fun y => [(0, some (uC c.P ++ (uC c.A ++ (uC c.B ++ (uC c.N ++ (uC c.X ++ (uC c.Y ++ [bI false]))))))), (1, some [nI .i64 0, .ds f1 n (rows (fun i => bts (key i)) (List.range n)), nI .i64 0]), (2, some (bts b))])
    (fun y => y.1 ≤ L.length ∧ (-1 ≤ y.2 ∧ y.2 < 1000) ∧ ckQ n key (-1) L = ckQ n key y.2 (L.drop y.1)) (fun y => L.length - y.1) (0, -1) rfl ⟨⟨_, rfl, conv_nI (rfl)⟩, ⟨_, rfl, conv_nI (rfl)⟩, ⟨_, rfl, conv_eq rfl (rows_noHs qE_noHs _)⟩, ⟨_, rfl, conv_nI (rfl)⟩, ⟨_, rfl, conv_nI (rfl)⟩, ⟨_, rfl, conv_nI (rfl)⟩, ⟨_, rfl, .ptr rfl⟩, ⟨_, rfl, .ptr rfl⟩, ⟨_, rfl, .ptr rfl⟩, trivial⟩ ⟨.inr ⟨_, _, rfl, rfl, .same rfl⟩, .inr ⟨_, _, rfl, rfl, convs_eq rfl (by simp only [noHs, noH, nI, rows_noHs nK, Bool.and_self])⟩, .inr ⟨_, _, rfl, rfl, convs_eq rfl (bts_noHs _)⟩, trivial⟩ ⟨Nat.zero_le _, ⟨by omega, by omega⟩, rfl⟩ ?_
  rintro ⟨i, last⟩ ⟨hi, ⟨hl1, hl2⟩, hq⟩
  dsimp only at hi hl1 hl2 hq ⊢
  refine wpv_ok Γok (by kernel_rfl) _ _ _ ?_; conv => whnf
  refine bool_cases (fun hc => ?_) (fun hc => ?_)
  · have hc := of_decide_eq_true hc
    have hc : i < L.length := by omega
    rw [List.drop_eq_getElem_cons hc] at hq
    have rci := rc _ (List.getElem_mem hc)
    have hwi := hw _ (List.getElem_mem hc)
    conv => whnf
    try (refine ⟨by kernel_rfl, ?_⟩; conv => whnf)
    refine bindP_intro (if_pos (inB_ok (by omega) (by omega))) ?_; conv => whnf
    refine bindP_intro (row_load (i := i) (w := 10) rfl rfl rfl (fun a _ => QE.len a) (by dsimp only; omega) hc) ?_
    refine gen_ex L[i] fun x ex => ?_
    rw [← ex] at hq rci hwi ⊢
    clear ex
    obtain ⟨w, s, e, p⟩ := x
    rw [ckQ_cons] at hq
    unfold QE.cells SgD.cells
    dsimp only at hq rci hwi ⊢
    conv => whnf
    try (refine ⟨by kernel_rfl, ?_⟩; conv => whnf)
    by_cases a1 : n ≤ w
    · rw [if_pos a1] at hq
      rw [hq, decide_eq_true (show (w : Int) ≥ (n : Int) by omega)]
      conv => whnf
      try (refine ⟨by kernel_rfl, ?_⟩; conv => whnf)
      exact ⟨_, rfl, rfl⟩
    rw [if_neg a1] at hq
    rw [decide_eq_false (show ¬ (w : Int) ≥ (n : Int) by omega)]
    conv => whnf
    try (refine ⟨by kernel_rfl, ?_⟩; conv => whnf)
    by_cases a2 : (w : Int) ≤ last
    · rw [if_pos a2] at hq
      rw [hq, decide_eq_true a2]
      conv => whnf
      try (refine ⟨by kernel_rfl, ?_⟩; conv => whnf)
      exact ⟨_, rfl, rfl⟩
    rw [if_neg a2] at hq
    rw [decide_eq_false a2]
    conv => whnf
    try (refine ⟨by kernel_rfl, ?_⟩; conv => whnf)
    refine bindP_intro (load_agg rfl rfl lB) ?_
    conv => whnf
    try (refine ⟨by kernel_rfl, ?_⟩; conv => whnf)
    refine ⟨_, ret_of_fn G0ok (rci) (by first | rfl | simp only [noHs, noH, nI, bI, Bool.and_self, Bool.and_true, Bool.true_and, noHs_append, words_noHs, bts_noHs, uC, uV, noHs, noH]) (by first | rfl | simp only [noHs, noH, nI, bI, Bool.and_self, Bool.and_true, Bool.true_and, noHs_append, words_noHs, bts_noHs, uC, uV, noHs, noH]), ?_⟩; (conv => whnf); (try (refine ⟨by kernel_rfl, ?_⟩; conv => whnf))
    rw [show ((e : Int) != 0) = !decide (e = 0) from bne_lit e 0]
    by_cases a3 : e = 0
    · rw [if_neg (fun h => h a3)] at hq
      rw [decide_eq_true a3]
      conv => whnf
      try (refine ⟨by kernel_rfl, ?_⟩; conv => whnf)
      have kyp := ky p
      have ne := ne_key (keyB_len p) (lk w)
      refine ⟨_, ret_of_fn G0ok (kyp) (by first | rfl | simp only [noHs, noH, nI, bI, Bool.and_self, Bool.and_true, Bool.true_and, bts_noHs]) (by first | rfl | simp only [noHs, noH, nI, bI, Bool.and_self, Bool.and_true, Bool.true_and, bts_noHs]), ?_⟩; (conv => whnf); (try (refine ⟨by kernel_rfl, ?_⟩; conv => whnf))
      refine bindP_intro (if_pos (inB_ok (by omega) (by omega))) ?_; conv => whnf
      refine bindP_intro (row_load (i := w) (w := 20) rfl rfl rfl (fun a _ => by rw [bts_length, lk]) (by dsimp only; omega) (by rw [List.length_range]; omega)) ?_
      rw [List.getElem_range]
      conv => whnf
      try (refine ⟨by kernel_rfl, ?_⟩; conv => whnf)
      refine ⟨_, ne, ?_⟩
      by_cases a4 : keyB p = key w
      · rw [if_neg (fun h => h a4)] at hq
        rw [decide_eq_true a4]
        conv => whnf
        try (refine ⟨by kernel_rfl, ?_⟩; conv => whnf)
        refine next_round (y := (i, last)) G0ok (i + 1, (w : Int)) [(0, some 0), (1, some 1), (2, some 2)] rfl ⟨⟨_, rfl, conv_nI (ws_i64 (by omega) (by omega))⟩, ⟨_, rfl, conv_nI (rfl)⟩, ⟨_, rfl, conv_eq rfl (rows_noHs qE_noHs _)⟩, ⟨_, rfl, conv_nI (rfl)⟩, ⟨_, rfl, conv_nI (rfl)⟩, ⟨_, rfl, conv_nI (rfl)⟩, ⟨_, rfl, .ptr rfl⟩, ⟨_, rfl, .ptr rfl⟩, ⟨_, rfl, .ptr rfl⟩, trivial⟩ ⟨.inr ⟨_, _, rfl, rfl, .same rfl⟩, .inr ⟨_, _, rfl, rfl, convs_eq rfl (by simp only [noHs, noH, nI, rows_noHs nK, Bool.and_self])⟩, .inr ⟨_, _, rfl, rfl, convs_eq rfl (bts_noHs _)⟩, trivial⟩ ⟨hc, ⟨by dsimp only; omega, by dsimp only; omega⟩, hq⟩ (by dsimp only; omega)
      · rw [if_pos a4] at hq
        rw [hq, decide_eq_false a4]
        conv => whnf
        try (refine ⟨by kernel_rfl, ?_⟩; conv => whnf)
        exact ⟨_, rfl, rfl⟩
    · rw [if_pos a3] at hq
      rw [hq, decide_eq_false a3]
      conv => whnf
      try (refine ⟨by kernel_rfl, ?_⟩; conv => whnf)
      exact ⟨_, rfl, rfl⟩
  · have hc := of_decide_eq_false hc
    have e : i = L.length := by omega
    subst e
    rw [List.drop_length] at hq
    rw [hq]
    conv => whnf
    try (refine ⟨by kernel_rfl, ?_⟩; conv => whnf)
    exact ⟨_, rfl, rfl⟩
theorem qcheck_few {c : CvD} (g : Good c) {n : Nat} (h1 : 1 ≤ n) (h19 : n ≤ 19) {b : List Nat} {f1 f2 : Bool} {m : Nat} {ks ls : List VV} (nk : noHs ks = true) (nl : noHs ls = true) (hm : m ≤ 1000) (hn : m < 2 * n / 3 + 1) :
    FnV Tryd.prog G0 41 [c.v, .agg [nI .i64 0, .ds f1 n ks, nI .i64 0], .agg (bts b), .ds f2 m ls] (nI .i64 11) := by
  have k := chk_ok g
  have nd := need_fn n h19
  unfold CvD.v CvD.cells at *
  refine fn_of_vwp Γok Tryd.func41 (by kernel_rfl) rfl (by simp [Tryd.ntmps41]) (wpv_ok Γok (by kernel_rfl) _ _ _ ?_); conv => whnf
  refine ⟨_, ret_of_fn G0ok (k) (by first | rfl | simp only [noHs, noH, nI, bI, Bool.and_self, Bool.and_true, Bool.true_and, ]) (by first | rfl | simp only [noHs, noH, nI, bI, Bool.and_self, Bool.and_true, Bool.true_and, ]), ?_⟩; (conv => whnf); (try (refine ⟨by kernel_rfl, ?_⟩; conv => whnf))
  rw [decide_eq_false (show ¬ (n : Int) < 1 by omega)]
  conv => whnf
  try (refine ⟨by kernel_rfl, ?_⟩; conv => whnf)
  rw [decide_eq_false (show ¬ (n : Int) > 19 by omega)]
  conv => whnf
  try (refine ⟨by kernel_rfl, ?_⟩; conv => whnf)
  refine ⟨_, ret_of_fn G0ok (nd) (by first | rfl | simp only [noHs, noH, nI, bI, Bool.and_self, Bool.and_true, Bool.true_and, ]) (by first | rfl | simp only [noHs, noH, nI, bI, Bool.and_self, Bool.and_true, Bool.true_and, ]), ?_⟩; (conv => whnf); (try (refine ⟨by kernel_rfl, ?_⟩; conv => whnf))
  rw [decide_eq_true (show (m : Int) < ((2 * n / 3 + 1 : Nat) : Int) by omega)]
  conv => whnf
  try (refine ⟨by kernel_rfl, ?_⟩; conv => whnf)
  exact ⟨_, rfl, rfl⟩
theorem qcheck_empty {c : CvD} (g : Good c) {b : List Nat} {f2 : Bool} {m : Nat} {ls : List VV} : FnV Tryd.prog G0 41 [c.v, .agg [nI .i64 0, .ds true 0 [], nI .i64 0], .agg (bts b), .ds f2 m ls] (nI .i64 1) := by
  have k := chk_ok g
  unfold CvD.v CvD.cells at *
  refine fn_of_vwp Γok Tryd.func41 (by kernel_rfl) rfl (by simp [Tryd.ntmps41]) (wpv_ok Γok (by kernel_rfl) _ _ _ ?_); conv => whnf
  refine ⟨_, ret_of_fn G0ok (k) (by first | rfl | simp only [noHs, noH, nI, bI, Bool.and_self, Bool.and_true, Bool.true_and, ]) (by first | rfl | simp only [noHs, noH, nI, bI, Bool.and_self, Bool.and_true, Bool.true_and, ]), ?_⟩; (conv => whnf); (try (refine ⟨by kernel_rfl, ?_⟩; conv => whnf))
  exact ⟨_, rfl, rfl⟩
/-- Those ahead are passed. -/
theorem ck_app {n : Nat} {key : Nat → List Nat} {s : Nat → SgD} {p : Nat → PtD} (B : List QE) : ∀ (l : List Nat) (last : Int), l.Pairwise (· < ·) → (∀ w ∈ l, last < (w : Int) ∧ w < n ∧ keyB (p w) = key w) → ckQ n key last (l.map (fun w => (⟨w, s w, 0, p w⟩ : QE)) ++ B) = ckQ n key ((l.getLast?.map (fun (w : Nat) => (w : Int))).getD last) B
  | [], last, _, _ => rfl
  | w :: l, last, h1, h2 => by
    obtain ⟨g1, g2, g3⟩ := h2 w List.mem_cons_self
    obtain ⟨h3, h4⟩ := List.pairwise_cons.1 h1
    rw [List.map_cons, List.cons_append, ckQ_cons]
    dsimp only
    rw [if_neg (by omega), if_neg (by omega), if_neg (fun h => h rfl), if_neg (fun h => h g3)]
    rw [ck_app B l w h4 fun v hv => ⟨by have := h3 v hv; omega, (h2 v (List.mem_cons_of_mem _ hv)).2⟩]
    cases l with
    | nil => rfl
    | cons v l => rw [List.getLast?_cons_cons]; cases e : (v :: l).getLast? with
      | none => simp at e
      | some u => rfl
theorem sel_pw (M n : Nat) : (sel M n).Pairwise (· < ·) := List.Pairwise.filter _ List.pairwise_lt_range
theorem sel_lt {M n w : Nat} (h : w ∈ sel M n) : w < n := List.mem_range.1 (List.mem_filter.1 h).1
theorem rows_map {α β : Type} (f : β → List VV) (g : α → β) (l : List α) : rows f (l.map g) = rows (fun a => f (g a)) l := List.flatMap_map _ _ _
end Go.Proofs.YtidkdlaihmpjfaaDoor
