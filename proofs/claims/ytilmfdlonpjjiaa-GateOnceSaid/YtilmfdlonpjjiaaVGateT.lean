/- gate.Tick, by the engine. -/
import Derived.Test.YtilmfdlonpjjiaaVGateO
namespace Go.Proofs.Ytilmfdlonpjjiaa
set_option linter.unusedVariables false
set_option linter.unusedSimpArgs false
set_option linter.unusedSectionVars false
open Go.ChangeShapes Go.WideShapes Go.ChangeAt Go.RowKit Go.Joins
set_option maxRecDepth 10000
/-- A gate at work: what has passed, what waits, what is let go. -/
structure TkS where
  past : List QD
  queue : List QD
  out : List Int
def GtD.at' (g : GtD) (now : Int) (s : TkS) : GtD := { g with now := now, past := s.past, queue := s.queue }
def tkStep (g : GtD) (now : Int) (s : TkS) (x : QD) : TkS :=
  if now - x.t ≥ 24 then ⟨s.past, s.queue, s.out ++ [x.id]⟩
  else if fitsB (g.at' now s) x = true then ⟨s.past ++ [{ x with t := now }], s.queue, s.out ++ [x.id]⟩
  else ⟨s.past, s.queue ++ [x], s.out⟩
def keptP (L : List QD) (now : Int) : List QD := L.filter fun q => decide (now - q.t < 24)
def tkRun (g : GtD) (now : Int) (i : Nat) : TkS := (g.queue.take i).foldl (tkStep g now) ⟨keptP g.past now, [], []⟩
/-- What a tick comes to. -/
def tickS (g : GtD) (h : Int) : TkS := tkRun g (g.now + h) g.queue.length
def tickG (g : GtD) (h : Int) : GtD := g.at' (g.now + h) (tickS g h)
def intsC (l : List Int) : List VV := l.map (nI .i64)
theorem intsC_noHs (l : List Int) : noHs (intsC l) = true := noHs_map (fun _ => rfl) l
def tkErr (e : Nat) : VV := .tup [.agg (gtZ.cells true true), .ds true 0 [], nI .i64 e]
theorem gtick_bad {fp fq : Bool} {g : GtD} {h : Int} (hb : chkGt g ≠ 0) : FnV Try.prog G0 21 [.agg (g.cells fp fq), nI .i64 h] (tkErr (chkGt g)) := by
  have ck := gcheck_fn (fp := fp) (fq := fq) (g := g)
  have nP := rowsQ_noHs g.past
  have nQ := rowsQ_noHs g.queue
  have nG := gtd_noHs fp fq g
  unfold GtD.cells at ck nG ⊢
  refine gen_ex (chkGt g) fun c ec => ?_
  rw [← ec] at ck hb ⊢
  refine fn_of_vwp Γok Try.func21 (by kernel_rfl) rfl (by simp [Try.ntmps21]) (wpv_ok Γok (by kernel_rfl) _ _ _ ?_); conv => whnf
  refine ⟨_, ret_of_fn G0ok (ck) (by first | rfl | simp only [noHs, noH, nI, bI, Bool.and_self, Bool.and_true, Bool.true_and, nP, nQ]) (by first | rfl | simp only [noHs, noH, nI, bI, Bool.and_self, Bool.and_true, Bool.true_and, nP, nQ]), ?_⟩; (conv => whnf); (try (refine ⟨by kernel_rfl, ?_⟩; conv => whnf))
  rw [show (((c : Nat) : Int) != 0) = true from by rw [bne_iff_ne]; omega]
  conv => whnf
  try (refine ⟨by kernel_rfl, ?_⟩; conv => whnf)
  exact ⟨_, rfl, rfl⟩
theorem gtick_range {fp fq : Bool} {g : GtD} {h : Int} (hb : chkGt g = 0) (ok : GtOk g) (hr : h < 1 ∨ 1000 < h ∨ 1099511627776 < g.now + h) : FnV Try.prog G0 21 [.agg (g.cells fp fq), nI .i64 h] (tkErr 6) := by
  have ck := gcheck_fn (fp := fp) (fq := fq) (g := g)
  rw [hb] at ck
  have nP := rowsQ_noHs g.past
  have nQ := rowsQ_noHs g.queue
  have nG := gtd_noHs fp fq g
  unfold GtD.cells at ck nG ⊢
  obtain ⟨n1, n2⟩ := ok.now
  refine fn_of_vwp Γok Try.func21 (by kernel_rfl) rfl (by simp [Try.ntmps21]) (wpv_ok Γok (by kernel_rfl) _ _ _ ?_); conv => whnf
  refine ⟨_, ret_of_fn G0ok (ck) (by first | rfl | simp only [noHs, noH, nI, bI, Bool.and_self, Bool.and_true, Bool.true_and, nP, nQ]) (by first | rfl | simp only [noHs, noH, nI, bI, Bool.and_self, Bool.and_true, Bool.true_and, nP, nQ]), ?_⟩; (conv => whnf); (try (refine ⟨by kernel_rfl, ?_⟩; conv => whnf))
  by_cases h1 : h < 1
  · rw [decide_eq_true h1]
    conv => whnf
    try (refine ⟨by kernel_rfl, ?_⟩; conv => whnf)
    exact ⟨_, rfl, rfl⟩
  · rw [decide_eq_false h1]
    conv => whnf
    try (refine ⟨by kernel_rfl, ?_⟩; conv => whnf)
    by_cases h2 : h > 1000
    · rw [decide_eq_true h2]
      conv => whnf
      try (refine ⟨by kernel_rfl, ?_⟩; conv => whnf)
      exact ⟨_, rfl, rfl⟩
    · rw [decide_eq_false h2]
      conv => whnf
      try (refine ⟨by kernel_rfl, ?_⟩; conv => whnf)
      rw [ws_i64 (x := g.now + h) (by omega) (by omega), decide_eq_true (show g.now + h > 1099511627776 by omega)]
      conv => whnf
      try (refine ⟨by kernel_rfl, ?_⟩; conv => whnf)
      exact ⟨_, rfl, rfl⟩
/-- What is known of a gate at work, behind the first i that waited. -/
structure TkOk (g : GtD) (N : Int) (i : Nat) (s : TkS) : Prop where
  lp : s.past.length ≤ 40
  lq : s.queue.length ≤ i
  lo : s.out.length ≤ i
  row : ∀ q, q ∈ s.past ∨ q ∈ s.queue → (0 ≤ q.v ∧ q.v ≤ 1073741824) ∧ (0 ≤ q.ch ∧ q.ch < 3) ∧ 0 ≤ q.t ∧ q.t ≤ N
theorem tkRun_succ (g : GtD) (N : Int) {i : Nat} (h : i < g.queue.length) : tkRun g N (i + 1) = tkStep g N (tkRun g N i) g.queue[i] := by
  unfold tkRun
  rw [List.take_add_one, List.getElem?_eq_getElem h, List.foldl_append]
  rfl
theorem tk_first {g : GtD} {N : Int} (ok : GtOk g) (hN : g.now ≤ N) : TkOk g N 0 (tkRun g N 0) :=
  ⟨Nat.le_trans (List.length_filter_le _ _) ok.lp, Nat.le_refl _, Nat.le_refl _, fun q hq => by
    rcases hq with hq | hq
    · have := ok.row q (.inl (List.mem_filter.1 hq).1)
      exact ⟨this.1, this.2.1, this.2.2.1, Int.le_trans this.2.2.2 hN⟩
    · cases hq⟩
theorem tk_next {g : GtD} {N : Int} {i : Nat} (h : TkOk g N i (tkRun g N i)) (ok : GtOk g) (hN : g.now ≤ N) (hc : i < g.queue.length) : TkOk g N (i + 1) (tkRun g N (i + 1)) := by
  rw [tkRun_succ g N hc]
  have hx := ok.row _ (.inr (List.getElem_mem hc))
  have n0 := ok.now.1
  unfold tkStep
  split
  · exact ⟨h.lp, Nat.le_succ_of_le h.lq, by rw [List.length_append]; exact Nat.succ_le_succ h.lo, h.row⟩
  · split
    · rename_i hf
      unfold fitsB at hf
      simp only [Bool.and_eq_true, decide_eq_true_eq] at hf
      refine ⟨by rw [List.length_append]; exact hf.2.2, Nat.le_succ_of_le h.lq, by rw [List.length_append]; exact Nat.succ_le_succ h.lo, fun q hq => ?_⟩
      rcases hq with hq | hq
      · rcases List.mem_append.1 hq with hq | hq
        · exact h.row q (.inl hq)
        · rw [List.mem_singleton.1 hq]
          exact ⟨hx.1, hx.2.1, by dsimp only; omega, Int.le_refl _⟩
      · exact h.row q (.inr hq)
    · refine ⟨h.lp, by rw [List.length_append]; exact Nat.succ_le_succ h.lq, Nat.le_succ_of_le h.lo, fun q hq => ?_⟩
      rcases hq with hq | hq
      · exact h.row q (.inl hq)
      · rcases List.mem_append.1 hq with hq | hq
        · exact h.row q (.inr hq)
        · rw [List.mem_singleton.1 hq]
          exact ⟨hx.1, hx.2.1, hx.2.2.1, Int.le_trans hx.2.2.2 hN⟩
theorem gtick_ok {fp fq : Bool} {g : GtD} {h : Int} (hb : chkGt g = 0) (ok : GtOk g) (hr : 1 ≤ h ∧ h ≤ 1000 ∧ g.now + h ≤ 1099511627776) :
    FnV Try.prog G0 21 [.agg (g.cells fp fq), nI .i64 h] (.tup [.agg ((tickG g h).cells false false), .ds false (tickS g h).out.length (intsC (tickS g h).out), nI .i64 0]) := by
  have ck := gcheck_fn (fp := fp) (fq := fq) (g := g)
  rw [hb] at ck
  have nP := rowsQ_noHs g.past
  have nQ := rowsQ_noHs g.queue
  have nG := gtd_noHs fp fq g
  obtain ⟨n1, n2⟩ := ok.now
  have okp := ok.lp
  have okq := ok.lq
  unfold GtD.cells at ck nG ⊢
  refine fn_of_vwp Γok Try.func21 (by kernel_rfl) rfl (by simp [Try.ntmps21]) (wpv_ok Γok (by kernel_rfl) _ _ _ ?_); conv => whnf
  refine ⟨_, ret_of_fn G0ok (ck) (by first | rfl | simp only [noHs, noH, nI, bI, Bool.and_self, Bool.and_true, Bool.true_and, nP, nQ]) (by first | rfl | simp only [noHs, noH, nI, bI, Bool.and_self, Bool.and_true, Bool.true_and, nP, nQ]), ?_⟩; (conv => whnf); (try (refine ⟨by kernel_rfl, ?_⟩; conv => whnf))
  rw [decide_eq_false (show ¬ h < 1 by omega)]
  conv => whnf
  try (refine ⟨by kernel_rfl, ?_⟩; conv => whnf)
  rw [decide_eq_false (show ¬ h > 1000 by omega)]
  conv => whnf
  try (refine ⟨by kernel_rfl, ?_⟩; conv => whnf)
  rw [ws_i64 (x := g.now + h) (by omega) (by omega), decide_eq_false (show ¬ g.now + h > 1099511627776 by omega)]
  conv => whnf
  try (refine ⟨by kernel_rfl, ?_⟩; conv => whnf)
  rw [ws_i64 (x := g.now + h) (by omega) (by omega)]
  unfold tickG tickS
  have hN : g.now + 1 ≤ g.now + h := by omega
  have hN2 := hr.2.2
  refine gen_ex (g.now + h) fun N eN => ?_
  rw [← eN] at hN hN2 ⊢
  clear eN
  have kl : ∀ i, (keptP (g.past.take i) N).length ≤ i := fun i => Nat.le_trans (List.length_filter_le _ _) (by rw [List.length_take]; exact Nat.min_le_left _ _)
  refine vloop_invK G0ok [(0, some 0), (1, some 1), (2, none)] 3 (X := Nat) (fun i => [(48, nI .i64 i), (47, nI .i64 g.past.length), (46, .ds fp g.past.length (rows QD.cells g.past)), (9, .ds fq g.queue.length (rows QD.cells g.queue)), (6, nI .i64 0), (5, .ds true 0 []), (4, .ptr 1 0), (2, .ptr 0 0)])
    (fun i => [(0, some [nI .i64 g.l0, nI .i64 g.l1, nI .i64 g.l2, nI .i64 g.b0, nI .i64 g.b1, nI .i64 g.b2, nI .i64 N, .sl 2 0 (keptP (g.past.take i) N).length 4, .ds true 0 []]), (1, some [nI .i64 0, nI .i64 0, nI .i64 0, nI .i64 0, nI .i64 0, nI .i64 0, nI .i64 0, .ds true 0 [], .ds true 0 []]), (2, some (rows QD.cells (keptP (g.past.take i) N)))]) (fun i => i ≤ g.past.length) (fun i => g.past.length - i) 0 rfl
    ⟨⟨_, rfl, conv_nI (rfl)⟩, ⟨_, rfl, conv_nI (rfl)⟩, ⟨_, rfl, conv_eq rfl (nP)⟩, ⟨_, rfl, conv_eq rfl (nQ)⟩, ⟨_, rfl, conv_nI (rfl)⟩, ⟨_, rfl, .same rfl⟩, ⟨_, rfl, .ptr rfl⟩, ⟨_, rfl, .ptr rfl⟩, trivial⟩ ⟨.inr ⟨_, _, rfl, rfl, .cons (.same rfl) (.cons (.same rfl) (.cons (.same rfl) (.cons (.same rfl) (.cons (.same rfl) (.cons (.same rfl) (.cons (.same rfl) (.cons (.null rfl) (.cons (.same rfl) .nil))))))))⟩, .inr ⟨_, _, rfl, rfl, .same rfl⟩, .inl ⟨rfl, rfl⟩, trivial⟩ (Nat.zero_le _) ?_
  intro i hi
  try dsimp only at hi ⊢
  refine wpv_ok Γok (by kernel_rfl) _ _ _ ?_; conv => whnf
  have kli := kl i
  have rl : (rows QD.cells (keptP (g.past.take i) N)).length = (keptP (g.past.take i) N).length * 4 := rows_length (w := 4) fun a _ => rfl
  refine bool_cases (fun hc => ?_) (fun hc => ?_)
  · have hc := of_decide_eq_true hc
    have hc : i < g.past.length := by omega
    have st : keptP (g.past.take (i + 1)) N = keptP (g.past.take i) N ++ keptP [g.past[i]] N := by unfold keptP; rw [List.take_add_one, List.getElem?_eq_getElem hc, List.filter_append]; rfl
    have hq := ok.row _ (.inl (List.getElem_mem hc))
    conv => whnf
    try (refine ⟨by kernel_rfl, ?_⟩; conv => whnf)
    refine bindP_intro (if_pos (inB_ok (by omega) (by omega))) ?_; conv => whnf
    refine bindP_intro (row_load (i := i) (w := 4) rfl rfl rfl (fun a _ => qd_len a) (by dsimp only; omega) hc) ?_
    refine gen_ex g.past[i] fun q eq => ?_
    rw [← eq] at st hq ⊢
    clear eq
    have qc : q.cells = [nI .i64 q.id, nI .i64 q.v, nI .i64 q.ch, nI .i64 q.t] := rfl
    rw [qc]
    conv => whnf
    try (refine ⟨by kernel_rfl, ?_⟩; conv => whnf)
    rw [ws_i64 (x := N - q.t) (by omega) (by omega)]
    conv => whnf
    try (refine ⟨by kernel_rfl, ?_⟩; conv => whnf)
    by_cases hk : N - q.t < 24
    · rw [decide_eq_true hk]
      have st : keptP (g.past.take (i + 1)) N = keptP (g.past.take i) N ++ [q] := by rw [st]; unfold keptP; rw [List.filter_cons, if_pos (by rw [decide_eq_true hk])]; rfl
      have sl : (keptP (g.past.take (i + 1)) N).length = (keptP (g.past.take i) N).length + 1 := by rw [st, List.length_append]; rfl
      conv => whnf
      try (refine ⟨by kernel_rfl, ?_⟩; conv => whnf)
      refine .ownAs 1 q.cells rfl (by rw [qc]; rfl) ?_
      conv => whnf
      try (refine ⟨by kernel_rfl, ?_⟩; conv => whnf)
      refine onlyIf_intro (by show (Nat.beq (rows QD.cells (keptP (g.past.take i) N)).length _ && _) = true; rw [rl]; simp [maxLen]; omega) ?_
      refine .ownAs (keptP (g.past.take (i + 1)) N).length (rows QD.cells (keptP (g.past.take (i + 1)) N)) sl.symm (by rw [st, rows_app, rows_one]) ?_
      conv => whnf
      try (refine ⟨by kernel_rfl, ?_⟩; conv => whnf)
      refine next_round (y := i) G0ok (i + 1) [(0, some 0), (1, some 1), (2, some 5)] rfl ⟨⟨_, rfl, conv_nI (ws_i64 (by omega) (by omega))⟩, ⟨_, rfl, conv_nI (rfl)⟩, ⟨_, rfl, conv_eq rfl (nP)⟩, ⟨_, rfl, conv_eq rfl (nQ)⟩, ⟨_, rfl, conv_nI (rfl)⟩, ⟨_, rfl, .same rfl⟩, ⟨_, rfl, .ptr rfl⟩, ⟨_, rfl, .ptr rfl⟩, trivial⟩ ⟨.inr ⟨_, _, rfl, rfl, .cons (.same rfl) (.cons (.same rfl) (.cons (.same rfl) (.cons (.same rfl) (.cons (.same rfl) (.cons (.same rfl) (.cons (.same rfl) (.cons (.sl rfl) (.cons (.same rfl) .nil))))))))⟩, .inr ⟨_, _, rfl, rfl, .same rfl⟩, .inr ⟨_, _, rfl, rfl, .same (rowsQ_noHs _)⟩, trivial⟩ (by omega) (by omega)
    · rw [decide_eq_false hk]
      have st : keptP (g.past.take (i + 1)) N = keptP (g.past.take i) N := by rw [st]; unfold keptP; rw [List.filter_cons, if_neg (by rw [decide_eq_false hk]; decide)]; exact List.append_nil _
      conv => whnf
      try (refine ⟨by kernel_rfl, ?_⟩; conv => whnf)
      refine next_round (y := i) G0ok (i + 1) [(0, some 0), (1, some 1), (2, some 2)] rfl ⟨⟨_, rfl, conv_nI (ws_i64 (by omega) (by omega))⟩, ⟨_, rfl, conv_nI (rfl)⟩, ⟨_, rfl, conv_eq rfl (nP)⟩, ⟨_, rfl, conv_eq rfl (nQ)⟩, ⟨_, rfl, conv_nI (rfl)⟩, ⟨_, rfl, .same rfl⟩, ⟨_, rfl, .ptr rfl⟩, ⟨_, rfl, .ptr rfl⟩, trivial⟩ ⟨.inr ⟨_, _, rfl, rfl, .cons (.same rfl) (.cons (.same rfl) (.cons (.same rfl) (.cons (.same rfl) (.cons (.same rfl) (.cons (.same rfl) (.cons (.same rfl) (.cons (by rw [st]; exact .sl rfl) (.cons (.same rfl) .nil))))))))⟩, .inr ⟨_, _, rfl, rfl, .same rfl⟩, .inr ⟨_, _, rfl, rfl, convs_eq (by rw [st]) (rowsQ_noHs _)⟩, trivial⟩ (by omega) (by omega)
  · have hc := of_decide_eq_false hc
    have e : i = g.past.length := by omega
    subst e
    rw [List.take_length] at kli rl ⊢
    conv => whnf
    try (refine ⟨by kernel_rfl, ?_⟩; conv => whnf)
    have t0 : tkRun g N 0 = ⟨keptP g.past N, [], []⟩ := rfl
    refine vloop_invK G0ok [(0, some 0), (1, some 1), (2, some 2), (3, none), (4, none)] 5 (X := Nat) (fun i => [(67, nI .i64 i), (66, nI .i64 g.queue.length), (65, .ds fq g.queue.length (rows QD.cells g.queue)), (12, .sl 4 0 (tkRun g N i).out.length 1), (6, nI .i64 0), (5, .ds true 0 []), (4, .ptr 1 0), (2, .ptr 0 0)])
      (fun i => [(0, some [nI .i64 g.l0, nI .i64 g.l1, nI .i64 g.l2, nI .i64 g.b0, nI .i64 g.b1, nI .i64 g.b2, nI .i64 N, .sl 2 0 (tkRun g N i).past.length 4, .sl 3 0 (tkRun g N i).queue.length 4]), (1, some [nI .i64 0, nI .i64 0, nI .i64 0, nI .i64 0, nI .i64 0, nI .i64 0, nI .i64 0, .ds true 0 [], .ds true 0 []]), (2, some (rows QD.cells (tkRun g N i).past)), (3, some (rows QD.cells (tkRun g N i).queue)), (4, some (intsC (tkRun g N i).out))]) (fun i => i ≤ g.queue.length ∧ TkOk g N i (tkRun g N i)) (fun i => g.queue.length - i) 0 rfl
      ⟨⟨_, rfl, conv_nI (rfl)⟩, ⟨_, rfl, conv_nI (rfl)⟩, ⟨_, rfl, conv_eq rfl (nQ)⟩, ⟨_, rfl, .null rfl⟩, ⟨_, rfl, conv_nI (rfl)⟩, ⟨_, rfl, .same rfl⟩, ⟨_, rfl, .ptr rfl⟩, ⟨_, rfl, .ptr rfl⟩, trivial⟩ ⟨.inr ⟨_, _, rfl, rfl, .cons (.same rfl) (.cons (.same rfl) (.cons (.same rfl) (.cons (.same rfl) (.cons (.same rfl) (.cons (.same rfl) (.cons (.same rfl) (.cons (.sl rfl) (.cons (.null rfl) .nil))))))))⟩, .inr ⟨_, _, rfl, rfl, .same rfl⟩, .inr ⟨_, _, rfl, rfl, .same (rowsQ_noHs _)⟩, .inl ⟨rfl, rfl⟩, .inl ⟨rfl, rfl⟩, trivial⟩ ⟨Nat.zero_le _, tk_first ok (by omega)⟩ ?_
    rintro i ⟨hi, hok⟩
    try dsimp only at hi hok ⊢
    refine wpv_ok Γok (by kernel_rfl) _ _ _ ?_; conv => whnf
    refine bool_cases (fun hc => ?_) (fun hc => ?_)
    · have hc := of_decide_eq_true hc
      have hc : i < g.queue.length := by omega
      have hq := ok.row _ (.inr (List.getElem_mem hc))
      have hx : g.queue[i]'hc ∈ g.queue := List.getElem_mem hc
      have st := tkRun_succ g N hc
      conv => whnf
      try (refine ⟨by kernel_rfl, ?_⟩; conv => whnf)
      refine bindP_intro (if_pos (inB_ok (by omega) (by omega))) ?_; conv => whnf
      refine bindP_intro (row_load (i := i) (w := 4) rfl rfl rfl (fun a _ => qd_len a) (by dsimp only; omega) hc) ?_
      have nx := tk_next hok ok (by omega) hc
      rw [st] at nx
      refine gen_ex g.queue[i] fun x ex => ?_
      rw [← ex] at st hq nx ⊢
      clear ex hx
      have xc : x.cells = [nI .i64 x.id, nI .i64 x.v, nI .i64 x.ch, nI .i64 x.t] := rfl
      refine gen_ex (tkRun g N i) fun s es => ?_
      rw [← es] at st hok nx ⊢
      have lP : (rows QD.cells s.past).length = s.past.length * 4 := rows_length (w := 4) fun a _ => rfl
      have lQ : (rows QD.cells s.queue).length = s.queue.length * 4 := rows_length (w := 4) fun a _ => rfl
      have lO : (intsC s.out).length = s.out.length := List.length_map _
      have nP2 := rowsQ_noHs s.past
      have nQ2 := rowsQ_noHs s.queue
      have o1 := hok.lp
      have o2 := hok.lq
      have o3 := hok.lo
      unfold tkStep at nx st
      rw [xc]
      conv => whnf
      try (refine ⟨by kernel_rfl, ?_⟩; conv => whnf)
      rw [ws_i64 (x := N - x.t) (by omega) (by omega)]
      by_cases h24 : N - x.t ≥ 24
      · rw [if_pos h24] at st nx
        rw [decide_eq_true h24]
        conv => whnf
        try (refine ⟨by kernel_rfl, ?_⟩; conv => whnf)
        refine .ownAs 1 [nI .i64 x.id] rfl rfl ?_
        conv => whnf
        try (refine ⟨by kernel_rfl, ?_⟩; conv => whnf)
        refine onlyIf_intro (by show (Nat.beq (intsC s.out).length _ && _) = true; rw [lO]; simp [maxLen]; omega) ?_
        refine .ownAs (s.out.length + 1) (intsC (s.out ++ [x.id])) rfl (by unfold intsC; rw [List.map_append]; rfl) ?_
        conv => whnf
        try (refine ⟨by kernel_rfl, ?_⟩; conv => whnf)
        refine next_round (y := i) G0ok (i + 1) [(0, some 0), (1, some 1), (2, some 2), (3, some 3), (4, some 7)] rfl ⟨⟨_, rfl, conv_nI (ws_i64 (by omega) (by omega))⟩, ⟨_, rfl, conv_nI (rfl)⟩, ⟨_, rfl, conv_eq rfl (nQ)⟩, ⟨_, rfl, conv_slE rfl rfl (by rw [st, List.length_append]; rfl) rfl⟩, ⟨_, rfl, conv_nI (rfl)⟩, ⟨_, rfl, .same rfl⟩, ⟨_, rfl, .ptr rfl⟩, ⟨_, rfl, .ptr rfl⟩, trivial⟩ ⟨.inr ⟨_, _, rfl, rfl, .cons (.same rfl) (.cons (.same rfl) (.cons (.same rfl) (.cons (.same rfl) (.cons (.same rfl) (.cons (.same rfl) (.cons (.same rfl) (.cons (by rw [st]; exact .sl rfl) (.cons (by rw [st]; exact .sl rfl) .nil))))))))⟩, .inr ⟨_, _, rfl, rfl, .same rfl⟩, .inr ⟨_, _, rfl, rfl, convs_eq (by rw [st]) (rowsQ_noHs _)⟩, .inr ⟨_, _, rfl, rfl, convs_eq (by rw [st]) (rowsQ_noHs _)⟩, .inr ⟨_, _, rfl, rfl, convs_eq (by rw [st]) (intsC_noHs _)⟩, trivial⟩ ⟨hc, by rw [st]; exact nx⟩ (by omega)
      · rw [if_neg h24] at st nx
        rw [decide_eq_false h24]
        conv => whnf
        try (refine ⟨by kernel_rfl, ?_⟩; conv => whnf)
        have fi := gfits_fn (fp := false) (fq := false) (g := g.at' N s) (x := x) (by show s.past.length ≤ 100; omega) (fun q hq => (hok.row q (.inl hq)).1) ⟨by show 0 ≤ N; omega, by show N ≤ _; omega⟩ (fun q hq => ⟨(hok.row q (.inl hq)).2.2.1, by have := (hok.row q (.inl hq)).2.2.2; omega⟩) hq.1 hq.2.1
        refine ⟨_, ret_own [2, 3] G0ok (fi) (mapO_cons (deep_agg rfl (mapO_cons (deepV_noH _ _ rfl) (mapO_cons (deepV_noH _ _ rfl) (mapO_cons (deepV_noH _ _ rfl) (mapO_cons (deepV_noH _ _ rfl) (mapO_cons (deepV_noH _ _ rfl) (mapO_cons (deepV_noH _ _ rfl) (mapO_cons (deepV_noH _ _ rfl) (mapO_cons (deep_row rfl lP nP2) (mapO_cons (deep_row rfl lQ nQ2) mapO_nil)))))))))) (mapO_cons (deepV_noH _ _ rfl) mapO_nil)) rfl, ?_⟩; (conv => whnf); (try (refine ⟨by kernel_rfl, ?_⟩; conv => whnf))
        cases hf : fitsB (g.at' N s) x with
        | true =>
          rw [if_pos hf] at st nx
          have xc2 : QD.cells { x with t := N } = [nI .i64 x.id, nI .i64 x.v, nI .i64 x.ch, nI .i64 N] := rfl
          conv => whnf
          try (refine ⟨by kernel_rfl, ?_⟩; conv => whnf)
          refine .ownAs 1 (QD.cells { x with t := N }) rfl rfl ?_
          conv => whnf
          try (refine ⟨by kernel_rfl, ?_⟩; conv => whnf)
          refine onlyIf_intro (by show (Nat.beq (rows QD.cells s.past).length (s.past.length * 4) && _) = true; rw [lP]; simp [maxLen]; omega) ?_
          refine .ownAs (s.past.length + 1) (rows QD.cells (s.past ++ [{ x with t := N }])) rfl (by rw [rows_app, rows_one]) ?_
          conv => whnf
          try (refine ⟨by kernel_rfl, ?_⟩; conv => whnf)
          refine .ownAs 1 [nI .i64 x.id] rfl rfl ?_
          conv => whnf
          try (refine ⟨by kernel_rfl, ?_⟩; conv => whnf)
          refine onlyIf_intro (by show (Nat.beq (intsC s.out).length _ && _) = true; rw [lO]; simp [maxLen]; omega) ?_
          refine .ownAs (s.out.length + 1) (intsC (s.out ++ [x.id])) rfl (by unfold intsC; rw [List.map_append]; rfl) ?_
          conv => whnf
          try (refine ⟨by kernel_rfl, ?_⟩; conv => whnf)
          refine next_round (y := i) G0ok (i + 1) [(0, some 0), (1, some 1), (2, some 7), (3, some 3), (4, some 9)] rfl ⟨⟨_, rfl, conv_nI (ws_i64 (by omega) (by omega))⟩, ⟨_, rfl, conv_nI (rfl)⟩, ⟨_, rfl, conv_eq rfl (nQ)⟩, ⟨_, rfl, conv_slE rfl rfl (by rw [st, List.length_append]; rfl) rfl⟩, ⟨_, rfl, conv_nI (rfl)⟩, ⟨_, rfl, .same rfl⟩, ⟨_, rfl, .ptr rfl⟩, ⟨_, rfl, .ptr rfl⟩, trivial⟩ ⟨.inr ⟨_, _, rfl, rfl, .cons (.same rfl) (.cons (.same rfl) (.cons (.same rfl) (.cons (.same rfl) (.cons (.same rfl) (.cons (.same rfl) (.cons (.same rfl) (.cons (conv_slE rfl rfl (by rw [st, List.length_append]; rfl) rfl) (.cons (by rw [st]; exact .sl rfl) .nil))))))))⟩, .inr ⟨_, _, rfl, rfl, .same rfl⟩, .inr ⟨_, _, rfl, rfl, convs_eq (by rw [st]) (rowsQ_noHs _)⟩, .inr ⟨_, _, rfl, rfl, convs_eq (by rw [st]) (rowsQ_noHs _)⟩, .inr ⟨_, _, rfl, rfl, convs_eq (by rw [st]) (intsC_noHs _)⟩, trivial⟩ ⟨hc, by rw [st]; exact nx⟩ (by omega)
        | false =>
          rw [if_neg (by rw [hf]; decide)] at st nx
          conv => whnf
          try (refine ⟨by kernel_rfl, ?_⟩; conv => whnf)
          refine .ownAs 1 x.cells rfl (by rw [xc]; rfl) ?_
          conv => whnf
          try (refine ⟨by kernel_rfl, ?_⟩; conv => whnf)
          refine onlyIf_intro (by show (Nat.beq (rows QD.cells s.queue).length (s.queue.length * 4) && _) = true; rw [lQ]; simp [maxLen]; omega) ?_
          refine .ownAs (s.queue.length + 1) (rows QD.cells (s.queue ++ [x])) rfl (by rw [rows_app, rows_one]) ?_
          conv => whnf
          try (refine ⟨by kernel_rfl, ?_⟩; conv => whnf)
          refine next_round (y := i) G0ok (i + 1) [(0, some 0), (1, some 1), (2, some 2), (3, some 7), (4, some 4)] rfl ⟨⟨_, rfl, conv_nI (ws_i64 (by omega) (by omega))⟩, ⟨_, rfl, conv_nI (rfl)⟩, ⟨_, rfl, conv_eq rfl (nQ)⟩, ⟨_, rfl, conv_slE rfl rfl (by rw [st]) rfl⟩, ⟨_, rfl, conv_nI (rfl)⟩, ⟨_, rfl, .same rfl⟩, ⟨_, rfl, .ptr rfl⟩, ⟨_, rfl, .ptr rfl⟩, trivial⟩ ⟨.inr ⟨_, _, rfl, rfl, .cons (.same rfl) (.cons (.same rfl) (.cons (.same rfl) (.cons (.same rfl) (.cons (.same rfl) (.cons (.same rfl) (.cons (.same rfl) (.cons (by rw [st]; exact .sl rfl) (.cons (conv_slE rfl rfl (by rw [st, List.length_append]; rfl) rfl) .nil))))))))⟩, .inr ⟨_, _, rfl, rfl, .same rfl⟩, .inr ⟨_, _, rfl, rfl, convs_eq (by rw [st]) (rowsQ_noHs _)⟩, .inr ⟨_, _, rfl, rfl, convs_eq (by rw [st]) (rowsQ_noHs _)⟩, .inr ⟨_, _, rfl, rfl, convs_eq (by rw [st]) (intsC_noHs _)⟩, trivial⟩ ⟨hc, by rw [st]; exact nx⟩ (by omega)
    · have hc := of_decide_eq_false hc
      have e : i = g.queue.length := by omega
      subst e
      refine gen_ex (tkRun g N g.queue.length) fun s es => ?_
      rw [← es] at hok ⊢
      have lP : (rows QD.cells s.past).length = s.past.length * 4 := rows_length (w := 4) fun a _ => rfl
      have lQ : (rows QD.cells s.queue).length = s.queue.length * 4 := rows_length (w := 4) fun a _ => rfl
      have lO : (intsC s.out).length = s.out.length * 1 := by rw [Nat.mul_one]; exact List.length_map _
      have nP2 := rowsQ_noHs s.past
      have nQ2 := rowsQ_noHs s.queue
      conv => whnf
      try (refine ⟨by kernel_rfl, ?_⟩; conv => whnf)
      exact ⟨_, rfl, deep_tup (mapO_cons (deep_agg rfl (mapO_cons (deepV_noH _ _ rfl) (mapO_cons (deepV_noH _ _ rfl) (mapO_cons (deepV_noH _ _ rfl) (mapO_cons (deepV_noH _ _ rfl) (mapO_cons (deepV_noH _ _ rfl) (mapO_cons (deepV_noH _ _ rfl) (mapO_cons (deepV_noH _ _ rfl) (mapO_cons (deep_row rfl lP nP2) (mapO_cons (deep_row rfl lQ nQ2) mapO_nil)))))))))) (mapO_cons (deep_row rfl lO (intsC_noHs _)) (mapO_cons (deepV_noH _ _ rfl) mapO_nil)))⟩
end Go.Proofs.Ytilmfdlonpjjiaa
