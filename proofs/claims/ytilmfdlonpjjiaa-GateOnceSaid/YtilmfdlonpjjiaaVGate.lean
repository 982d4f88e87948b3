/- gate: value, used, fits, by the engine. -/
import Derived.Test.YtilmfdlonpjjiaaBUa
namespace Go.Proofs.Ytilmfdlonpjjiaa
set_option linter.unusedVariables false
set_option linter.unusedSimpArgs false
set_option linter.unusedSectionVars false
open Go.ChangeShapes Go.WideShapes Go.ChangeAt Go.RowKit Go.Joins
set_option maxRecDepth 10000
/-- What has passed, or waits. -/
structure QD where
  id : Int
  v : Int
  ch : Int
  t : Int
def QD.cells (q : QD) : List VV := [nI .i64 q.id, nI .i64 q.v, nI .i64 q.ch, nI .i64 q.t]
theorem qd_len (q : QD) : q.cells.length = 4 := rfl
theorem qd_noHs (q : QD) : noHs q.cells = true := rfl
/-- A gate. -/
structure GtD where
  l0 : Int
  l1 : Int
  l2 : Int
  b0 : Int
  b1 : Int
  b2 : Int
  now : Int
  past : List QD
  queue : List QD
def GtD.cells (fp fq : Bool) (g : GtD) : List VV := [nI .i64 g.l0, nI .i64 g.l1, nI .i64 g.l2, nI .i64 g.b0, nI .i64 g.b1, nI .i64 g.b2, nI .i64 g.now, .ds fp g.past.length (rows QD.cells g.past), .ds fq g.queue.length (rows QD.cells g.queue)]
theorem rowsQ_noHs (l : List QD) : noHs (rows QD.cells l) = true := rows_noHs qd_noHs l
theorem gtd_noHs (fp fq : Bool) (g : GtD) : noHs (g.cells fp fq) = true := by
  unfold GtD.cells
  simp only [noHs, noH, nI, rowsQ_noHs, Bool.and_self]
def valB (n : Int) : Bool := decide (n ≥ 0) && decide (n ≤ 1073741824)
theorem gvalue_fn (n : Int) : FnV Try.prog G0 39 [nI .i64 n] (bI (valB n)) := by
  unfold valB
  refine fn_of_vwp Γok Try.func39 (by kernel_rfl) rfl (by simp [Try.ntmps39]) (wpv_ok Γok (by kernel_rfl) _ _ _ ?_); conv => whnf
  by_cases h : n ≥ 0
  · rw [decide_eq_true h, Bool.true_and]
    conv => whnf
    try (refine ⟨by kernel_rfl, ?_⟩; conv => whnf)
    exact ⟨_, rfl, rfl⟩
  · rw [decide_eq_false h, Bool.false_and]
    conv => whnf
    try (refine ⟨by kernel_rfl, ?_⟩; conv => whnf)
    exact ⟨_, rfl, rfl⟩
def qz : QD := ⟨0, 0, 0, 0⟩
/-- What has passed of a chain within a day, of the first i. -/
def usedN (g : GtD) (ch : Int) : Nat → Int
  | 0 => 0
  | i + 1 => usedN g ch i + if (g.past.getD i qz).ch = ch ∧ g.now - (g.past.getD i qz).t < 24 then (g.past.getD i qz).v else 0
theorem usedN_le {g : GtD} {ch : Int} (h : ∀ q ∈ g.past, 0 ≤ q.v ∧ q.v ≤ 1073741824) : ∀ i, 0 ≤ usedN g ch i ∧ usedN g ch i ≤ 1073741824 * (i : Int)
  | 0 => ⟨Int.le_refl _, Int.le_refl _⟩
  | i + 1 => by
    obtain ⟨h1, h2⟩ := usedN_le h (ch := ch) i
    have hv : 0 ≤ (g.past.getD i qz).v ∧ (g.past.getD i qz).v ≤ 1073741824 := by
      rw [List.getD_eq_getElem?_getD]
      rcases Nat.lt_or_ge i g.past.length with q | q
      · rw [List.getElem?_eq_getElem q]; exact h _ (List.getElem_mem q)
      · rw [List.getElem?_eq_none q]; decide
    unfold usedN
    split <;> constructor <;> push_cast <;> omega
theorem gused_fn {fp fq : Bool} {g : GtD} {ch : Int} (hl : g.past.length ≤ 100) (hv : ∀ q ∈ g.past, 0 ≤ q.v ∧ q.v ≤ 1073741824) (hn : 0 ≤ g.now ∧ g.now ≤ 2199023255552) (ht : ∀ q ∈ g.past, 0 ≤ q.t ∧ q.t ≤ 2199023255552) :
    FnV Try.prog G0 62 [.agg (g.cells fp fq), nI .i64 ch] (nI .i64 (usedN g ch g.past.length)) := by
  have nP := rowsQ_noHs g.past
  have nQ := rowsQ_noHs g.queue
  have nG := gtd_noHs fp fq g
  unfold GtD.cells at *
  refine fn_of_vwp Γok Try.func62 (by kernel_rfl) rfl (by simp [Try.ntmps62]) (wpv_ok Γok (by kernel_rfl) _ _ _ ?_); conv => whnf
  refine vloop_invK G0ok [(0, some 0)] 1 (X := Nat) (fun i => [(11, nI .i64 i), (10, nI .i64 g.past.length), (9, .ds fp g.past.length (rows QD.cells g.past)), (5, nI .i64 (usedN g ch i)), (4, nI .i64 0), (2, .ptr 0 0), (1, nI .i64 ch)]) (fun _ => [(0, some [nI .i64 g.l0, nI .i64 g.l1, nI .i64 g.l2, nI .i64 g.b0, nI .i64 g.b1, nI .i64 g.b2, nI .i64 g.now, .ds fp g.past.length (rows QD.cells g.past), .ds fq g.queue.length (rows QD.cells g.queue)])])
    (fun i => i ≤ g.past.length) (fun i => g.past.length - i) 0 rfl ⟨⟨_, rfl, conv_nI (rfl)⟩, ⟨_, rfl, conv_nI (rfl)⟩, ⟨_, rfl, conv_eq rfl (nP)⟩, ⟨_, rfl, .same rfl⟩, ⟨_, rfl, conv_nI (rfl)⟩, ⟨_, rfl, .ptr rfl⟩, ⟨_, rfl, .same rfl⟩, trivial⟩ ⟨.inr ⟨_, _, rfl, rfl, .same (nG)⟩, trivial⟩ (Nat.zero_le _) ?_
  intro i hi
  try dsimp only at hi ⊢
  refine wpv_ok Γok (by kernel_rfl) _ _ _ ?_; conv => whnf
  refine bool_cases (fun hc => ?_) (fun hc => ?_)
  · have hc := of_decide_eq_true hc
    have hc : i < g.past.length := by omega
    have st : usedN g ch (i + 1) = usedN g ch i + if (g.past.getD i qz).ch = ch ∧ g.now - (g.past.getD i qz).t < 24 then (g.past.getD i qz).v else 0 := rfl
    have gd : g.past.getD i qz = g.past[i] := by rw [List.getD_eq_getElem?_getD, List.getElem?_eq_getElem hc]; rfl
    have hq := hv _ (List.getElem_mem hc)
    have hs := ht _ (List.getElem_mem hc)
    have u1 := usedN_le hv (ch := ch) i
    rw [gd] at st
    conv => whnf
    try (refine ⟨by kernel_rfl, ?_⟩; conv => whnf)
    refine bindP_intro (if_pos (inB_ok (by omega) (by omega))) ?_; conv => whnf
    refine bindP_intro (row_load (i := i) (w := 4) rfl rfl rfl (fun a _ => qd_len a) (by dsimp only; omega) hc) ?_
    refine gen_ex g.past[i] fun q eq => ?_
    rw [← eq] at st hq hs ⊢
    clear eq gd
    unfold QD.cells
    conv => whnf
    try (refine ⟨by kernel_rfl, ?_⟩; conv => whnf)
    by_cases e1 : q.ch = ch
    · rw [show (q.ch == ch) = true from by rw [beq_iff_eq]; exact e1]
      conv => whnf
      try (refine ⟨by kernel_rfl, ?_⟩; conv => whnf)
      rw [ws_i64 (x := g.now - q.t) (by omega) (by omega)]
      conv => whnf
      try (refine ⟨by kernel_rfl, ?_⟩; conv => whnf)
      by_cases e2 : g.now - q.t < 24
      · rw [decide_eq_true e2]
        conv => whnf
        try (refine ⟨by kernel_rfl, ?_⟩; conv => whnf)
        rw [if_pos ⟨e1, e2⟩] at st
        have e3 : wS .i64 (usedN g ch i + q.v) = usedN g ch (i + 1) := by rw [ws_i64 (by omega) (by omega), st]
        refine next_round (y := i) G0ok (i + 1) [(0, some 0)] rfl ⟨⟨_, rfl, conv_nI (ws_i64 (by omega) (by omega))⟩, ⟨_, rfl, conv_nI (rfl)⟩, ⟨_, rfl, conv_eq rfl (nP)⟩, ⟨_, rfl, conv_nI (e3)⟩, ⟨_, rfl, conv_nI (rfl)⟩, ⟨_, rfl, .ptr rfl⟩, ⟨_, rfl, .same rfl⟩, trivial⟩ ⟨.inr ⟨_, _, rfl, rfl, .same (nG)⟩, trivial⟩ (by omega) (by omega)
      · rw [decide_eq_false e2]
        conv => whnf
        try (refine ⟨by kernel_rfl, ?_⟩; conv => whnf)
        rw [if_neg (fun h => e2 h.2), Int.add_zero] at st
        refine next_round (y := i) G0ok (i + 1) [(0, some 0)] rfl ⟨⟨_, rfl, conv_nI (ws_i64 (by omega) (by omega))⟩, ⟨_, rfl, conv_nI (rfl)⟩, ⟨_, rfl, conv_eq rfl (nP)⟩, ⟨_, rfl, conv_nI (st.symm)⟩, ⟨_, rfl, conv_nI (rfl)⟩, ⟨_, rfl, .ptr rfl⟩, ⟨_, rfl, .same rfl⟩, trivial⟩ ⟨.inr ⟨_, _, rfl, rfl, .same (nG)⟩, trivial⟩ (by omega) (by omega)
    · rw [show (q.ch == ch) = false from by rw [beq_eq_false_iff_ne]; exact e1]
      conv => whnf
      try (refine ⟨by kernel_rfl, ?_⟩; conv => whnf)
      rw [if_neg (fun h => e1 h.1), Int.add_zero] at st
      refine next_round (y := i) G0ok (i + 1) [(0, some 0)] rfl ⟨⟨_, rfl, conv_nI (ws_i64 (by omega) (by omega))⟩, ⟨_, rfl, conv_nI (rfl)⟩, ⟨_, rfl, conv_eq rfl (nP)⟩, ⟨_, rfl, conv_nI (st.symm)⟩, ⟨_, rfl, conv_nI (rfl)⟩, ⟨_, rfl, .ptr rfl⟩, ⟨_, rfl, .same rfl⟩, trivial⟩ ⟨.inr ⟨_, _, rfl, rfl, .same (nG)⟩, trivial⟩ (by omega) (by omega)
  · have hc := of_decide_eq_false hc
    have e : i = g.past.length := by omega
    subst e
    conv => whnf
    try (refine ⟨by kernel_rfl, ?_⟩; conv => whnf)
    exact ⟨_, rfl, rfl⟩
def GtD.lim (g : GtD) (ch : Int) : Int := if ch = 0 then g.l0 else if ch = 1 then g.l1 else g.l2
def GtD.big (g : GtD) (ch : Int) : Int := if ch = 0 then g.b0 else if ch = 1 then g.b1 else g.b2
def fitsB (g : GtD) (x : QD) : Bool := decide (x.v < g.big x.ch) && (decide (usedN g x.ch g.past.length + x.v ≤ g.lim x.ch) && decide (g.past.length < 40))
/-- A gate's hour, and what has passed. -/
structure GtOk (g : GtD) : Prop where
  lp : g.past.length ≤ 40
  lq : g.queue.length ≤ 40
  now : 0 ≤ g.now ∧ g.now ≤ 1099511627776
  lim : ∀ c, 0 ≤ g.lim c ∧ g.lim c ≤ 1073741824
  big : ∀ c, 0 ≤ g.big c ∧ g.big c ≤ 1073741824
  row : ∀ q, q ∈ g.past ∨ q ∈ g.queue → (0 ≤ q.v ∧ q.v ≤ 1073741824) ∧ (0 ≤ q.ch ∧ q.ch < 3) ∧ 0 ≤ q.t ∧ q.t ≤ g.now
theorem gfits_fn {fp fq : Bool} {g : GtD} {x : QD} (hl : g.past.length ≤ 100) (hv : ∀ q ∈ g.past, 0 ≤ q.v ∧ q.v ≤ 1073741824) (hn : 0 ≤ g.now ∧ g.now ≤ 2199023255552) (ht : ∀ q ∈ g.past, 0 ≤ q.t ∧ q.t ≤ 2199023255552) (hx : 0 ≤ x.v ∧ x.v ≤ 1073741824) (hc : 0 ≤ x.ch ∧ x.ch < 3) :
    FnV Try.prog G0 40 [.agg (g.cells fp fq), .agg x.cells] (bI (fitsB g x)) := by
  have us := gused_fn (fp := fp) (fq := fq) (ch := x.ch) hl hv hn ht
  have ul := usedN_le hv (ch := x.ch) g.past.length
  have nP := rowsQ_noHs g.past
  have nQ := rowsQ_noHs g.queue
  have nG := gtd_noHs fp fq g
  unfold fitsB
  have hcc : x.ch = 0 ∨ x.ch = 1 ∨ x.ch = 2 := by omega
  unfold QD.cells
  unfold GtD.cells at *
  refine gen_ex (usedN g x.ch g.past.length) fun u eu => ?_
  rw [← eu] at us ul ⊢
  clear eu
  rcases hcc with e | e | e
  all_goals rw [e] at us ⊢
  · rw [show g.big 0 = g.b0 from rfl, show g.lim 0 = g.l0 from rfl]
    refine fn_of_vwp Γok Try.func40 (by kernel_rfl) rfl (by simp [Try.ntmps40]) (wpv_ok Γok (by kernel_rfl) _ _ _ ?_); conv => whnf
    by_cases h1 : x.v < g.b0
    · rw [decide_eq_true h1, Bool.true_and]
      conv => whnf
      try (refine ⟨by kernel_rfl, ?_⟩; conv => whnf)
      refine ⟨_, ret_of_fn G0ok (us) (by first | rfl | simp only [noHs, noH, nI, bI, Bool.and_self, Bool.and_true, Bool.true_and, nP, nQ]) (by first | rfl | simp only [noHs, noH, nI, bI, Bool.and_self, Bool.and_true, Bool.true_and, nP, nQ]), ?_⟩; (conv => whnf); (try (refine ⟨by kernel_rfl, ?_⟩; conv => whnf))
      rw [ws_i64 (x := u + x.v) (by omega) (by omega)]
      by_cases h2 : u + x.v ≤ g.l0
      · rw [decide_eq_true h2, Bool.true_and]
        conv => whnf
        try (refine ⟨by kernel_rfl, ?_⟩; conv => whnf)
        rw [show decide ((g.past.length : Int) < 40) = decide (g.past.length < 40) from decide_eq_decide.2 (by omega)]
        exact ⟨_, rfl, rfl⟩
      · rw [decide_eq_false h2, Bool.false_and]
        conv => whnf
        try (refine ⟨by kernel_rfl, ?_⟩; conv => whnf)
        exact ⟨_, rfl, rfl⟩
    · rw [decide_eq_false h1, Bool.false_and]
      conv => whnf
      try (refine ⟨by kernel_rfl, ?_⟩; conv => whnf)
      exact ⟨_, rfl, rfl⟩
  · rw [show g.big 1 = g.b1 from rfl, show g.lim 1 = g.l1 from rfl]
    refine fn_of_vwp Γok Try.func40 (by kernel_rfl) rfl (by simp [Try.ntmps40]) (wpv_ok Γok (by kernel_rfl) _ _ _ ?_); conv => whnf
    by_cases h1 : x.v < g.b1
    · rw [decide_eq_true h1, Bool.true_and]
      conv => whnf
      try (refine ⟨by kernel_rfl, ?_⟩; conv => whnf)
      refine ⟨_, ret_of_fn G0ok (us) (by first | rfl | simp only [noHs, noH, nI, bI, Bool.and_self, Bool.and_true, Bool.true_and, nP, nQ]) (by first | rfl | simp only [noHs, noH, nI, bI, Bool.and_self, Bool.and_true, Bool.true_and, nP, nQ]), ?_⟩; (conv => whnf); (try (refine ⟨by kernel_rfl, ?_⟩; conv => whnf))
      rw [ws_i64 (x := u + x.v) (by omega) (by omega)]
      by_cases h2 : u + x.v ≤ g.l1
      · rw [decide_eq_true h2, Bool.true_and]
        conv => whnf
        try (refine ⟨by kernel_rfl, ?_⟩; conv => whnf)
        rw [show decide ((g.past.length : Int) < 40) = decide (g.past.length < 40) from decide_eq_decide.2 (by omega)]
        exact ⟨_, rfl, rfl⟩
      · rw [decide_eq_false h2, Bool.false_and]
        conv => whnf
        try (refine ⟨by kernel_rfl, ?_⟩; conv => whnf)
        exact ⟨_, rfl, rfl⟩
    · rw [decide_eq_false h1, Bool.false_and]
      conv => whnf
      try (refine ⟨by kernel_rfl, ?_⟩; conv => whnf)
      exact ⟨_, rfl, rfl⟩
  · rw [show g.big 2 = g.b2 from rfl, show g.lim 2 = g.l2 from rfl]
    refine fn_of_vwp Γok Try.func40 (by kernel_rfl) rfl (by simp [Try.ntmps40]) (wpv_ok Γok (by kernel_rfl) _ _ _ ?_); conv => whnf
    by_cases h1 : x.v < g.b2
    · rw [decide_eq_true h1, Bool.true_and]
      conv => whnf
      try (refine ⟨by kernel_rfl, ?_⟩; conv => whnf)
      refine ⟨_, ret_of_fn G0ok (us) (by first | rfl | simp only [noHs, noH, nI, bI, Bool.and_self, Bool.and_true, Bool.true_and, nP, nQ]) (by first | rfl | simp only [noHs, noH, nI, bI, Bool.and_self, Bool.and_true, Bool.true_and, nP, nQ]), ?_⟩; (conv => whnf); (try (refine ⟨by kernel_rfl, ?_⟩; conv => whnf))
      rw [ws_i64 (x := u + x.v) (by omega) (by omega)]
      by_cases h2 : u + x.v ≤ g.l2
      · rw [decide_eq_true h2, Bool.true_and]
        conv => whnf
        try (refine ⟨by kernel_rfl, ?_⟩; conv => whnf)
        rw [show decide ((g.past.length : Int) < 40) = decide (g.past.length < 40) from decide_eq_decide.2 (by omega)]
        exact ⟨_, rfl, rfl⟩
      · rw [decide_eq_false h2, Bool.false_and]
        conv => whnf
        try (refine ⟨by kernel_rfl, ?_⟩; conv => whnf)
        exact ⟨_, rfl, rfl⟩
    · rw [decide_eq_false h1, Bool.false_and]
      conv => whnf
      try (refine ⟨by kernel_rfl, ?_⟩; conv => whnf)
      exact ⟨_, rfl, rfl⟩
end Go.Proofs.Ytilmfdlonpjjiaa
