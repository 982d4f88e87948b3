/- gate: value, used, fits, by the engine. -/
import Derived.Test.YtilmfdlonpjjiaaBUa
import Derived.Test.YtilmfdlonpjjiaaBUb
import Derived.Test.YtilmfdlonpjjiaaBUd
namespace Go.Proofs.Ytilmfdlonpjjiaa
set_option linter.unusedVariables false
set_option linter.unusedSimpArgs false
set_option linter.unusedSectionVars false
open Go.ChangeShapes Go.WideShapes Go.ChangeAt Go.RowKit Go.Joins
set_option maxRecDepth 10000
/-- What has passed, or waits. -/
structure QD where
  id : Int
  v : Int
  ch : Int
  t : Int
def QD.cells (q : QD) : List VV := [nI .i64 q.id, nI .i64 q.v, nI .i64 q.ch, nI .i64 q.t]
theorem qd_len (q : QD) : q.cells.length = 4 := rfl
theorem qd_noHs (q : QD) : noHs q.cells = true := rfl
/-- A gate. -/
structure GtD where
  l0 : Int
  l1 : Int
  l2 : Int
  b0 : Int
  b1 : Int
  b2 : Int
  now : Int
  past : List QD
  queue : List QD
def GtD.cells (fp fq : Bool) (g : GtD) : List VV := [nI .i64 g.l0, nI .i64 g.l1, nI .i64 g.l2, nI .i64 g.b0, nI .i64 g.b1, nI .i64 g.b2, nI .i64 g.now, .ds fp g.past.length (rows QD.cells g.past), .ds fq g.queue.length (rows QD.cells g.queue)]
theorem rowsQ_noHs (l : List QD) : noHs (rows QD.cells l) = true := rows_noHs qd_noHs l
theorem gtd_noHs (fp fq : Bool) (g : GtD) : noHs (g.cells fp fq) = true := by
  unfold GtD.cells
  simp only [noHs, noH, nI, rowsQ_noHs, Bool.and_self]
def valB (n : Int) : Bool := decide (n ≥ 0) && decide (n ≤ 1073741824)
theorem gvalue_fn (n : Int) : FnV Try.prog G0 39 [nI .i64 n] (bI (valB n)) := by
  unfold valB
  refine fn_of_vwp Γok Try.func39 (by kernel_rfl) rfl (by simp [Try.ntmps39]) (wpv_ok Γok (by kernel_rfl) _ _ _ ?_); conv => whnf
  by_cases h : n ≥ 0
  · rw [decide_eq_true h, Bool.true_and]
    conv => whnf
    try (refine ⟨by kernel_rfl, ?_⟩; conv => whnf)
    exact ⟨_, rfl, rfl⟩
  · rw [decide_eq_false h, Bool.false_and]
    conv => whnf
    try (refine ⟨by kernel_rfl, ?_⟩; conv => whnf)
    exact ⟨_, rfl, rfl⟩
def qz : QD := ⟨0, 0, 0, 0⟩
/-- What has passed of a chain within a day, of the first i. -/
def usedN (g : GtD) (ch : Int) : Nat → Int
  | 0 => 0
  | i + 1 => usedN g ch i + if (g.past.getD i qz).ch = ch ∧ g.now - (g.past.getD i qz).t < 24 then (g.past.getD i qz).v else 0
theorem usedN_le {g : GtD} {ch : Int} (h : ∀ q ∈ g.past, 0 ≤ q.v ∧ q.v ≤ 1073741824) : ∀ i, 0 ≤ usedN g ch i ∧ usedN g ch i ≤ 1073741824 * (i : Int)
  | 0 => ⟨Int.le_refl _, Int.le_refl _⟩
  | i + 1 => by
    obtain ⟨h1, h2⟩ := usedN_le h (ch := ch) i
    have hv : 0 ≤ (g.past.getD i qz).v ∧ (g.past.getD i qz).v ≤ 1073741824 := by
      rw [List.getD_eq_getElem?_getD]
      rcases Nat.lt_or_ge i g.past.length with q | q
      · rw [List.getElem?_eq_getElem q]; exact h _ (List.getElem_mem q)
      · rw [List.getElem?_eq_none q]; decide
    unfold usedN
    split <;> constructor <;> push_cast <;> omega
theorem gused_fn {fp fq : Bool} {g : GtD} {ch : Int} (hl : g.past.length ≤ 100) (hv : ∀ q ∈ g.past, 0 ≤ q.v ∧ q.v ≤ 1073741824) (hn : 0 ≤ g.now ∧ g.now ≤ 2199023255552) (ht : ∀ q ∈ g.past, 0 ≤ q.t ∧ q.t ≤ 2199023255552) :
    FnV Try.prog G0 62 [.agg (g.cells fp fq), nI .i64 ch] (nI .i64 (usedN g ch g.past.length)) := by
  have nP := rowsQ_noHs g.past
  have nQ := rowsQ_noHs g.queue
  have nG := gtd_noHs fp fq g
  unfold GtD.cells at *
  refine fn_of_vwp Γok Try.func62 (by kernel_rfl) rfl (by simp [Try.ntmps62]) (wpv_ok Γok (by kernel_rfl) _ _ _ ?_); conv => whnf
  refine vloop_invK G0ok [(0, some 0)] 1 (X := Nat) (fun i => [(11, nI .i64 i), (10, nI .i64 g.past.length), (9, .ds fp g.past.length (rows QD.cells g.past)), (5, nI .i64 (usedN g ch i)), (4, nI .i64 0), (2, .ptr 0 0), (1, nI .i64 ch)]) (fun _ => [(0, some [nI .i64 g.l0, nI .i64 g.l1, nI .i64 g.l2, nI .i64 g.b0, nI .i64 g.b1, nI .i64 g.b2, nI .i64 g.now, .ds fp g.past.length (rows QD.cells g.past), .ds fq g.queue.length (rows QD.cells g.queue)])])
    (fun i => i ≤ g.past.length) (fun i => g.past.length - i) 0 rfl ⟨⟨_, rfl, conv_nI (rfl)⟩, ⟨_, rfl, conv_nI (rfl)⟩, ⟨_, rfl, conv_eq rfl (nP)⟩, ⟨_, rfl, .same rfl⟩, ⟨_, rfl, conv_nI (rfl)⟩, ⟨_, rfl, .ptr rfl⟩, ⟨_, rfl, .same rfl⟩, trivial⟩ ⟨.inr ⟨_, _, rfl, rfl, .same (nG)⟩, trivial⟩ (Nat.zero_le _) ?_
  intro i hi
  try dsimp only at hi ⊢
  refine wpv_ok Γok (by kernel_rfl) _ _ _ ?_; conv => whnf
  refine bool_cases (fun hc => ?_) (fun hc => ?_)
  · have hc := of_decide_eq_true hc
    have hc : i < g.past.length := by omega
    have st : usedN g ch (i + 1) = usedN g ch i + if (g.past.getD i qz).ch = ch ∧ g.now - (g.past.getD i qz).t < 24 then (g.past.getD i qz).v else 0 := rfl
    have gd : g.past.getD i qz = g.past[i] := by rw [List.getD_eq_getElem?_getD, List.getElem?_eq_getElem hc]; rfl
    have hq := hv _ (List.getElem_mem hc)
    have hs := ht _ (List.getElem_mem hc)
    have u1 := usedN_le hv (ch := ch) i
    rw [gd] at st
    conv => whnf
    try (refine ⟨by kernel_rfl, ?_⟩; conv => whnf)
    refine bindP_intro (if_pos (inB_ok (by omega) (by omega))) ?_; conv => whnf
    refine bindP_intro (row_load (i := i) (w := 4) rfl rfl rfl (fun a _ => qd_len a) (by dsimp only; omega) hc) ?_
    refine gen_ex g.past[i] fun q eq => ?_
    rw [← eq] at st hq hs ⊢
    clear eq gd
    unfold QD.cells
    conv => whnf
    try (refine ⟨by kernel_rfl, ?_⟩; conv => whnf)
    by_cases e1 : q.ch = ch
    · rw [show (q.ch == ch) = true from by rw [beq_iff_eq]; exact e1]
      conv => whnf
      try (refine ⟨by kernel_rfl, ?_⟩; conv => whnf)
      rw [ws_i64 (x := g.now - q.t) (by omega) (by omega)]
      conv => whnf
      try (refine ⟨by kernel_rfl, ?_⟩; conv => whnf)
      by_cases e2 : g.now - q.t < 24
      · rw [decide_eq_true e2]
        conv => whnf
        try (refine ⟨by kernel_rfl, ?_⟩; conv => whnf)
        rw [if_pos ⟨e1, e2⟩] at st
        have e3 : wS .i64 (usedN g ch i + q.v) = usedN g ch (i + 1) := by rw [ws_i64 (by omega) (by omega), st]
        refine next_round (y := i) G0ok (i + 1) [(0, some 0)] rfl ⟨⟨_, rfl, conv_nI (ws_i64 (by omega) (by omega))⟩, ⟨_, rfl, conv_nI (rfl)⟩, ⟨_, rfl, conv_eq rfl (nP)⟩, ⟨_, rfl, conv_nI (e3)⟩, ⟨_, rfl, conv_nI (rfl)⟩, ⟨_, rfl, .ptr rfl⟩, ⟨_, rfl, .same rfl⟩, trivial⟩ ⟨.inr ⟨_, _, rfl, rfl, .same (nG)⟩, trivial⟩ (by omega) (by omega)
      · rw [decide_eq_false e2]
        conv => whnf
        try (refine ⟨by kernel_rfl, ?_⟩; conv => whnf)
        rw [if_neg (fun h => e2 h.2), Int.add_zero] at st
        refine next_round (y := i) G0ok (i + 1) [(0, some 0)] rfl ⟨⟨_, rfl, conv_nI (ws_i64 (by omega) (by omega))⟩, ⟨_, rfl, conv_nI (rfl)⟩, ⟨_, rfl, conv_eq rfl (nP)⟩, ⟨_, rfl, conv_nI (st.symm)⟩, ⟨_, rfl, conv_nI (rfl)⟩, ⟨_, rfl, .ptr rfl⟩, ⟨_, rfl, .same rfl⟩, trivial⟩ ⟨.inr ⟨_, _, rfl, rfl, .same (nG)⟩, trivial⟩ (by omega) (by omega)
    · rw [show (q.ch == ch) = false from by rw [beq_eq_false_iff_ne]; exact e1]
      conv => whnf
      try (refine ⟨by kernel_rfl, ?_⟩; conv => whnf)
      rw [if_neg (fun h => e1 h.1), Int.add_zero] at st
      refine next_round (y := i) G0ok (i + 1) [(0, some 0)] rfl ⟨⟨_, rfl, conv_nI (ws_i64 (by omega) (by omega))⟩, ⟨_, rfl, conv_nI (rfl)⟩, ⟨_, rfl, conv_eq rfl (nP)⟩, ⟨_, rfl, conv_nI (st.symm)⟩, ⟨_, rfl, conv_nI (rfl)⟩, ⟨_, rfl, .ptr rfl⟩, ⟨_, rfl, .same rfl⟩, trivial⟩ ⟨.inr ⟨_, _, rfl, rfl, .same (nG)⟩, trivial⟩ (by omega) (by omega)
  · have hc := of_decide_eq_false hc
    have e : i = g.past.length := by omega
    subst e
    conv => whnf
    try (refine ⟨by kernel_rfl, ?_⟩; conv => whnf)
    exact ⟨_, rfl, rfl⟩
def GtD.lim (g : GtD) (ch : Int) : Int := if ch = 0 then g.l0 else if ch = 1 then g.l1 else g.l2
def GtD.big (g : GtD) (ch : Int) : Int := if ch = 0 then g.b0 else if ch = 1 then g.b1 else g.b2
def fitsB (g : GtD) (x : QD) : Bool := decide (x.v < g.big x.ch) && (decide (usedN g x.ch g.past.length + x.v ≤ g.lim x.ch) && decide (g.past.length < 40))
/-- A gate's hour, and what has passed. -/
structure GtOk (g : GtD) : Prop where
  lp : g.past.length ≤ 40
  lq : g.queue.length ≤ 40
  now : 0 ≤ g.now ∧ g.now ≤ 1099511627776
  lim : ∀ c, 0 ≤ g.lim c ∧ g.lim c ≤ 1073741824
  big : ∀ c, 0 ≤ g.big c ∧ g.big c ≤ 1073741824
  row : ∀ q, q ∈ g.past ∨ q ∈ g.queue → (0 ≤ q.v ∧ q.v ≤ 1073741824) ∧ (0 ≤ q.ch ∧ q.ch < 3) ∧ 0 ≤ q.t ∧ q.t ≤ g.now
theorem gfits_fn {fp fq : Bool} {g : GtD} {x : QD} (hl : g.past.length ≤ 100) (hv : ∀ q ∈ g.past, 0 ≤ q.v ∧ q.v ≤ 1073741824) (hn : 0 ≤ g.now ∧ g.now ≤ 2199023255552) (ht : ∀ q ∈ g.past, 0 ≤ q.t ∧ q.t ≤ 2199023255552) (hx : 0 ≤ x.v ∧ x.v ≤ 1073741824) (hc : 0 ≤ x.ch ∧ x.ch < 3) :
    FnV Try.prog G0 40 [.agg (g.cells fp fq), .agg x.cells] (bI (fitsB g x)) := by
  have us := gused_fn (fp := fp) (fq := fq) (ch := x.ch) hl hv hn ht
  have ul := usedN_le hv (ch := x.ch) g.past.length
  have nP := rowsQ_noHs g.past
  have nQ := rowsQ_noHs g.queue
  have nG := gtd_noHs fp fq g
  unfold fitsB
  have hcc : x.ch = 0 ∨ x.ch = 1 ∨ x.ch = 2 := by omega
  unfold QD.cells
  unfold GtD.cells at *
  refine gen_ex (usedN g x.ch g.past.length) fun u eu => ?_
  rw [← eu] at us ul ⊢
  clear eu
  rcases hcc with e | e | e
  all_goals rw [e] at us ⊢
  · rw [show g.big 0 = g.b0 from rfl, show g.lim 0 = g.l0 from rfl]
    refine fn_of_vwp Γok Try.func40 (by kernel_rfl) rfl (by simp [Try.ntmps40]) (wpv_ok Γok (by kernel_rfl) _ _ _ ?_); conv => whnf
    by_cases h1 : x.v < g.b0
    · rw [decide_eq_true h1, Bool.true_and]
      conv => whnf
      try (refine ⟨by kernel_rfl, ?_⟩; conv => whnf)
      refine ⟨_, ret_of_fn G0ok (us) (by first | rfl | simp only [noHs, noH, nI, bI, Bool.and_self, Bool.and_true, Bool.true_and, nP, nQ]) (by first | rfl | simp only [noHs, noH, nI, bI, Bool.and_self, Bool.and_true, Bool.true_and, nP, nQ]), ?_⟩; (conv => whnf); (try (refine ⟨by kernel_rfl, ?_⟩; conv => whnf))
      rw [ws_i64 (x := u + x.v) (by omega) (by omega)]
      by_cases h2 : u + x.v ≤ g.l0
      · rw [decide_eq_true h2, Bool.true_and]
        conv => whnf
        try (refine ⟨by kernel_rfl, ?_⟩; conv => whnf)
        rw [show decide ((g.past.length : Int) < 40) = decide (g.past.length < 40) from decide_eq_decide.2 (by omega)]
        exact ⟨_, rfl, rfl⟩
      · rw [decide_eq_false h2, Bool.false_and]
        conv => whnf
        try (refine ⟨by kernel_rfl, ?_⟩; conv => whnf)
        exact ⟨_, rfl, rfl⟩
    · rw [decide_eq_false h1, Bool.false_and]
      conv => whnf
      try (refine ⟨by kernel_rfl, ?_⟩; conv => whnf)
      exact ⟨_, rfl, rfl⟩
  · rw [show g.big 1 = g.b1 from rfl, show g.lim 1 = g.l1 from rfl]
    refine fn_of_vwp Γok Try.func40 (by kernel_rfl) rfl (by simp [Try.ntmps40]) (wpv_ok Γok (by kernel_rfl) _ _ _ ?_); conv => whnf
    by_cases h1 : x.v < g.b1
    · rw [decide_eq_true h1, Bool.true_and]
      conv => whnf
      try (refine ⟨by kernel_rfl, ?_⟩; conv => whnf)
      refine ⟨_, ret_of_fn G0ok (us) (by first | rfl | simp only [noHs, noH, nI, bI, Bool.and_self, Bool.and_true, Bool.true_and, nP, nQ]) (by first | rfl | simp only [noHs, noH, nI, bI, Bool.and_self, Bool.and_true, Bool.true_and, nP, nQ]), ?_⟩; (conv => whnf); (try (refine ⟨by kernel_rfl, ?_⟩; conv => whnf))
      rw [ws_i64 (x := u + x.v) (by omega) (by omega)]
      by_cases h2 : u + x.v ≤ g.l1
      · rw [decide_eq_true h2, Bool.true_and]
        conv => whnf
        try (refine ⟨by kernel_rfl, ?_⟩; conv => whnf)
        rw [show decide ((g.past.length : Int) < 40) = decide (g.past.length < 40) from decide_eq_decide.2 (by omega)]
        exact ⟨_, rfl, rfl⟩
      · rw [decide_eq_false h2, Bool.false_and]
        conv => whnf
        try (refine ⟨by kernel_rfl, ?_⟩; conv => whnf)
        exact ⟨_, rfl, rfl⟩
    · rw [decide_eq_false h1, Bool.false_and]
      conv => whnf
      try (refine ⟨by kernel_rfl, ?_⟩; conv => whnf)
      exact ⟨_, rfl, rfl⟩
  · rw [show g.big 2 = g.b2 from rfl, show g.lim 2 = g.l2 from rfl]
    refine fn_of_vwp Γok Try.func40 (by kernel_rfl) rfl (by simp [Try.ntmps40]) (wpv_ok Γok (by kernel_rfl) _ _ _ ?_); conv => whnf
    by_cases h1 : x.v < g.b2
    · rw [decide_eq_true h1, Bool.true_and]
      conv => whnf
      try (refine ⟨by kernel_rfl, ?_⟩; conv => whnf)
      refine ⟨_, ret_of_fn G0ok (us) (by first | rfl | simp only [noHs, noH, nI, bI, Bool.and_self, Bool.and_true, Bool.true_and, nP, nQ]) (by first | rfl | simp only [noHs, noH, nI, bI, Bool.and_self, Bool.and_true, Bool.true_and, nP, nQ]), ?_⟩; (conv => whnf); (try (refine ⟨by kernel_rfl, ?_⟩; conv => whnf))
      rw [ws_i64 (x := u + x.v) (by omega) (by omega)]
      by_cases h2 : u + x.v ≤ g.l2
      · rw [decide_eq_true h2, Bool.true_and]
        conv => whnf
        try (refine ⟨by kernel_rfl, ?_⟩; conv => whnf)
        rw [show decide ((g.past.length : Int) < 40) = decide (g.past.length < 40) from decide_eq_decide.2 (by omega)]
        exact ⟨_, rfl, rfl⟩
      · rw [decide_eq_false h2, Bool.false_and]
        conv => whnf
        try (refine ⟨by kernel_rfl, ?_⟩; conv => whnf)
        exact ⟨_, rfl, rfl⟩
    · rw [decide_eq_false h1, Bool.false_and]
      conv => whnf
      try (refine ⟨by kernel_rfl, ?_⟩; conv => whnf)
      exact ⟨_, rfl, rfl⟩
end Go.Proofs.Ytilmfdlonpjjiaa
namespace Go.Proofs.Ytilmfdlonpjjiaa
set_option linter.unusedVariables false
set_option linter.unusedSimpArgs false
set_option linter.unusedSectionVars false
open Go.ChangeShapes Go.WideShapes Go.ChangeAt Go.RowKit Go.Joins
set_option maxRecDepth 10000
/-- Several ways that meet at a loop. -/
theorem join_loop {P : Program} {G : Globs} {K : Nat} {x : Code} {Q : Exit → VS → Prop} {X : Type} (inv : X → VS) {R : Prop} (rest : (∀ y, VLoop P G K x Q (inv y)) → R) (key : ∀ y, VLoop P G K x Q (inv y)) : R := rest key
theorem meet {P : Program} {G : Globs} {K : Nat} {x : Code} {Q : Exit → VS → Prop} {T' : List (Nat × VV)} {sz : Nat} {H' : List (Nat × Option (List VV))} {n' : Nat} (h : VLoop P G K x Q ⟨T', sz, H', n'⟩) (hG : GOk G) (ren : List (Nat × Option Nat)) {T : List (Nat × VV)} {H : List (Nat × Option (List VV))} {n : Nat}
    (hok : renOk ren n' = true) (hT : convT ren (frz ren H) T T') (hH : convH ren (frz ren H) H H') (hK : anchOk K ren = true := by rfl) : VLoop P G K x Q ⟨T, sz, H, n⟩ := vloop_clean hG ren n' T' H' hok hT hH h hK
def limTo (g : GtD) : Nat → Bool
  | 0 => decide (g.now ≥ 0) && decide (g.now ≤ 1099511627776)
  | i + 1 => limTo g i && (valB (g.lim i) && valB (g.big i))
def qOk (now : Int) (q : QD) : Bool := valB q.v && (decide (q.ch ≥ 0) && (decide (q.ch < 3) && (decide (q.t ≥ 0) && decide (q.t ≤ now))))
def difTo (L : List QD) (x : QD) : Nat → Bool
  | 0 => true
  | j + 1 => difTo L x j && decide (x.id ≠ (L.getD j qz).id)
def rowsOk (g : GtD) (L : List QD) : Nat → Bool
  | 0 => limTo g 3
  | i + 1 => (rowsOk g L i && qOk g.now (L.getD i qz)) && difTo L (L.getD i qz) i
noncomputable def chkGt (g : GtD) : Nat := if 40 < g.past.length ∨ 40 < g.queue.length then 1 else if rowsOk g (g.past ++ g.queue) (g.past ++ g.queue).length = true then 0 else 12
theorem bne_dec (a b : Int) : (a != b) = decide (a ≠ b) := by
  by_cases h : a = b
  · subst h; simp
  · simp [h]
theorem gcheck_fn {fp fq : Bool} {g : GtD} : FnV Try.prog G0 20 [.agg (g.cells fp fq)] (nI .i64 (chkGt g)) := by
  have nP := rowsQ_noHs g.past
  have nQ := rowsQ_noHs g.queue
  have nG := gtd_noHs fp fq g
  unfold chkGt
  unfold GtD.cells at *
  by_cases s1 : 40 < g.past.length
  · rw [if_pos (.inl s1)]
    refine fn_of_vwp Γok Try.func20 (by kernel_rfl) rfl (by simp [Try.ntmps20]) (wpv_ok Γok (by kernel_rfl) _ _ _ ?_); conv => whnf
    rw [decide_eq_true (show ((g.past.length : Nat) : Int) > 40 by omega)]
    conv => whnf
    try (refine ⟨by kernel_rfl, ?_⟩; conv => whnf)
    exact ⟨_, rfl, rfl⟩
  by_cases s2 : 40 < g.queue.length
  · rw [if_pos (.inr s2)]
    refine fn_of_vwp Γok Try.func20 (by kernel_rfl) rfl (by simp [Try.ntmps20]) (wpv_ok Γok (by kernel_rfl) _ _ _ ?_); conv => whnf
    rw [decide_eq_false (show ¬ ((g.past.length : Nat) : Int) > 40 by omega)]
    conv => whnf
    try (refine ⟨by kernel_rfl, ?_⟩; conv => whnf)
    rw [decide_eq_true (show ((g.queue.length : Nat) : Int) > 40 by omega)]
    conv => whnf
    try (refine ⟨by kernel_rfl, ?_⟩; conv => whnf)
    exact ⟨_, rfl, rfl⟩
  rw [if_neg (by omega)]
  refine fn_of_vwp Γok Try.func20 (by kernel_rfl) rfl (by simp [Try.ntmps20]) (wpv_ok Γok (by kernel_rfl) _ _ _ ?_); conv => whnf
  rw [decide_eq_false (show ¬ ((g.past.length : Nat) : Int) > 40 by omega)]
  conv => whnf
  try (refine ⟨by kernel_rfl, ?_⟩; conv => whnf)
  rw [decide_eq_false (show ¬ ((g.queue.length : Nat) : Int) > 40 by omega)]
  conv => whnf
  try (refine ⟨by kernel_rfl, ?_⟩; conv => whnf)
  have e0 : ∀ (h0 : g.now ≥ 0), bI (decide (g.now ≤ 1099511627776)) = bI (limTo g 0) := fun h0 => by unfold limTo; rw [decide_eq_true h0]; rfl
  have e1 : ¬ g.now ≥ 0 → bI false = bI (limTo g 0) := fun h0 => by unfold limTo; rw [decide_eq_false h0]; rfl
  refine join_loop (P := Try.prog) (G := G0) (x := ?x1) (Q := ?Q1) (K := 0) (fun _ : Unit => (⟨[(28, nI .i64 ((0 : Nat) : Int)), (3, bI (limTo g 0)), (2, nI .i64 0), (1, .ptr 0 0)], Try.f20.ntmps, [(0, some [nI .i64 g.l0, nI .i64 g.l1, nI .i64 g.l2, nI .i64 g.b0, nI .i64 g.b1, nI .i64 g.b2, nI .i64 g.now, .ds fp g.past.length (rows QD.cells g.past), .ds fq g.queue.length (rows QD.cells g.queue)])], 1⟩ : VS)) (fun key => ?rest1) ?key1
  case rest1 =>
    by_cases h0 : g.now ≥ 0
    · rw [decide_eq_true h0]
      conv => whnf
      try (refine ⟨by kernel_rfl, ?_⟩; conv => whnf)
      refine meet (key ()) G0ok [(0, some 0)] rfl ?_ ?_ (by rfl)
      · exact ⟨⟨_, rfl, conv_nI (rfl)⟩, ⟨_, rfl, conv_eq (e0 h0) rfl⟩, ⟨_, rfl, .same rfl⟩, ⟨_, rfl, .ptr rfl⟩, trivial⟩
      · exact ⟨.inr ⟨_, _, rfl, rfl, .same (nG)⟩, trivial⟩
    · rw [decide_eq_false h0]
      conv => whnf
      try (refine ⟨by kernel_rfl, ?_⟩; conv => whnf)
      refine meet (key ()) G0ok [(0, some 0)] rfl ?_ ?_ (by rfl)
      · exact ⟨⟨_, rfl, conv_nI (rfl)⟩, ⟨_, rfl, conv_eq (e1 h0) rfl⟩, ⟨_, rfl, .same rfl⟩, ⟨_, rfl, .ptr rfl⟩, trivial⟩
      · exact ⟨.inr ⟨_, _, rfl, rfl, .same (nG)⟩, trivial⟩
  case key1 =>
    intro _
    refine vloop_invK G0ok [(0, some 0)] 1 (X := Nat) (fun i => [(28, nI .i64 i), (3, bI (limTo g i)), (2, nI .i64 0), (1, .ptr 0 0)]) (fun _ => [(0, some [nI .i64 g.l0, nI .i64 g.l1, nI .i64 g.l2, nI .i64 g.b0, nI .i64 g.b1, nI .i64 g.b2, nI .i64 g.now, .ds fp g.past.length (rows QD.cells g.past), .ds fq g.queue.length (rows QD.cells g.queue)])]) (fun i => i ≤ 3) (fun i => 3 - i) 0 rfl ⟨⟨_, rfl, conv_nI (rfl)⟩, ⟨_, rfl, .same rfl⟩, ⟨_, rfl, .same rfl⟩, ⟨_, rfl, .ptr rfl⟩, trivial⟩ ⟨.inr ⟨_, _, rfl, rfl, .same (nG)⟩, trivial⟩ (Nat.zero_le _) ?_
    intro i hi
    try dsimp only at hi ⊢
    refine wpv_ok Γok (by kernel_rfl) _ _ _ ?_; conv => whnf
    refine bool_cases (fun hc => ?_) (fun hc => ?_)
    · have hc := of_decide_eq_true hc
      have hc : i = 0 ∨ i = 1 ∨ i = 2 := by omega
      rcases hc with rfl | rfl | rfl
      · have st : limTo g 1 = (limTo g 0 && (valB g.l0 && valB g.b0)) := rfl
        cases hk : limTo g 0 with
        | false =>
          rw [hk, Bool.false_and] at st
          conv => whnf
          try (refine ⟨by kernel_rfl, ?_⟩; conv => whnf)
          refine next_round (y := 0) G0ok 1 [(0, some 0)] rfl ⟨⟨_, rfl, conv_nI (ws_i64 (by decide) (by decide))⟩, ⟨_, rfl, conv_eq (congrArg bI st.symm) rfl⟩, ⟨_, rfl, .same rfl⟩, ⟨_, rfl, .ptr rfl⟩, trivial⟩ ⟨.inr ⟨_, _, rfl, rfl, .same (nG)⟩, trivial⟩ (by decide) (by decide)
        | true =>
          rw [hk, Bool.true_and] at st
          conv => whnf
          try (refine ⟨by kernel_rfl, ?_⟩; conv => whnf)
          refine ⟨_, ret_of_fn G0ok (gvalue_fn g.l0) (by first | rfl | simp only [noHs, noH, nI, bI, Bool.and_self, Bool.and_true, Bool.true_and, ]) (by first | rfl | simp only [noHs, noH, nI, bI, Bool.and_self, Bool.and_true, Bool.true_and, ]), ?_⟩; (conv => whnf); (try (refine ⟨by kernel_rfl, ?_⟩; conv => whnf))
          cases hv : valB g.l0 with
          | false =>
            rw [hv, Bool.false_and] at st
            conv => whnf
            try (refine ⟨by kernel_rfl, ?_⟩; conv => whnf)
            refine next_round (y := 0) G0ok 1 [(0, some 0)] rfl ⟨⟨_, rfl, conv_nI (ws_i64 (by decide) (by decide))⟩, ⟨_, rfl, conv_eq (congrArg bI st.symm) rfl⟩, ⟨_, rfl, .same rfl⟩, ⟨_, rfl, .ptr rfl⟩, trivial⟩ ⟨.inr ⟨_, _, rfl, rfl, .same (nG)⟩, trivial⟩ (by decide) (by decide)
          | true =>
            rw [hv, Bool.true_and] at st
            conv => whnf
            try (refine ⟨by kernel_rfl, ?_⟩; conv => whnf)
            refine ⟨_, ret_of_fn G0ok (gvalue_fn g.b0) (by first | rfl | simp only [noHs, noH, nI, bI, Bool.and_self, Bool.and_true, Bool.true_and, ]) (by first | rfl | simp only [noHs, noH, nI, bI, Bool.and_self, Bool.and_true, Bool.true_and, ]), ?_⟩; (conv => whnf); (try (refine ⟨by kernel_rfl, ?_⟩; conv => whnf))
            refine next_round (y := 0) G0ok 1 [(0, some 0)] rfl ⟨⟨_, rfl, conv_nI (ws_i64 (by decide) (by decide))⟩, ⟨_, rfl, conv_eq (congrArg bI st.symm) rfl⟩, ⟨_, rfl, .same rfl⟩, ⟨_, rfl, .ptr rfl⟩, trivial⟩ ⟨.inr ⟨_, _, rfl, rfl, .same (nG)⟩, trivial⟩ (by decide) (by decide)
      · have st : limTo g 2 = (limTo g 1 && (valB g.l1 && valB g.b1)) := rfl
        cases hk : limTo g 1 with
        | false =>
          rw [hk, Bool.false_and] at st
          conv => whnf
          try (refine ⟨by kernel_rfl, ?_⟩; conv => whnf)
          refine next_round (y := 1) G0ok 2 [(0, some 0)] rfl ⟨⟨_, rfl, conv_nI (ws_i64 (by decide) (by decide))⟩, ⟨_, rfl, conv_eq (congrArg bI st.symm) rfl⟩, ⟨_, rfl, .same rfl⟩, ⟨_, rfl, .ptr rfl⟩, trivial⟩ ⟨.inr ⟨_, _, rfl, rfl, .same (nG)⟩, trivial⟩ (by decide) (by decide)
        | true =>
          rw [hk, Bool.true_and] at st
          conv => whnf
          try (refine ⟨by kernel_rfl, ?_⟩; conv => whnf)
          refine ⟨_, ret_of_fn G0ok (gvalue_fn g.l1) (by first | rfl | simp only [noHs, noH, nI, bI, Bool.and_self, Bool.and_true, Bool.true_and, ]) (by first | rfl | simp only [noHs, noH, nI, bI, Bool.and_self, Bool.and_true, Bool.true_and, ]), ?_⟩; (conv => whnf); (try (refine ⟨by kernel_rfl, ?_⟩; conv => whnf))
          cases hv : valB g.l1 with
          | false =>
            rw [hv, Bool.false_and] at st
            conv => whnf
            try (refine ⟨by kernel_rfl, ?_⟩; conv => whnf)
            refine next_round (y := 1) G0ok 2 [(0, some 0)] rfl ⟨⟨_, rfl, conv_nI (ws_i64 (by decide) (by decide))⟩, ⟨_, rfl, conv_eq (congrArg bI st.symm) rfl⟩, ⟨_, rfl, .same rfl⟩, ⟨_, rfl, .ptr rfl⟩, trivial⟩ ⟨.inr ⟨_, _, rfl, rfl, .same (nG)⟩, trivial⟩ (by decide) (by decide)
          | true =>
            rw [hv, Bool.true_and] at st
            conv => whnf
            try (refine ⟨by kernel_rfl, ?_⟩; conv => whnf)
            refine ⟨_, ret_of_fn G0ok (gvalue_fn g.b1) (by first | rfl | simp only [noHs, noH, nI, bI, Bool.and_self, Bool.and_true, Bool.true_and, ]) (by first | rfl | simp only [noHs, noH, nI, bI, Bool.and_self, Bool.and_true, Bool.true_and, ]), ?_⟩; (conv => whnf); (try (refine ⟨by kernel_rfl, ?_⟩; conv => whnf))
            refine next_round (y := 1) G0ok 2 [(0, some 0)] rfl ⟨⟨_, rfl, conv_nI (ws_i64 (by decide) (by decide))⟩, ⟨_, rfl, conv_eq (congrArg bI st.symm) rfl⟩, ⟨_, rfl, .same rfl⟩, ⟨_, rfl, .ptr rfl⟩, trivial⟩ ⟨.inr ⟨_, _, rfl, rfl, .same (nG)⟩, trivial⟩ (by decide) (by decide)
      · have st : limTo g 3 = (limTo g 2 && (valB g.l2 && valB g.b2)) := rfl
        cases hk : limTo g 2 with
        | false =>
          rw [hk, Bool.false_and] at st
          conv => whnf
          try (refine ⟨by kernel_rfl, ?_⟩; conv => whnf)
          refine next_round (y := 2) G0ok 3 [(0, some 0)] rfl ⟨⟨_, rfl, conv_nI (ws_i64 (by decide) (by decide))⟩, ⟨_, rfl, conv_eq (congrArg bI st.symm) rfl⟩, ⟨_, rfl, .same rfl⟩, ⟨_, rfl, .ptr rfl⟩, trivial⟩ ⟨.inr ⟨_, _, rfl, rfl, .same (nG)⟩, trivial⟩ (by decide) (by decide)
        | true =>
          rw [hk, Bool.true_and] at st
          conv => whnf
          try (refine ⟨by kernel_rfl, ?_⟩; conv => whnf)
          refine ⟨_, ret_of_fn G0ok (gvalue_fn g.l2) (by first | rfl | simp only [noHs, noH, nI, bI, Bool.and_self, Bool.and_true, Bool.true_and, ]) (by first | rfl | simp only [noHs, noH, nI, bI, Bool.and_self, Bool.and_true, Bool.true_and, ]), ?_⟩; (conv => whnf); (try (refine ⟨by kernel_rfl, ?_⟩; conv => whnf))
          cases hv : valB g.l2 with
          | false =>
            rw [hv, Bool.false_and] at st
            conv => whnf
            try (refine ⟨by kernel_rfl, ?_⟩; conv => whnf)
            refine next_round (y := 2) G0ok 3 [(0, some 0)] rfl ⟨⟨_, rfl, conv_nI (ws_i64 (by decide) (by decide))⟩, ⟨_, rfl, conv_eq (congrArg bI st.symm) rfl⟩, ⟨_, rfl, .same rfl⟩, ⟨_, rfl, .ptr rfl⟩, trivial⟩ ⟨.inr ⟨_, _, rfl, rfl, .same (nG)⟩, trivial⟩ (by decide) (by decide)
          | true =>
            rw [hv, Bool.true_and] at st
            conv => whnf
            try (refine ⟨by kernel_rfl, ?_⟩; conv => whnf)
            refine ⟨_, ret_of_fn G0ok (gvalue_fn g.b2) (by first | rfl | simp only [noHs, noH, nI, bI, Bool.and_self, Bool.and_true, Bool.true_and, ]) (by first | rfl | simp only [noHs, noH, nI, bI, Bool.and_self, Bool.and_true, Bool.true_and, ]), ?_⟩; (conv => whnf); (try (refine ⟨by kernel_rfl, ?_⟩; conv => whnf))
            refine next_round (y := 2) G0ok 3 [(0, some 0)] rfl ⟨⟨_, rfl, conv_nI (ws_i64 (by decide) (by decide))⟩, ⟨_, rfl, conv_eq (congrArg bI st.symm) rfl⟩, ⟨_, rfl, .same rfl⟩, ⟨_, rfl, .ptr rfl⟩, trivial⟩ ⟨.inr ⟨_, _, rfl, rfl, .same (nG)⟩, trivial⟩ (by decide) (by decide)
    · have hc := of_decide_eq_false hc
      have hc : i = 3 := by omega
      subst hc
      conv => whnf
      try (refine ⟨by kernel_rfl, ?_⟩; conv => whnf)
      refine .ownAs 0 [] rfl rfl ?_
      conv => whnf
      try (refine ⟨by kernel_rfl, ?_⟩; conv => whnf)
      have lP : (rows QD.cells g.past).length = g.past.length * 4 := rows_length (w := 4) fun a _ => rfl
      have lQ : (rows QD.cells g.queue).length = g.queue.length * 4 := rows_length (w := 4) fun a _ => rfl
      refine onlyIf_intro (by show (_ && (_ && Nat.beq (rows QD.cells g.past).length (g.past.length * 4))) = true; rw [lP]; simp) ?_
      conv => whnf
      try (refine ⟨by kernel_rfl, ?_⟩; conv => whnf)
      refine onlyIf_intro (by simp [maxLen]; omega) ?_
      refine .ownAs g.past.length (rows QD.cells g.past) (Nat.zero_add _) rfl ?_
      conv => whnf
      try (refine ⟨by kernel_rfl, ?_⟩; conv => whnf)
      refine onlyIf_intro (by show (_ && (_ && Nat.beq (rows QD.cells g.queue).length (g.queue.length * 4))) = true; rw [lQ]; simp) ?_
      conv => whnf
      try (refine ⟨by kernel_rfl, ?_⟩; conv => whnf)
      refine onlyIf_intro (by show (Nat.beq (rows QD.cells g.past).length (g.past.length * 4) && _) = true; rw [lP]; simp [maxLen]; omega) ?_
      refine .read (g.past ++ g.queue).length (rows QD.cells (g.past ++ g.queue)) List.length_append.symm (rows_app _ _).symm (by rw [rows_length (w := 4) fun a _ => rfl]) (rowsQ_noHs _) ?_
      conv => whnf
      try (refine ⟨by kernel_rfl, ?_⟩; conv => whnf)
      have lL : (g.past ++ g.queue).length ≤ 80 := by rw [List.length_append]; omega
      refine gen_ex (g.past ++ g.queue) fun L eL => ?_
      rw [← eL] at lL ⊢
      clear eL
      have nL := rowsQ_noHs L
      refine vloop_invK G0ok [(0, some 0)] 1 (X := Nat) (fun i => [(56, nI .i64 i), (55, nI .i64 L.length), (54, .ds false L.length (rows QD.cells L)), (5, .ds false L.length (rows QD.cells L)), (3, bI (rowsOk g L i)), (2, nI .i64 0), (1, .ptr 0 0)]) (fun _ => [(0, some [nI .i64 g.l0, nI .i64 g.l1, nI .i64 g.l2, nI .i64 g.b0, nI .i64 g.b1, nI .i64 g.b2, nI .i64 g.now, .ds fp g.past.length (rows QD.cells g.past), .ds fq g.queue.length (rows QD.cells g.queue)])])
        (fun i => i ≤ L.length) (fun i => L.length - i) 0 rfl ⟨⟨_, rfl, conv_nI (rfl)⟩, ⟨_, rfl, conv_nI (rfl)⟩, ⟨_, rfl, conv_eq rfl (nL)⟩, ⟨_, rfl, conv_eq rfl (nL)⟩, ⟨_, rfl, .same rfl⟩, ⟨_, rfl, .same rfl⟩, ⟨_, rfl, .ptr rfl⟩, trivial⟩ ⟨.inr ⟨_, _, rfl, rfl, .same (nG)⟩, trivial⟩ (Nat.zero_le _) ?_
      intro i hi
      try dsimp only at hi ⊢
      refine wpv_ok Γok (by kernel_rfl) _ _ _ ?_; conv => whnf
      refine bool_cases (fun hc => ?_) (fun hc => ?_)
      · have hc := of_decide_eq_true hc
        have hc : i < L.length := by omega
        have gd : L.getD i qz = L[i] := by rw [List.getD_eq_getElem?_getD, List.getElem?_eq_getElem hc]; rfl
        have st : rowsOk g L (i + 1) = ((rowsOk g L i && qOk g.now (L.getD i qz)) && difTo L (L.getD i qz) i) := rfl
        rw [gd] at st
        conv => whnf
        try (refine ⟨by kernel_rfl, ?_⟩; conv => whnf)
        refine bindP_intro (if_pos (inB_ok (by omega) (by omega))) ?_; conv => whnf
        refine bindP_intro (row_load (i := i) (w := 4) rfl rfl rfl (fun a _ => qd_len a) (by dsimp only; omega) hc) ?_
        refine gen_ex L[i] fun q eq => ?_
        rw [← eq] at st ⊢
        clear eq gd
        have qc : q.cells = [nI .i64 q.id, nI .i64 q.v, nI .i64 q.ch, nI .i64 q.t] := rfl
        have lt : (L.take i).length = i := by rw [List.length_take, Nat.min_eq_left hi]
        have nT := rowsQ_noHs (L.take i)
        refine join_loop (P := Try.prog) (G := G0) (x := ?x2) (Q := ?Q2) (K := 0) (fun _ : Unit => (⟨[(93, nI .i64 ((0 : Nat) : Int)), (92, nI .i64 i), (91, .ds false i (rows QD.cells (L.take i))), (3, bI (rowsOk g L i && qOk g.now q)), (6, nI .i64 i), (7, .ptr 1 0), (56, nI .i64 i), (55, nI .i64 L.length), (54, .ds false L.length (rows QD.cells L)), (5, .ds false L.length (rows QD.cells L)), (2, nI .i64 0), (1, .ptr 0 0)], Try.f20.ntmps, [(0, some [nI .i64 g.l0, nI .i64 g.l1, nI .i64 g.l2, nI .i64 g.b0, nI .i64 g.b1, nI .i64 g.b2, nI .i64 g.now, .ds fp g.past.length (rows QD.cells g.past), .ds fq g.queue.length (rows QD.cells g.queue)]), (1, some q.cells)], 2⟩ : VS)) (fun key => ?rest2) ?key2
        case rest2 =>
          rw [qc]
          cases h0 : rowsOk g L i with
          | false =>
            conv => whnf
            try (refine ⟨by kernel_rfl, ?_⟩; conv => whnf)
            refine bindP_intro (vpure_slice (vslice_rows (f := QD.cells) (w := 4) (bs := L) (l := 0) (h := i) rfl rfl (fun a _ => rfl) rfl (by rfl) vb_nat (Nat.zero_le _) hi)) ?_
            rw [show (L.drop 0).take (i - 0) = L.take i from rfl, lt]
            conv => whnf
            try (refine ⟨by kernel_rfl, ?_⟩; conv => whnf)
            refine meet (key ()) G0ok [(0, some 0), (1, some 1)] rfl ?_ ?_ (by rfl)
            · exact ⟨⟨_, rfl, conv_nI (rfl)⟩, ⟨_, rfl, conv_nI (rfl)⟩, ⟨_, rfl, conv_eq rfl (nT)⟩, ⟨_, rfl, conv_eq (congrArg bI (by simp [qOk, h0])) rfl⟩, ⟨_, rfl, conv_nI (rfl)⟩, ⟨_, rfl, .ptr rfl⟩, ⟨_, rfl, conv_nI (rfl)⟩, ⟨_, rfl, conv_nI (rfl)⟩, ⟨_, rfl, conv_eq rfl (nL)⟩, ⟨_, rfl, conv_eq rfl (nL)⟩, ⟨_, rfl, .same rfl⟩, ⟨_, rfl, .ptr rfl⟩, trivial⟩
            · exact ⟨.inr ⟨_, _, rfl, rfl, .same (nG)⟩, .inr ⟨_, _, rfl, rfl, .same rfl⟩, trivial⟩
          | true =>
            conv => whnf
            try (refine ⟨by kernel_rfl, ?_⟩; conv => whnf)
            refine ⟨_, ret_of_fn G0ok (gvalue_fn q.v) (by first | rfl | simp only [noHs, noH, nI, bI, Bool.and_self, Bool.and_true, Bool.true_and, ]) (by first | rfl | simp only [noHs, noH, nI, bI, Bool.and_self, Bool.and_true, Bool.true_and, ]), ?_⟩; (conv => whnf); (try (refine ⟨by kernel_rfl, ?_⟩; conv => whnf))
            cases hv : valB q.v with
            | false =>
              conv => whnf
              try (refine ⟨by kernel_rfl, ?_⟩; conv => whnf)
              refine bindP_intro (vpure_slice (vslice_rows (f := QD.cells) (w := 4) (bs := L) (l := 0) (h := i) rfl rfl (fun a _ => rfl) rfl (by rfl) vb_nat (Nat.zero_le _) hi)) ?_
              rw [show (L.drop 0).take (i - 0) = L.take i from rfl, lt]
              conv => whnf
              try (refine ⟨by kernel_rfl, ?_⟩; conv => whnf)
              refine meet (key ()) G0ok [(0, some 0), (1, some 1)] rfl ?_ ?_ (by rfl)
              · exact ⟨⟨_, rfl, conv_nI (rfl)⟩, ⟨_, rfl, conv_nI (rfl)⟩, ⟨_, rfl, conv_eq rfl (nT)⟩, ⟨_, rfl, conv_eq (congrArg bI (by simp [qOk, h0, hv])) rfl⟩, ⟨_, rfl, conv_nI (rfl)⟩, ⟨_, rfl, .ptr rfl⟩, ⟨_, rfl, conv_nI (rfl)⟩, ⟨_, rfl, conv_nI (rfl)⟩, ⟨_, rfl, conv_eq rfl (nL)⟩, ⟨_, rfl, conv_eq rfl (nL)⟩, ⟨_, rfl, .same rfl⟩, ⟨_, rfl, .ptr rfl⟩, trivial⟩
              · exact ⟨.inr ⟨_, _, rfl, rfl, .same (nG)⟩, .inr ⟨_, _, rfl, rfl, .same rfl⟩, trivial⟩
            | true =>
              conv => whnf
              try (refine ⟨by kernel_rfl, ?_⟩; conv => whnf)
              by_cases h1 : q.ch ≥ 0
              · rw [decide_eq_true h1]
                conv => whnf
                try (refine ⟨by kernel_rfl, ?_⟩; conv => whnf)
                by_cases h2 : q.ch < 3
                · rw [decide_eq_true h2]
                  conv => whnf
                  try (refine ⟨by kernel_rfl, ?_⟩; conv => whnf)
                  by_cases h3 : q.t ≥ 0
                  · rw [decide_eq_true h3]
                    conv => whnf
                    try (refine ⟨by kernel_rfl, ?_⟩; conv => whnf)
                    refine bindP_intro (vpure_slice (vslice_rows (f := QD.cells) (w := 4) (bs := L) (l := 0) (h := i) rfl rfl (fun a _ => rfl) rfl (by rfl) vb_nat (Nat.zero_le _) hi)) ?_
                    rw [show (L.drop 0).take (i - 0) = L.take i from rfl, lt]
                    conv => whnf
                    try (refine ⟨by kernel_rfl, ?_⟩; conv => whnf)
                    refine meet (key ()) G0ok [(0, some 0), (1, some 1)] rfl ?_ ?_ (by rfl)
                    · exact ⟨⟨_, rfl, conv_nI (rfl)⟩, ⟨_, rfl, conv_nI (rfl)⟩, ⟨_, rfl, conv_eq rfl (nT)⟩, ⟨_, rfl, conv_eq (congrArg bI (by simp [qOk, h0, hv, h1, h2, h3])) rfl⟩, ⟨_, rfl, conv_nI (rfl)⟩, ⟨_, rfl, .ptr rfl⟩, ⟨_, rfl, conv_nI (rfl)⟩, ⟨_, rfl, conv_nI (rfl)⟩, ⟨_, rfl, conv_eq rfl (nL)⟩, ⟨_, rfl, conv_eq rfl (nL)⟩, ⟨_, rfl, .same rfl⟩, ⟨_, rfl, .ptr rfl⟩, trivial⟩
                    · exact ⟨.inr ⟨_, _, rfl, rfl, .same (nG)⟩, .inr ⟨_, _, rfl, rfl, .same rfl⟩, trivial⟩
                  · rw [decide_eq_false h3]
                    conv => whnf
                    try (refine ⟨by kernel_rfl, ?_⟩; conv => whnf)
                    refine bindP_intro (vpure_slice (vslice_rows (f := QD.cells) (w := 4) (bs := L) (l := 0) (h := i) rfl rfl (fun a _ => rfl) rfl (by rfl) vb_nat (Nat.zero_le _) hi)) ?_
                    rw [show (L.drop 0).take (i - 0) = L.take i from rfl, lt]
                    conv => whnf
                    try (refine ⟨by kernel_rfl, ?_⟩; conv => whnf)
                    refine meet (key ()) G0ok [(0, some 0), (1, some 1)] rfl ?_ ?_ (by rfl)
                    · exact ⟨⟨_, rfl, conv_nI (rfl)⟩, ⟨_, rfl, conv_nI (rfl)⟩, ⟨_, rfl, conv_eq rfl (nT)⟩, ⟨_, rfl, conv_eq (congrArg bI (by simp [qOk, h0, hv, h1, h2, h3])) rfl⟩, ⟨_, rfl, conv_nI (rfl)⟩, ⟨_, rfl, .ptr rfl⟩, ⟨_, rfl, conv_nI (rfl)⟩, ⟨_, rfl, conv_nI (rfl)⟩, ⟨_, rfl, conv_eq rfl (nL)⟩, ⟨_, rfl, conv_eq rfl (nL)⟩, ⟨_, rfl, .same rfl⟩, ⟨_, rfl, .ptr rfl⟩, trivial⟩
                    · exact ⟨.inr ⟨_, _, rfl, rfl, .same (nG)⟩, .inr ⟨_, _, rfl, rfl, .same rfl⟩, trivial⟩
                · rw [decide_eq_false h2]
                  conv => whnf
                  try (refine ⟨by kernel_rfl, ?_⟩; conv => whnf)
                  refine bindP_intro (vpure_slice (vslice_rows (f := QD.cells) (w := 4) (bs := L) (l := 0) (h := i) rfl rfl (fun a _ => rfl) rfl (by rfl) vb_nat (Nat.zero_le _) hi)) ?_
                  rw [show (L.drop 0).take (i - 0) = L.take i from rfl, lt]
                  conv => whnf
                  try (refine ⟨by kernel_rfl, ?_⟩; conv => whnf)
                  refine meet (key ()) G0ok [(0, some 0), (1, some 1)] rfl ?_ ?_ (by rfl)
                  · exact ⟨⟨_, rfl, conv_nI (rfl)⟩, ⟨_, rfl, conv_nI (rfl)⟩, ⟨_, rfl, conv_eq rfl (nT)⟩, ⟨_, rfl, conv_eq (congrArg bI (by simp [qOk, h0, hv, h1, h2])) rfl⟩, ⟨_, rfl, conv_nI (rfl)⟩, ⟨_, rfl, .ptr rfl⟩, ⟨_, rfl, conv_nI (rfl)⟩, ⟨_, rfl, conv_nI (rfl)⟩, ⟨_, rfl, conv_eq rfl (nL)⟩, ⟨_, rfl, conv_eq rfl (nL)⟩, ⟨_, rfl, .same rfl⟩, ⟨_, rfl, .ptr rfl⟩, trivial⟩
                  · exact ⟨.inr ⟨_, _, rfl, rfl, .same (nG)⟩, .inr ⟨_, _, rfl, rfl, .same rfl⟩, trivial⟩
              · rw [decide_eq_false h1]
                conv => whnf
                try (refine ⟨by kernel_rfl, ?_⟩; conv => whnf)
                refine bindP_intro (vpure_slice (vslice_rows (f := QD.cells) (w := 4) (bs := L) (l := 0) (h := i) rfl rfl (fun a _ => rfl) rfl (by rfl) vb_nat (Nat.zero_le _) hi)) ?_
                rw [show (L.drop 0).take (i - 0) = L.take i from rfl, lt]
                conv => whnf
                try (refine ⟨by kernel_rfl, ?_⟩; conv => whnf)
                refine meet (key ()) G0ok [(0, some 0), (1, some 1)] rfl ?_ ?_ (by rfl)
                · exact ⟨⟨_, rfl, conv_nI (rfl)⟩, ⟨_, rfl, conv_nI (rfl)⟩, ⟨_, rfl, conv_eq rfl (nT)⟩, ⟨_, rfl, conv_eq (congrArg bI (by simp [qOk, h0, hv, h1])) rfl⟩, ⟨_, rfl, conv_nI (rfl)⟩, ⟨_, rfl, .ptr rfl⟩, ⟨_, rfl, conv_nI (rfl)⟩, ⟨_, rfl, conv_nI (rfl)⟩, ⟨_, rfl, conv_eq rfl (nL)⟩, ⟨_, rfl, conv_eq rfl (nL)⟩, ⟨_, rfl, .same rfl⟩, ⟨_, rfl, .ptr rfl⟩, trivial⟩
                · exact ⟨.inr ⟨_, _, rfl, rfl, .same (nG)⟩, .inr ⟨_, _, rfl, rfl, .same rfl⟩, trivial⟩
        case key2 =>
          intro _
          refine gen_ex (rowsOk g L i && qOk g.now q) fun okq eok => ?_
          rw [← eok] at st ⊢
          clear eok
          have gj : ∀ j, j < i → (L.take i).getD j qz = L.getD j qz := fun j hj => by rw [List.getD_eq_getElem?_getD, List.getD_eq_getElem?_getD, List.getElem?_take_of_lt hj]
          rw [qc]
          refine vloop_invK G0ok [(0, some 0), (1, some 1)] 2 (X := Nat) (fun j => [(93, nI .i64 j), (92, nI .i64 i), (91, .ds false i (rows QD.cells (L.take i))), (3, bI (okq && difTo L q j)), (6, nI .i64 i), (7, .ptr 1 0), (56, nI .i64 i), (55, nI .i64 L.length), (54, .ds false L.length (rows QD.cells L)), (5, .ds false L.length (rows QD.cells L)), (2, nI .i64 0), (1, .ptr 0 0)]) (fun _ => [(0, some [nI .i64 g.l0, nI .i64 g.l1, nI .i64 g.l2, nI .i64 g.b0, nI .i64 g.b1, nI .i64 g.b2, nI .i64 g.now, .ds fp g.past.length (rows QD.cells g.past), .ds fq g.queue.length (rows QD.cells g.queue)]), (1, some [nI .i64 q.id, nI .i64 q.v, nI .i64 q.ch, nI .i64 q.t])])
            (fun j => j ≤ i) (fun j => i - j) 0 rfl ⟨⟨_, rfl, conv_nI (rfl)⟩, ⟨_, rfl, conv_nI (rfl)⟩, ⟨_, rfl, conv_eq rfl (nT)⟩, ⟨_, rfl, conv_eq (congrArg bI (Bool.and_true _).symm) rfl⟩, ⟨_, rfl, conv_nI (rfl)⟩, ⟨_, rfl, .ptr rfl⟩, ⟨_, rfl, conv_nI (rfl)⟩, ⟨_, rfl, conv_nI (rfl)⟩, ⟨_, rfl, conv_eq rfl (nL)⟩, ⟨_, rfl, conv_eq rfl (nL)⟩, ⟨_, rfl, .same rfl⟩, ⟨_, rfl, .ptr rfl⟩, trivial⟩ ⟨.inr ⟨_, _, rfl, rfl, .same (nG)⟩, .inr ⟨_, _, rfl, rfl, .same rfl⟩, trivial⟩ (Nat.zero_le _) ?_
          intro j hj
          try dsimp only at hj ⊢
          refine wpv_ok Γok (by kernel_rfl) _ _ _ ?_; conv => whnf
          refine bool_cases (fun hd => ?_) (fun hd => ?_)
          · have hd := of_decide_eq_true hd
            have hd : j < i := by omega
            have sj : difTo L q (j + 1) = (difTo L q j && decide (q.id ≠ (L.getD j qz).id)) := rfl
            have gd : L.getD j qz = (L.take i)[j]'(by omega) := by rw [← gj j hd, List.getD_eq_getElem?_getD, List.getElem?_eq_getElem (by omega)]; rfl
            rw [gd] at sj
            conv => whnf
            try (refine ⟨by kernel_rfl, ?_⟩; conv => whnf)
            refine bindP_intro (if_pos (inB_ok (by omega) (by omega))) ?_; conv => whnf
            refine bindP_intro (row_load (i := j) (w := 4) rfl rfl rfl (fun a _ => qd_len a) (by dsimp only; omega) (by omega)) ?_
            refine gen_ex ((L.take i)[j]'(by omega)) fun y ey => ?_
            rw [← ey] at sj ⊢
            clear ey gd
            have yc : y.cells = [nI .i64 y.id, nI .i64 y.v, nI .i64 y.ch, nI .i64 y.t] := rfl
            rw [yc]
            conv => whnf
            try (refine ⟨by kernel_rfl, ?_⟩; conv => whnf)
            cases hk : (okq && difTo L q j) with
            | false =>
              conv => whnf
              try (refine ⟨by kernel_rfl, ?_⟩; conv => whnf)
              refine next_round (y := j) G0ok (j + 1) [(0, some 0), (1, some 1)] rfl ⟨⟨_, rfl, conv_nI (ws_i64 (by omega) (by omega))⟩, ⟨_, rfl, conv_nI (rfl)⟩, ⟨_, rfl, conv_eq rfl (nT)⟩, ⟨_, rfl, conv_eq (congrArg bI (by rw [sj, ← Bool.and_assoc, hk, Bool.false_and])) rfl⟩, ⟨_, rfl, conv_nI (rfl)⟩, ⟨_, rfl, .ptr rfl⟩, ⟨_, rfl, conv_nI (rfl)⟩, ⟨_, rfl, conv_nI (rfl)⟩, ⟨_, rfl, conv_eq rfl (nL)⟩, ⟨_, rfl, conv_eq rfl (nL)⟩, ⟨_, rfl, .same rfl⟩, ⟨_, rfl, .ptr rfl⟩, trivial⟩ ⟨.inr ⟨_, _, rfl, rfl, .same (nG)⟩, .inr ⟨_, _, rfl, rfl, .same rfl⟩, trivial⟩ (by omega) (by omega)
            | true =>
              conv => whnf
              try (refine ⟨by kernel_rfl, ?_⟩; conv => whnf)
              refine next_round (y := j) G0ok (j + 1) [(0, some 0), (1, some 1)] rfl ⟨⟨_, rfl, conv_nI (ws_i64 (by omega) (by omega))⟩, ⟨_, rfl, conv_nI (rfl)⟩, ⟨_, rfl, conv_eq rfl (nT)⟩, ⟨_, rfl, conv_eq (congrArg bI (by rw [sj, ← Bool.and_assoc, hk, Bool.true_and]; exact bne_dec _ _)) rfl⟩, ⟨_, rfl, conv_nI (rfl)⟩, ⟨_, rfl, .ptr rfl⟩, ⟨_, rfl, conv_nI (rfl)⟩, ⟨_, rfl, conv_nI (rfl)⟩, ⟨_, rfl, conv_eq rfl (nL)⟩, ⟨_, rfl, conv_eq rfl (nL)⟩, ⟨_, rfl, .same rfl⟩, ⟨_, rfl, .ptr rfl⟩, trivial⟩ ⟨.inr ⟨_, _, rfl, rfl, .same (nG)⟩, .inr ⟨_, _, rfl, rfl, .same rfl⟩, trivial⟩ (by omega) (by omega)
          · have hd := of_decide_eq_false hd
            have e : j = i := by omega
            subst e
            rw [← st]
            conv => whnf
            try (refine ⟨by kernel_rfl, ?_⟩; conv => whnf)
            refine next_round (y := j) G0ok (j + 1) [(0, some 0)] rfl ⟨⟨_, rfl, conv_nI (ws_i64 (by omega) (by omega))⟩, ⟨_, rfl, conv_nI (rfl)⟩, ⟨_, rfl, conv_eq rfl (nL)⟩, ⟨_, rfl, conv_eq rfl (nL)⟩, ⟨_, rfl, .same rfl⟩, ⟨_, rfl, .same rfl⟩, ⟨_, rfl, .ptr rfl⟩, trivial⟩ ⟨.inr ⟨_, _, rfl, rfl, .same (nG)⟩, trivial⟩ (by omega) (by omega)
      · have hc := of_decide_eq_false hc
        have e : i = L.length := by omega
        subst e
        conv => whnf
        try (refine ⟨by kernel_rfl, ?_⟩; conv => whnf)
        cases hk : rowsOk g L L.length with
        | false =>
          rw [if_neg (by decide)]
          conv => whnf
          try (refine ⟨by kernel_rfl, ?_⟩; conv => whnf)
          exact ⟨_, rfl, rfl⟩
        | true =>
          rw [if_pos rfl]
          conv => whnf
          try (refine ⟨by kernel_rfl, ?_⟩; conv => whnf)
          exact ⟨_, rfl, rfl⟩
/-- A gate's cells, with lists of its own. -/
def GtD.own (g : GtD) (hp hq : Nat) : List VV := [nI .i64 g.l0, nI .i64 g.l1, nI .i64 g.l2, nI .i64 g.b0, nI .i64 g.b1, nI .i64 g.b2, nI .i64 g.now, .sl hp 0 g.past.length 4, .sl hq 0 g.queue.length 4]
theorem gfresh_fnH {fp fq : Bool} {g : GtD} (h1 : g.past.length ≤ 100) (h2 : g.queue.length ≤ 100) : FnH Try.prog G0 41 [.agg (g.cells fp fq)] [] 0 (.agg (g.own 0 1)) [(0, some (rows QD.cells g.past)), (1, some (rows QD.cells g.queue))] 2 := by
  have nP := rowsQ_noHs g.past
  have nQ := rowsQ_noHs g.queue
  have nG := gtd_noHs fp fq g
  have lP : (rows QD.cells g.past).length = g.past.length * 4 := rows_length (w := 4) fun a _ => rfl
  have lQ : (rows QD.cells g.queue).length = g.queue.length * 4 := rows_length (w := 4) fun a _ => rfl
  unfold GtD.cells at *
  refine fnH_of_vwp Γok G0ok Try.func41 (by kernel_rfl) rfl (by simp [Try.ntmps41]) (wpv_ok Γok (by kernel_rfl) _ _ _ ?_); conv => whnf
  refine .ownAs 0 [] rfl rfl ?_
  conv => whnf
  try (refine ⟨by kernel_rfl, ?_⟩; conv => whnf)
  refine onlyIf_intro (by show (_ && (_ && Nat.beq (rows QD.cells g.past).length (g.past.length * 4))) = true; rw [lP]; simp) ?_
  conv => whnf
  try (refine ⟨by kernel_rfl, ?_⟩; conv => whnf)
  refine onlyIf_intro (by simp [maxLen]; omega) ?_
  refine .ownAs g.past.length (rows QD.cells g.past) (Nat.zero_add _) rfl ?_
  conv => whnf
  try (refine ⟨by kernel_rfl, ?_⟩; conv => whnf)
  refine .ownAs 0 [] rfl rfl ?_
  conv => whnf
  try (refine ⟨by kernel_rfl, ?_⟩; conv => whnf)
  refine onlyIf_intro (by show (_ && (_ && Nat.beq (rows QD.cells g.queue).length (g.queue.length * 4))) = true; rw [lQ]; simp) ?_
  conv => whnf
  try (refine ⟨by kernel_rfl, ?_⟩; conv => whnf)
  refine onlyIf_intro (by simp [maxLen]; omega) ?_
  refine .ownAs g.queue.length (rows QD.cells g.queue) (Nat.zero_add _) rfl ?_
  conv => whnf
  try (refine ⟨by kernel_rfl, ?_⟩; conv => whnf)

  exact ⟨_, rfl, [(0, some 3), (1, some 5)], rfl, rfl, .agg (.cons (.same rfl) (.cons (.same rfl) (.cons (.same rfl) (.cons (.same rfl) (.cons (.same rfl) (.cons (.same rfl) (.cons (.same rfl) (.cons (.sl rfl) (.cons (.sl rfl) .nil))))))))), ⟨.inr ⟨_, _, rfl, rfl, .same (nP)⟩, .inr ⟨_, _, rfl, rfl, .same (nQ)⟩, trivial⟩⟩
end Go.Proofs.Ytilmfdlonpjjiaa
namespace Go.Proofs.Ytilmfdlonpjjiaa
set_option linter.unusedVariables false
set_option linter.unusedSimpArgs false
set_option linter.unusedSectionVars false
open Go.ChangeShapes Go.WideShapes Go.ChangeAt Go.RowKit Go.Joins
set_option maxRecDepth 10000
theorem own_rn (g : GtD) (n : Nat) : rnVs (hmap [] 0 n) (g.own 0 1) = g.own n (n + 1) := rfl
theorem gfresh_ret {fp fq : Bool} {g : GtD} {n : Nat} {lkf : Nat → Option (List VV)} (h1 : g.past.length ≤ 100) (h2 : g.queue.length ≤ 100) :
    Ret Try.prog G0 41 [.agg (g.cells fp fq)] lkf n ⟨.agg (g.own n (n + 1)), [], [(n, some (rows QD.cells g.past)), (n + 1, some (rows QD.cells g.queue))], 2⟩ :=
  ret_fnH G0ok (gfresh_fnH h1 h2) [] rfl rfl rfl (lowVs_noHs (show noHs [VV.agg (g.cells fp fq)] = true from by simp only [noHs, noH, gtd_noHs, Bool.and_self])) rfl trivial ⟨⟨trivial, fun ds e => (Option.some.inj (show some (rows QD.cells g.past) = some ds from e)) ▸ lowVs_noHs (rowsQ_noHs _)⟩, fun ds e => (Option.some.inj (show some (rows QD.cells g.queue) = some ds from e)) ▸ lowVs_noHs (rowsQ_noHs _)⟩
    (rnVs_no _ _ (show noHs [VV.agg (g.cells fp fq)] = true from by simp only [noHs, noH, gtd_noHs, Bool.and_self])) rfl (by show [(n + 0, some (rnVs _ (rows QD.cells g.past))), (n + 1, some (rnVs _ (rows QD.cells g.queue)))] = _; rw [rnVs_no _ _ (rowsQ_noHs _), rnVs_no _ _ (rowsQ_noHs _)]; rfl)
/-- No gate. -/
def gtZ : GtD := ⟨0, 0, 0, 0, 0, 0, 0, [], []⟩
def gtErr (e : Nat) : VV := .tup [.agg (gtZ.cells true true), bI false, nI .i64 e]
theorem goff_bad {fp fq : Bool} {g : GtD} {id n ch : Int} (h : chkGt g ≠ 0) : FnV Try.prog G0 22 [.agg (g.cells fp fq), nI .i64 id, nI .i64 n, nI .i64 ch] (gtErr (chkGt g)) := by
  have ck := gcheck_fn (fp := fp) (fq := fq) (g := g)
  have nP := rowsQ_noHs g.past
  have nQ := rowsQ_noHs g.queue
  have nG := gtd_noHs fp fq g
  unfold GtD.cells at ck nG ⊢
  refine gen_ex (chkGt g) fun c ec => ?_
  rw [← ec] at ck h ⊢
  refine fn_of_vwp Γok Try.func22 (by kernel_rfl) rfl (by simp [Try.ntmps22]) (wpv_ok Γok (by kernel_rfl) _ _ _ ?_); conv => whnf
  refine ⟨_, ret_of_fn G0ok (ck) (by first | rfl | simp only [noHs, noH, nI, bI, Bool.and_self, Bool.and_true, Bool.true_and, nP, nQ]) (by first | rfl | simp only [noHs, noH, nI, bI, Bool.and_self, Bool.and_true, Bool.true_and, nP, nQ]), ?_⟩; (conv => whnf); (try (refine ⟨by kernel_rfl, ?_⟩; conv => whnf))
  rw [show (((c : Nat) : Int) != 0) = true from by rw [bne_iff_ne]; omega]
  conv => whnf
  try (refine ⟨by kernel_rfl, ?_⟩; conv => whnf)
  exact ⟨_, rfl, rfl⟩
theorem goff_range {fp fq : Bool} {g : GtD} {id n ch : Int} (h : chkGt g = 0) (hr : valB n = false ∨ ch < 0 ∨ 3 ≤ ch) : FnV Try.prog G0 22 [.agg (g.cells fp fq), nI .i64 id, nI .i64 n, nI .i64 ch] (gtErr 6) := by
  have ck := gcheck_fn (fp := fp) (fq := fq) (g := g)
  rw [h] at ck
  have nP := rowsQ_noHs g.past
  have nQ := rowsQ_noHs g.queue
  have nG := gtd_noHs fp fq g
  unfold GtD.cells at ck nG ⊢
  refine fn_of_vwp Γok Try.func22 (by kernel_rfl) rfl (by simp [Try.ntmps22]) (wpv_ok Γok (by kernel_rfl) _ _ _ ?_); conv => whnf
  refine ⟨_, ret_of_fn G0ok (ck) (by first | rfl | simp only [noHs, noH, nI, bI, Bool.and_self, Bool.and_true, Bool.true_and, nP, nQ]) (by first | rfl | simp only [noHs, noH, nI, bI, Bool.and_self, Bool.and_true, Bool.true_and, nP, nQ]), ?_⟩; (conv => whnf); (try (refine ⟨by kernel_rfl, ?_⟩; conv => whnf))
  refine ⟨_, ret_of_fn G0ok (gvalue_fn n) (by first | rfl | simp only [noHs, noH, nI, bI, Bool.and_self, Bool.and_true, Bool.true_and, ]) (by first | rfl | simp only [noHs, noH, nI, bI, Bool.and_self, Bool.and_true, Bool.true_and, ]), ?_⟩; (conv => whnf); (try (refine ⟨by kernel_rfl, ?_⟩; conv => whnf))
  cases hv : valB n with
  | false =>
    conv => whnf
    try (refine ⟨by kernel_rfl, ?_⟩; conv => whnf)
    exact ⟨_, rfl, rfl⟩
  | true =>
    rw [hv] at hr
    have hr : ch < 0 ∨ 3 ≤ ch := by rcases hr with h | h; exact absurd h (by decide); exact h
    conv => whnf
    try (refine ⟨by kernel_rfl, ?_⟩; conv => whnf)
    by_cases h1 : ch < 0
    · rw [decide_eq_true h1]
      conv => whnf
      try (refine ⟨by kernel_rfl, ?_⟩; conv => whnf)
      exact ⟨_, rfl, rfl⟩
    · rw [decide_eq_false h1]
      conv => whnf
      try (refine ⟨by kernel_rfl, ?_⟩; conv => whnf)
      rw [decide_eq_true (show ch ≥ 3 by omega)]
      conv => whnf
      try (refine ⟨by kernel_rfl, ?_⟩; conv => whnf)
      exact ⟨_, rfl, rfl⟩
theorem goff_ok {fp fq : Bool} {g : GtD} {id n ch : Int} {r : VV} (h : chkGt g = 0) (ok : GtOk g) (hn : valB n = true) (hc : 0 ≤ ch ∧ ch < 3)
    (h8 : (∃ q, (q ∈ g.past ∨ q ∈ g.queue) ∧ q.id = id) → r = gtErr 8)
    (h0 : (∀ q, (q ∈ g.past ∨ q ∈ g.queue) → q.id ≠ id) → fitsB g ⟨id, n, ch, g.now⟩ = true → r = .tup [.agg (GtD.cells false false { g with past := g.past ++ [⟨id, n, ch, g.now⟩] }), bI true, nI .i64 0])
    (h9 : (∀ q, (q ∈ g.past ∨ q ∈ g.queue) → q.id ≠ id) → fitsB g ⟨id, n, ch, g.now⟩ = false → g.queue.length = 40 → r = gtErr 9)
    (h1 : (∀ q, (q ∈ g.past ∨ q ∈ g.queue) → q.id ≠ id) → fitsB g ⟨id, n, ch, g.now⟩ = false → g.queue.length ≠ 40 → r = .tup [.agg (GtD.cells false false { g with queue := g.queue ++ [⟨id, n, ch, g.now⟩] }), bI false, nI .i64 0]) :
    FnV Try.prog G0 22 [.agg (g.cells fp fq), nI .i64 id, nI .i64 n, nI .i64 ch] r := by
  have ck := gcheck_fn (fp := fp) (fq := fq) (g := g)
  rw [h] at ck
  have nP := rowsQ_noHs g.past
  have nQ := rowsQ_noHs g.queue
  have nG := gtd_noHs fp fq g
  have nG2 : noHs [VV.agg (g.cells fp fq)] = true := by simp only [noHs, noH, nG, Bool.and_self]
  unfold GtD.cells at ck nG nG2 ⊢
  refine fn_of_vwp Γok Try.func22 (by kernel_rfl) rfl (by simp [Try.ntmps22]) (wpv_ok Γok (by kernel_rfl) _ _ _ ?_); conv => whnf
  refine ⟨_, ret_of_fn G0ok (ck) (by first | rfl | simp only [noHs, noH, nI, bI, Bool.and_self, Bool.and_true, Bool.true_and, nP, nQ]) (by first | rfl | simp only [noHs, noH, nI, bI, Bool.and_self, Bool.and_true, Bool.true_and, nP, nQ]), ?_⟩; (conv => whnf); (try (refine ⟨by kernel_rfl, ?_⟩; conv => whnf))
  refine ⟨_, ret_of_fn G0ok (gvalue_fn n) (by first | rfl | simp only [noHs, noH, nI, bI, Bool.and_self, Bool.and_true, Bool.true_and, ]) (by first | rfl | simp only [noHs, noH, nI, bI, Bool.and_self, Bool.and_true, Bool.true_and, ]), ?_⟩; (conv => whnf); (try (refine ⟨by kernel_rfl, ?_⟩; conv => whnf))
  rw [hn]
  conv => whnf
  try (refine ⟨by kernel_rfl, ?_⟩; conv => whnf)
  rw [decide_eq_false (show ¬ ch < 0 by omega)]
  conv => whnf
  try (refine ⟨by kernel_rfl, ?_⟩; conv => whnf)
  rw [decide_eq_false (show ¬ ch ≥ 3 by omega)]
  conv => whnf
  try (refine ⟨by kernel_rfl, ?_⟩; conv => whnf)
  have okp := ok.lp
  have okq := ok.lq
  have nA : noH (.agg [.ds fp g.past.length (rows QD.cells g.past), .ds fq g.queue.length (rows QD.cells g.queue)]) = true := by simp only [noH, noHs, nP, nQ, Bool.and_self]
  refine vloop_clean G0ok [(0, some 0), (1, some 1)] 2 [(40, nI .i64 0), (39, .agg [.ds fp g.past.length (rows QD.cells g.past), .ds fq g.queue.length (rows QD.cells g.queue)]), (10, nI .i64 0), (9, bI false), (8, .ptr 1 0), (4, .ptr 0 0), (3, nI .i64 ch), (2, nI .i64 n), (1, nI .i64 id)] [(0, some [nI .i64 g.l0, nI .i64 g.l1, nI .i64 g.l2, nI .i64 g.b0, nI .i64 g.b1, nI .i64 g.b2, nI .i64 g.now, .ds fp g.past.length (rows QD.cells g.past), .ds fq g.queue.length (rows QD.cells g.queue)]), (1, some [nI .i64 0, nI .i64 0, nI .i64 0, nI .i64 0, nI .i64 0, nI .i64 0, nI .i64 0, .ds true 0 [], .ds true 0 []])] rfl ⟨⟨_, rfl, conv_nI (rfl)⟩, ⟨_, rfl, conv_eq rfl (nA)⟩, ⟨_, rfl, conv_nI (rfl)⟩, ⟨_, rfl, .same rfl⟩, ⟨_, rfl, .ptr rfl⟩, ⟨_, rfl, .ptr rfl⟩, ⟨_, rfl, conv_nI (rfl)⟩, ⟨_, rfl, conv_nI (rfl)⟩, ⟨_, rfl, conv_nI (rfl)⟩, trivial⟩ ⟨.inr ⟨_, _, rfl, rfl, .same (nG)⟩, .inr ⟨_, _, rfl, rfl, .same rfl⟩, trivial⟩ ?_
  refine vloop_unroll ?_
  refine wpv_ok Γok (by kernel_rfl) _ _ _ ?_; conv => whnf
  refine vloop_invK G0ok [(0, some 0), (1, some 1)] 2 (X := Nat) (fun j => [(45, nI .i64 j), (44, nI .i64 g.past.length), (43, .ds fp g.past.length (rows QD.cells g.past)), (40, nI .i64 0), (39, .agg [.ds fp g.past.length (rows QD.cells g.past), .ds fq g.queue.length (rows QD.cells g.queue)]), (10, nI .i64 0), (9, bI false), (8, .ptr 1 0), (4, .ptr 0 0), (3, nI .i64 ch), (2, nI .i64 n), (1, nI .i64 id)]) (fun _ => [(0, some [nI .i64 g.l0, nI .i64 g.l1, nI .i64 g.l2, nI .i64 g.b0, nI .i64 g.b1, nI .i64 g.b2, nI .i64 g.now, .ds fp g.past.length (rows QD.cells g.past), .ds fq g.queue.length (rows QD.cells g.queue)]), (1, some [nI .i64 0, nI .i64 0, nI .i64 0, nI .i64 0, nI .i64 0, nI .i64 0, nI .i64 0, .ds true 0 [], .ds true 0 []])])
    (fun j => j ≤ g.past.length ∧ ∀ q ∈ g.past.take j, q.id ≠ id) (fun j => g.past.length - j) 0 rfl ⟨⟨_, rfl, conv_nI (rfl)⟩, ⟨_, rfl, conv_nI (rfl)⟩, ⟨_, rfl, conv_eq rfl (nP)⟩, ⟨_, rfl, conv_nI (rfl)⟩, ⟨_, rfl, conv_eq rfl (nA)⟩, ⟨_, rfl, conv_nI (rfl)⟩, ⟨_, rfl, .same rfl⟩, ⟨_, rfl, .ptr rfl⟩, ⟨_, rfl, .ptr rfl⟩, ⟨_, rfl, conv_nI (rfl)⟩, ⟨_, rfl, conv_nI (rfl)⟩, ⟨_, rfl, conv_nI (rfl)⟩, trivial⟩ ⟨.inr ⟨_, _, rfl, rfl, .same (nG)⟩, .inr ⟨_, _, rfl, rfl, .same rfl⟩, trivial⟩ ⟨Nat.zero_le _, fun q hq => by simp at hq⟩ ?_
  rintro j ⟨hj, hno⟩
  try dsimp only at hj hno ⊢
  refine wpv_ok Γok (by kernel_rfl) _ _ _ ?_; conv => whnf
  refine bool_cases (fun hd => ?_) (fun hd => ?_)
  · have hd := of_decide_eq_true hd
    have hd : j < g.past.length := by omega
    have st : g.past.take (j + 1) = g.past.take j ++ [g.past[j]] := by rw [List.take_add_one, List.getElem?_eq_getElem hd]; rfl
    have mem : g.past[j] ∈ g.past := List.getElem_mem hd
    conv => whnf
    try (refine ⟨by kernel_rfl, ?_⟩; conv => whnf)
    refine bindP_intro (if_pos (inB_ok (by omega) (by omega))) ?_; conv => whnf
    refine bindP_intro (row_load (i := j) (w := 4) rfl rfl rfl (fun a _ => qd_len a) (by dsimp only; omega) hd) ?_
    refine gen_ex g.past[j] fun y ey => ?_
    rw [← ey] at st mem ⊢
    clear ey
    have yc : y.cells = [nI .i64 y.id, nI .i64 y.v, nI .i64 y.ch, nI .i64 y.t] := rfl
    rw [yc]
    conv => whnf
    try (refine ⟨by kernel_rfl, ?_⟩; conv => whnf)
    by_cases e : y.id = id
    · rw [show (y.id == id) = true from by rw [beq_iff_eq]; exact e]
      conv => whnf
      try (refine ⟨by kernel_rfl, ?_⟩; conv => whnf)
      rw [h8 ⟨y, .inl mem, e⟩]
      exact ⟨_, rfl, rfl⟩
    · rw [show (y.id == id) = false from by rw [beq_eq_false_iff_ne]; exact e]
      conv => whnf
      try (refine ⟨by kernel_rfl, ?_⟩; conv => whnf)
      refine next_round (y := j) G0ok (j + 1) [(0, some 0), (1, some 1)] rfl ⟨⟨_, rfl, conv_nI (ws_i64 (by omega) (by omega))⟩, ⟨_, rfl, conv_nI (rfl)⟩, ⟨_, rfl, conv_eq rfl (nP)⟩, ⟨_, rfl, conv_nI (rfl)⟩, ⟨_, rfl, conv_eq rfl (nA)⟩, ⟨_, rfl, conv_nI (rfl)⟩, ⟨_, rfl, .same rfl⟩, ⟨_, rfl, .ptr rfl⟩, ⟨_, rfl, .ptr rfl⟩, ⟨_, rfl, conv_nI (rfl)⟩, ⟨_, rfl, conv_nI (rfl)⟩, ⟨_, rfl, conv_nI (rfl)⟩, trivial⟩ ⟨.inr ⟨_, _, rfl, rfl, .same (nG)⟩, .inr ⟨_, _, rfl, rfl, .same rfl⟩, trivial⟩ ⟨hd, fun q hq => by
        rw [st, List.mem_append, List.mem_singleton] at hq
        rcases hq with hq | rfl
        · exact hno q hq
        · exact e⟩ (by omega)
  · have hd := of_decide_eq_false hd
    have e : j = g.past.length := by omega
    subst e
    rw [List.take_length] at hno
    clear hj hd
    have noP := hno
    clear hno
    conv => whnf
    try (refine ⟨by kernel_rfl, ?_⟩; conv => whnf)
    refine vloop_clean G0ok [(0, some 0), (1, some 1)] 2 [(40, nI .i64 1), (39, .agg [.ds fp g.past.length (rows QD.cells g.past), .ds fq g.queue.length (rows QD.cells g.queue)]), (10, nI .i64 0), (9, bI false), (8, .ptr 1 0), (4, .ptr 0 0), (3, nI .i64 ch), (2, nI .i64 n), (1, nI .i64 id)] [(0, some [nI .i64 g.l0, nI .i64 g.l1, nI .i64 g.l2, nI .i64 g.b0, nI .i64 g.b1, nI .i64 g.b2, nI .i64 g.now, .ds fp g.past.length (rows QD.cells g.past), .ds fq g.queue.length (rows QD.cells g.queue)]), (1, some [nI .i64 0, nI .i64 0, nI .i64 0, nI .i64 0, nI .i64 0, nI .i64 0, nI .i64 0, .ds true 0 [], .ds true 0 []])] rfl ⟨⟨_, rfl, conv_nI (ws_i64 (by decide) (by decide))⟩, ⟨_, rfl, conv_eq rfl (nA)⟩, ⟨_, rfl, conv_nI (rfl)⟩, ⟨_, rfl, .same rfl⟩, ⟨_, rfl, .ptr rfl⟩, ⟨_, rfl, .ptr rfl⟩, ⟨_, rfl, conv_nI (rfl)⟩, ⟨_, rfl, conv_nI (rfl)⟩, ⟨_, rfl, conv_nI (rfl)⟩, trivial⟩ ⟨.inr ⟨_, _, rfl, rfl, .same (nG)⟩, .inr ⟨_, _, rfl, rfl, .same rfl⟩, trivial⟩ ?_
    refine vloop_unroll ?_
    refine wpv_ok Γok (by kernel_rfl) _ _ _ ?_; conv => whnf
    refine vloop_invK G0ok [(0, some 0), (1, some 1)] 2 (X := Nat) (fun j => [(45, nI .i64 j), (44, nI .i64 g.queue.length), (43, .ds fq g.queue.length (rows QD.cells g.queue)), (40, nI .i64 1), (39, .agg [.ds fp g.past.length (rows QD.cells g.past), .ds fq g.queue.length (rows QD.cells g.queue)]), (10, nI .i64 0), (9, bI false), (8, .ptr 1 0), (4, .ptr 0 0), (3, nI .i64 ch), (2, nI .i64 n), (1, nI .i64 id)]) (fun _ => [(0, some [nI .i64 g.l0, nI .i64 g.l1, nI .i64 g.l2, nI .i64 g.b0, nI .i64 g.b1, nI .i64 g.b2, nI .i64 g.now, .ds fp g.past.length (rows QD.cells g.past), .ds fq g.queue.length (rows QD.cells g.queue)]), (1, some [nI .i64 0, nI .i64 0, nI .i64 0, nI .i64 0, nI .i64 0, nI .i64 0, nI .i64 0, .ds true 0 [], .ds true 0 []])])
      (fun j => j ≤ g.queue.length ∧ ∀ q ∈ g.queue.take j, q.id ≠ id) (fun j => g.queue.length - j) 0 rfl ⟨⟨_, rfl, conv_nI (rfl)⟩, ⟨_, rfl, conv_nI (rfl)⟩, ⟨_, rfl, conv_eq rfl (nQ)⟩, ⟨_, rfl, conv_nI (rfl)⟩, ⟨_, rfl, conv_eq rfl (nA)⟩, ⟨_, rfl, conv_nI (rfl)⟩, ⟨_, rfl, .same rfl⟩, ⟨_, rfl, .ptr rfl⟩, ⟨_, rfl, .ptr rfl⟩, ⟨_, rfl, conv_nI (rfl)⟩, ⟨_, rfl, conv_nI (rfl)⟩, ⟨_, rfl, conv_nI (rfl)⟩, trivial⟩ ⟨.inr ⟨_, _, rfl, rfl, .same (nG)⟩, .inr ⟨_, _, rfl, rfl, .same rfl⟩, trivial⟩ ⟨Nat.zero_le _, fun q hq => by simp at hq⟩ ?_
    rintro j ⟨hj, hno⟩
    try dsimp only at hj hno ⊢
    refine wpv_ok Γok (by kernel_rfl) _ _ _ ?_; conv => whnf
    refine bool_cases (fun hd => ?_) (fun hd => ?_)
    · have hd := of_decide_eq_true hd
      have hd : j < g.queue.length := by omega
      have st : g.queue.take (j + 1) = g.queue.take j ++ [g.queue[j]] := by rw [List.take_add_one, List.getElem?_eq_getElem hd]; rfl
      have mem : g.queue[j] ∈ g.queue := List.getElem_mem hd
      conv => whnf
      try (refine ⟨by kernel_rfl, ?_⟩; conv => whnf)
      refine bindP_intro (if_pos (inB_ok (by omega) (by omega))) ?_; conv => whnf
      refine bindP_intro (row_load (i := j) (w := 4) rfl rfl rfl (fun a _ => qd_len a) (by dsimp only; omega) hd) ?_
      refine gen_ex g.queue[j] fun y ey => ?_
      rw [← ey] at st mem ⊢
      clear ey
      have yc : y.cells = [nI .i64 y.id, nI .i64 y.v, nI .i64 y.ch, nI .i64 y.t] := rfl
      rw [yc]
      conv => whnf
      try (refine ⟨by kernel_rfl, ?_⟩; conv => whnf)
      by_cases e : y.id = id
      · rw [show (y.id == id) = true from by rw [beq_iff_eq]; exact e]
        conv => whnf
        try (refine ⟨by kernel_rfl, ?_⟩; conv => whnf)
        rw [h8 ⟨y, .inr mem, e⟩]
        exact ⟨_, rfl, rfl⟩
      · rw [show (y.id == id) = false from by rw [beq_eq_false_iff_ne]; exact e]
        conv => whnf
        try (refine ⟨by kernel_rfl, ?_⟩; conv => whnf)
        refine next_round (y := j) G0ok (j + 1) [(0, some 0), (1, some 1)] rfl ⟨⟨_, rfl, conv_nI (ws_i64 (by omega) (by omega))⟩, ⟨_, rfl, conv_nI (rfl)⟩, ⟨_, rfl, conv_eq rfl (nQ)⟩, ⟨_, rfl, conv_nI (rfl)⟩, ⟨_, rfl, conv_eq rfl (nA)⟩, ⟨_, rfl, conv_nI (rfl)⟩, ⟨_, rfl, .same rfl⟩, ⟨_, rfl, .ptr rfl⟩, ⟨_, rfl, .ptr rfl⟩, ⟨_, rfl, conv_nI (rfl)⟩, ⟨_, rfl, conv_nI (rfl)⟩, ⟨_, rfl, conv_nI (rfl)⟩, trivial⟩ ⟨.inr ⟨_, _, rfl, rfl, .same (nG)⟩, .inr ⟨_, _, rfl, rfl, .same rfl⟩, trivial⟩ ⟨hd, fun q hq => by
          rw [st, List.mem_append, List.mem_singleton] at hq
          rcases hq with hq | rfl
          · exact hno q hq
          · exact e⟩ (by omega)
    · have hd := of_decide_eq_false hd
      have e : j = g.queue.length := by omega
      subst e
      rw [List.take_length] at hno
      clear hj hd
      have noQ := hno
      clear hno
      conv => whnf
      try (refine ⟨by kernel_rfl, ?_⟩; conv => whnf)
      refine vloop_clean G0ok [(0, some 0), (1, some 1)] 2 [(40, nI .i64 2), (39, .agg [.ds fp g.past.length (rows QD.cells g.past), .ds fq g.queue.length (rows QD.cells g.queue)]), (10, nI .i64 0), (9, bI false), (8, .ptr 1 0), (4, .ptr 0 0), (3, nI .i64 ch), (2, nI .i64 n), (1, nI .i64 id)] [(0, some [nI .i64 g.l0, nI .i64 g.l1, nI .i64 g.l2, nI .i64 g.b0, nI .i64 g.b1, nI .i64 g.b2, nI .i64 g.now, .ds fp g.past.length (rows QD.cells g.past), .ds fq g.queue.length (rows QD.cells g.queue)]), (1, some [nI .i64 0, nI .i64 0, nI .i64 0, nI .i64 0, nI .i64 0, nI .i64 0, nI .i64 0, .ds true 0 [], .ds true 0 []])] rfl ⟨⟨_, rfl, conv_nI (ws_i64 (by decide) (by decide))⟩, ⟨_, rfl, conv_eq rfl (nA)⟩, ⟨_, rfl, conv_nI (rfl)⟩, ⟨_, rfl, .same rfl⟩, ⟨_, rfl, .ptr rfl⟩, ⟨_, rfl, .ptr rfl⟩, ⟨_, rfl, conv_nI (rfl)⟩, ⟨_, rfl, conv_nI (rfl)⟩, ⟨_, rfl, conv_nI (rfl)⟩, trivial⟩ ⟨.inr ⟨_, _, rfl, rfl, .same (nG)⟩, .inr ⟨_, _, rfl, rfl, .same rfl⟩, trivial⟩ ?_
      refine vloop_unroll ?_
      refine wpv_ok Γok (by kernel_rfl) _ _ _ ?_; conv => whnf
      refine ⟨_, gfresh_ret (fp := fp) (fq := fq) (g := g) (by omega) (by omega), ?_⟩
      conv => whnf
      try (refine ⟨by kernel_rfl, ?_⟩; conv => whnf)
      have lP : (rows QD.cells g.past).length = g.past.length * 4 := rows_length (w := 4) fun a _ => rfl
      have lQ : (rows QD.cells g.queue).length = g.queue.length * 4 := rows_length (w := 4) fun a _ => rfl
      have fi := gfits_fn (fp := false) (fq := false) (g := g) (x := ⟨id, n, ch, g.now⟩) (by omega) (fun q hq => (ok.row q (.inl hq)).1) ⟨ok.now.1, by have := ok.now.2; omega⟩ (fun q hq => ⟨(ok.row q (.inl hq)).2.2.1, by have := (ok.row q (.inl hq)).2.2.2; have := ok.now.2; omega⟩) (by unfold valB at hn; simp only [Bool.and_eq_true, decide_eq_true_eq] at hn; exact hn) hc
      refine ⟨_, ret_own [3, 4] G0ok (fi) (mapO_cons (deep_agg rfl (mapO_cons (deepV_noH _ _ rfl) (mapO_cons (deepV_noH _ _ rfl) (mapO_cons (deepV_noH _ _ rfl) (mapO_cons (deepV_noH _ _ rfl) (mapO_cons (deepV_noH _ _ rfl) (mapO_cons (deepV_noH _ _ rfl) (mapO_cons (deepV_noH _ _ rfl) (mapO_cons (deep_row rfl lP nP) (mapO_cons (deep_row rfl lQ nQ) mapO_nil)))))))))) (mapO_cons (deepV_noH _ _ rfl) mapO_nil)) rfl, ?_⟩; (conv => whnf); (try (refine ⟨by kernel_rfl, ?_⟩; conv => whnf))
      refine gen_ex (⟨id, n, ch, g.now⟩ : QD) fun x ex => ?_
      have xc : x.cells = [nI .i64 id, nI .i64 n, nI .i64 ch, nI .i64 g.now] := by rw [ex]; rfl
      rw [← ex] at h0 h1 h9 ⊢
      have noA : ∀ q, (q ∈ g.past ∨ q ∈ g.queue) → q.id ≠ id := fun q hq => hq.elim (noP q) (noQ q)
      cases hf : fitsB g x with
      | true =>
        have h0 := h0 noA hf
        have lP1 : (rows QD.cells (g.past ++ [x])).length = (g.past.length + 1) * 4 := by rw [rows_length (w := 4) fun a _ => rfl, List.length_append]; rfl
        have nP1 := rowsQ_noHs (g.past ++ [x])
        rw [h0]
        unfold GtD.cells
        dsimp only
        rw [List.length_append, show [x].length = 1 from rfl]
        conv => whnf
        try (refine ⟨by kernel_rfl, ?_⟩; conv => whnf)
        refine .ownAs 1 x.cells rfl (by rw [xc]; rfl) ?_
        conv => whnf
        try (refine ⟨by kernel_rfl, ?_⟩; conv => whnf)
        refine onlyIf_intro (by show (Nat.beq (rows QD.cells g.past).length (g.past.length * 4) && _) = true; rw [lP]; simp [maxLen]; omega) ?_
        refine .ownAs (g.past.length + 1) (rows QD.cells (g.past ++ [x])) rfl (by rw [rows_app, rows_one]) ?_
        conv => whnf
        try (refine ⟨by kernel_rfl, ?_⟩; conv => whnf)
        exact ⟨_, rfl, deep_tup (mapO_cons (deep_agg rfl (mapO_cons (deepV_noH _ _ rfl) (mapO_cons (deepV_noH _ _ rfl) (mapO_cons (deepV_noH _ _ rfl) (mapO_cons (deepV_noH _ _ rfl) (mapO_cons (deepV_noH _ _ rfl) (mapO_cons (deepV_noH _ _ rfl) (mapO_cons (deepV_noH _ _ rfl) (mapO_cons (deep_row rfl lP1 nP1) (mapO_cons (deep_row rfl lQ nQ) mapO_nil)))))))))) (mapO_cons (deepV_noH _ _ rfl) (mapO_cons (deepV_noH _ _ rfl) mapO_nil)))⟩
      | false =>
        conv => whnf
        try (refine ⟨by kernel_rfl, ?_⟩; conv => whnf)
        rw [show (((g.queue.length : Nat) : Int) == 40) = decide (g.queue.length = 40) from beq_lit _ 40]
        by_cases hq : g.queue.length = 40
        · rw [decide_eq_true hq, h9 noA hf hq]
          conv => whnf
          try (refine ⟨by kernel_rfl, ?_⟩; conv => whnf)
          exact ⟨_, rfl, rfl⟩
        · have h1 := h1 noA hf hq
          have lQ1 : (rows QD.cells (g.queue ++ [x])).length = (g.queue.length + 1) * 4 := by rw [rows_length (w := 4) fun a _ => rfl, List.length_append]; rfl
          have nQ1 := rowsQ_noHs (g.queue ++ [x])
          rw [decide_eq_false hq, h1]
          unfold GtD.cells
          dsimp only
          rw [List.length_append, show [x].length = 1 from rfl]
          conv => whnf
          try (refine ⟨by kernel_rfl, ?_⟩; conv => whnf)
          refine .ownAs 1 x.cells rfl (by rw [xc]; rfl) ?_
          conv => whnf
          try (refine ⟨by kernel_rfl, ?_⟩; conv => whnf)
          refine onlyIf_intro (by show (Nat.beq (rows QD.cells g.queue).length (g.queue.length * 4) && _) = true; rw [lQ]; simp [maxLen]; omega) ?_
          refine .ownAs (g.queue.length + 1) (rows QD.cells (g.queue ++ [x])) rfl (by rw [rows_app, rows_one]) ?_
          conv => whnf
          try (refine ⟨by kernel_rfl, ?_⟩; conv => whnf)
          exact ⟨_, rfl, deep_tup (mapO_cons (deep_agg rfl (mapO_cons (deepV_noH _ _ rfl) (mapO_cons (deepV_noH _ _ rfl) (mapO_cons (deepV_noH _ _ rfl) (mapO_cons (deepV_noH _ _ rfl) (mapO_cons (deepV_noH _ _ rfl) (mapO_cons (deepV_noH _ _ rfl) (mapO_cons (deepV_noH _ _ rfl) (mapO_cons (deep_row rfl lP nP) (mapO_cons (deep_row rfl lQ1 nQ1) mapO_nil)))))))))) (mapO_cons (deepV_noH _ _ rfl) (mapO_cons (deepV_noH _ _ rfl) mapO_nil)))⟩
end Go.Proofs.Ytilmfdlonpjjiaa
namespace Go.Proofs.Ytilmfdlonpjjiaa
set_option linter.unusedVariables false
set_option linter.unusedSimpArgs false
set_option linter.unusedSectionVars false
open Go.ChangeShapes Go.WideShapes Go.ChangeAt Go.RowKit Go.Joins
set_option maxRecDepth 10000
/-- A gate at work: what has passed, what waits, what is let go. -/
structure TkS where
  past : List QD
  queue : List QD
  out : List Int
def GtD.at' (g : GtD) (now : Int) (s : TkS) : GtD := { g with now := now, past := s.past, queue := s.queue }
def tkStep (g : GtD) (now : Int) (s : TkS) (x : QD) : TkS :=
  if now - x.t ≥ 24 then ⟨s.past, s.queue, s.out ++ [x.id]⟩
  else if fitsB (g.at' now s) x = true then ⟨s.past ++ [{ x with t := now }], s.queue, s.out ++ [x.id]⟩
  else ⟨s.past, s.queue ++ [x], s.out⟩
def keptP (L : List QD) (now : Int) : List QD := L.filter fun q => decide (now - q.t < 24)
def tkRun (g : GtD) (now : Int) (i : Nat) : TkS := (g.queue.take i).foldl (tkStep g now) ⟨keptP g.past now, [], []⟩
/-- What a tick comes to. -/
def tickS (g : GtD) (h : Int) : TkS := tkRun g (g.now + h) g.queue.length
def tickG (g : GtD) (h : Int) : GtD := g.at' (g.now + h) (tickS g h)
def intsC (l : List Int) : List VV := l.map (nI .i64)
theorem intsC_noHs (l : List Int) : noHs (intsC l) = true := noHs_map (fun _ => rfl) l
def tkErr (e : Nat) : VV := .tup [.agg (gtZ.cells true true), .ds true 0 [], nI .i64 e]
theorem gtick_bad {fp fq : Bool} {g : GtD} {h : Int} (hb : chkGt g ≠ 0) : FnV Try.prog G0 21 [.agg (g.cells fp fq), nI .i64 h] (tkErr (chkGt g)) := by
  have ck := gcheck_fn (fp := fp) (fq := fq) (g := g)
  have nP := rowsQ_noHs g.past
  have nQ := rowsQ_noHs g.queue
  have nG := gtd_noHs fp fq g
  unfold GtD.cells at ck nG ⊢
  refine gen_ex (chkGt g) fun c ec => ?_
  rw [← ec] at ck hb ⊢
  refine fn_of_vwp Γok Try.func21 (by kernel_rfl) rfl (by simp [Try.ntmps21]) (wpv_ok Γok (by kernel_rfl) _ _ _ ?_); conv => whnf
  refine ⟨_, ret_of_fn G0ok (ck) (by first | rfl | simp only [noHs, noH, nI, bI, Bool.and_self, Bool.and_true, Bool.true_and, nP, nQ]) (by first | rfl | simp only [noHs, noH, nI, bI, Bool.and_self, Bool.and_true, Bool.true_and, nP, nQ]), ?_⟩; (conv => whnf); (try (refine ⟨by kernel_rfl, ?_⟩; conv => whnf))
  rw [show (((c : Nat) : Int) != 0) = true from by rw [bne_iff_ne]; omega]
  conv => whnf
  try (refine ⟨by kernel_rfl, ?_⟩; conv => whnf)
  exact ⟨_, rfl, rfl⟩
theorem gtick_range {fp fq : Bool} {g : GtD} {h : Int} (hb : chkGt g = 0) (ok : GtOk g) (hr : h < 1 ∨ 1000 < h ∨ 1099511627776 < g.now + h) : FnV Try.prog G0 21 [.agg (g.cells fp fq), nI .i64 h] (tkErr 6) := by
  have ck := gcheck_fn (fp := fp) (fq := fq) (g := g)
  rw [hb] at ck
  have nP := rowsQ_noHs g.past
  have nQ := rowsQ_noHs g.queue
  have nG := gtd_noHs fp fq g
  unfold GtD.cells at ck nG ⊢
  obtain ⟨n1, n2⟩ := ok.now
  refine fn_of_vwp Γok Try.func21 (by kernel_rfl) rfl (by simp [Try.ntmps21]) (wpv_ok Γok (by kernel_rfl) _ _ _ ?_); conv => whnf
  refine ⟨_, ret_of_fn G0ok (ck) (by first | rfl | simp only [noHs, noH, nI, bI, Bool.and_self, Bool.and_true, Bool.true_and, nP, nQ]) (by first | rfl | simp only [noHs, noH, nI, bI, Bool.and_self, Bool.and_true, Bool.true_and, nP, nQ]), ?_⟩; (conv => whnf); (try (refine ⟨by kernel_rfl, ?_⟩; conv => whnf))
  by_cases h1 : h < 1
  · rw [decide_eq_true h1]
    conv => whnf
    try (refine ⟨by kernel_rfl, ?_⟩; conv => whnf)
    exact ⟨_, rfl, rfl⟩
  · rw [decide_eq_false h1]
    conv => whnf
    try (refine ⟨by kernel_rfl, ?_⟩; conv => whnf)
    by_cases h2 : h > 1000
    · rw [decide_eq_true h2]
      conv => whnf
      try (refine ⟨by kernel_rfl, ?_⟩; conv => whnf)
      exact ⟨_, rfl, rfl⟩
    · rw [decide_eq_false h2]
      conv => whnf
      try (refine ⟨by kernel_rfl, ?_⟩; conv => whnf)
      rw [ws_i64 (x := g.now + h) (by omega) (by omega), decide_eq_true (show g.now + h > 1099511627776 by omega)]
      conv => whnf
      try (refine ⟨by kernel_rfl, ?_⟩; conv => whnf)
      exact ⟨_, rfl, rfl⟩
/-- What is known of a gate at work, behind the first i that waited. -/
structure TkOk (g : GtD) (N : Int) (i : Nat) (s : TkS) : Prop where
  lp : s.past.length ≤ 40
  lq : s.queue.length ≤ i
  lo : s.out.length ≤ i
  row : ∀ q, q ∈ s.past ∨ q ∈ s.queue → (0 ≤ q.v ∧ q.v ≤ 1073741824) ∧ (0 ≤ q.ch ∧ q.ch < 3) ∧ 0 ≤ q.t ∧ q.t ≤ N
theorem tkRun_succ (g : GtD) (N : Int) {i : Nat} (h : i < g.queue.length) : tkRun g N (i + 1) = tkStep g N (tkRun g N i) g.queue[i] := by
  unfold tkRun
  rw [List.take_add_one, List.getElem?_eq_getElem h, List.foldl_append]
  rfl
theorem tk_first {g : GtD} {N : Int} (ok : GtOk g) (hN : g.now ≤ N) : TkOk g N 0 (tkRun g N 0) :=
  ⟨Nat.le_trans (List.length_filter_le _ _) ok.lp, Nat.le_refl _, Nat.le_refl _, fun q hq => by
    rcases hq with hq | hq
    · have := ok.row q (.inl (List.mem_filter.1 hq).1)
      exact ⟨this.1, this.2.1, this.2.2.1, Int.le_trans this.2.2.2 hN⟩
    · cases hq⟩
theorem tk_next {g : GtD} {N : Int} {i : Nat} (h : TkOk g N i (tkRun g N i)) (ok : GtOk g) (hN : g.now ≤ N) (hc : i < g.queue.length) : TkOk g N (i + 1) (tkRun g N (i + 1)) := by
  rw [tkRun_succ g N hc]
  have hx := ok.row _ (.inr (List.getElem_mem hc))
  have n0 := ok.now.1
  unfold tkStep
  split
  · exact ⟨h.lp, Nat.le_succ_of_le h.lq, by rw [List.length_append]; exact Nat.succ_le_succ h.lo, h.row⟩
  · split
    · rename_i hf
      unfold fitsB at hf
      simp only [Bool.and_eq_true, decide_eq_true_eq] at hf
      refine ⟨by rw [List.length_append]; exact hf.2.2, Nat.le_succ_of_le h.lq, by rw [List.length_append]; exact Nat.succ_le_succ h.lo, fun q hq => ?_⟩
      rcases hq with hq | hq
      · rcases List.mem_append.1 hq with hq | hq
        · exact h.row q (.inl hq)
        · rw [List.mem_singleton.1 hq]
          exact ⟨hx.1, hx.2.1, by dsimp only; omega, Int.le_refl _⟩
      · exact h.row q (.inr hq)
    · refine ⟨h.lp, by rw [List.length_append]; exact Nat.succ_le_succ h.lq, Nat.le_succ_of_le h.lo, fun q hq => ?_⟩
      rcases hq with hq | hq
      · exact h.row q (.inl hq)
      · rcases List.mem_append.1 hq with hq | hq
        · exact h.row q (.inr hq)
        · rw [List.mem_singleton.1 hq]
          exact ⟨hx.1, hx.2.1, hx.2.2.1, Int.le_trans hx.2.2.2 hN⟩
theorem gtick_ok {fp fq : Bool} {g : GtD} {h : Int} (hb : chkGt g = 0) (ok : GtOk g) (hr : 1 ≤ h ∧ h ≤ 1000 ∧ g.now + h ≤ 1099511627776) :
    FnV Try.prog G0 21 [.agg (g.cells fp fq), nI .i64 h] (.tup [.agg ((tickG g h).cells false false), .ds false (tickS g h).out.length (intsC (tickS g h).out), nI .i64 0]) := by
  have ck := gcheck_fn (fp := fp) (fq := fq) (g := g)
  rw [hb] at ck
  have nP := rowsQ_noHs g.past
  have nQ := rowsQ_noHs g.queue
  have nG := gtd_noHs fp fq g
  obtain ⟨n1, n2⟩ := ok.now
  have okp := ok.lp
  have okq := ok.lq
  unfold GtD.cells at ck nG ⊢
  refine fn_of_vwp Γok Try.func21 (by kernel_rfl) rfl (by simp [Try.ntmps21]) (wpv_ok Γok (by kernel_rfl) _ _ _ ?_); conv => whnf
  refine ⟨_, ret_of_fn G0ok (ck) (by first | rfl | simp only [noHs, noH, nI, bI, Bool.and_self, Bool.and_true, Bool.true_and, nP, nQ]) (by first | rfl | simp only [noHs, noH, nI, bI, Bool.and_self, Bool.and_true, Bool.true_and, nP, nQ]), ?_⟩; (conv => whnf); (try (refine ⟨by kernel_rfl, ?_⟩; conv => whnf))
  rw [decide_eq_false (show ¬ h < 1 by omega)]
  conv => whnf
  try (refine ⟨by kernel_rfl, ?_⟩; conv => whnf)
  rw [decide_eq_false (show ¬ h > 1000 by omega)]
  conv => whnf
  try (refine ⟨by kernel_rfl, ?_⟩; conv => whnf)
  rw [ws_i64 (x := g.now + h) (by omega) (by omega), decide_eq_false (show ¬ g.now + h > 1099511627776 by omega)]
  conv => whnf
  try (refine ⟨by kernel_rfl, ?_⟩; conv => whnf)
  rw [ws_i64 (x := g.now + h) (by omega) (by omega)]
  unfold tickG tickS
  have hN : g.now + 1 ≤ g.now + h := by omega
  have hN2 := hr.2.2
  refine gen_ex (g.now + h) fun N eN => ?_
  rw [← eN] at hN hN2 ⊢
  clear eN
  have kl : ∀ i, (keptP (g.past.take i) N).length ≤ i := fun i => Nat.le_trans (List.length_filter_le _ _) (by rw [List.length_take]; exact Nat.min_le_left _ _)
  refine vloop_invK G0ok [(0, some 0), (1, some 1), (2, none)] 3 (X := Nat) (fun i => [(48, nI .i64 i), (47, nI .i64 g.past.length), (46, .ds fp g.past.length (rows QD.cells g.past)), (9, .ds fq g.queue.length (rows QD.cells g.queue)), (6, nI .i64 0), (5, .ds true 0 []), (4, .ptr 1 0), (2, .ptr 0 0)])
    (fun i => [(0, some [nI .i64 g.l0, nI .i64 g.l1, nI .i64 g.l2, nI .i64 g.b0, nI .i64 g.b1, nI .i64 g.b2, nI .i64 N, .sl 2 0 (keptP (g.past.take i) N).length 4, .ds true 0 []]), (1, some [nI .i64 0, nI .i64 0, nI .i64 0, nI .i64 0, nI .i64 0, nI .i64 0, nI .i64 0, .ds true 0 [], .ds true 0 []]), (2, some (rows QD.cells (keptP (g.past.take i) N)))]) (fun i => i ≤ g.past.length) (fun i => g.past.length - i) 0 rfl
    ⟨⟨_, rfl, conv_nI (rfl)⟩, ⟨_, rfl, conv_nI (rfl)⟩, ⟨_, rfl, conv_eq rfl (nP)⟩, ⟨_, rfl, conv_eq rfl (nQ)⟩, ⟨_, rfl, conv_nI (rfl)⟩, ⟨_, rfl, .same rfl⟩, ⟨_, rfl, .ptr rfl⟩, ⟨_, rfl, .ptr rfl⟩, trivial⟩ ⟨.inr ⟨_, _, rfl, rfl, .cons (.same rfl) (.cons (.same rfl) (.cons (.same rfl) (.cons (.same rfl) (.cons (.same rfl) (.cons (.same rfl) (.cons (.same rfl) (.cons (.null rfl) (.cons (.same rfl) .nil))))))))⟩, .inr ⟨_, _, rfl, rfl, .same rfl⟩, .inl ⟨rfl, rfl⟩, trivial⟩ (Nat.zero_le _) ?_
  intro i hi
  try dsimp only at hi ⊢
  refine wpv_ok Γok (by kernel_rfl) _ _ _ ?_; conv => whnf
  have kli := kl i
  have rl : (rows QD.cells (keptP (g.past.take i) N)).length = (keptP (g.past.take i) N).length * 4 := rows_length (w := 4) fun a _ => rfl
  refine bool_cases (fun hc => ?_) (fun hc => ?_)
  · have hc := of_decide_eq_true hc
    have hc : i < g.past.length := by omega
    have st : keptP (g.past.take (i + 1)) N = keptP (g.past.take i) N ++ keptP [g.past[i]] N := by unfold keptP; rw [List.take_add_one, List.getElem?_eq_getElem hc, List.filter_append]; rfl
    have hq := ok.row _ (.inl (List.getElem_mem hc))
    conv => whnf
    try (refine ⟨by kernel_rfl, ?_⟩; conv => whnf)
    refine bindP_intro (if_pos (inB_ok (by omega) (by omega))) ?_; conv => whnf
    refine bindP_intro (row_load (i := i) (w := 4) rfl rfl rfl (fun a _ => qd_len a) (by dsimp only; omega) hc) ?_
    refine gen_ex g.past[i] fun q eq => ?_
    rw [← eq] at st hq ⊢
    clear eq
    have qc : q.cells = [nI .i64 q.id, nI .i64 q.v, nI .i64 q.ch, nI .i64 q.t] := rfl
    rw [qc]
    conv => whnf
    try (refine ⟨by kernel_rfl, ?_⟩; conv => whnf)
    rw [ws_i64 (x := N - q.t) (by omega) (by omega)]
    conv => whnf
    try (refine ⟨by kernel_rfl, ?_⟩; conv => whnf)
    by_cases hk : N - q.t < 24
    · rw [decide_eq_true hk]
      have st : keptP (g.past.take (i + 1)) N = keptP (g.past.take i) N ++ [q] := by rw [st]; unfold keptP; rw [List.filter_cons, if_pos (by rw [decide_eq_true hk])]; rfl
      have sl : (keptP (g.past.take (i + 1)) N).length = (keptP (g.past.take i) N).length + 1 := by rw [st, List.length_append]; rfl
      conv => whnf
      try (refine ⟨by kernel_rfl, ?_⟩; conv => whnf)
      refine .ownAs 1 q.cells rfl (by rw [qc]; rfl) ?_
      conv => whnf
      try (refine ⟨by kernel_rfl, ?_⟩; conv => whnf)
      refine onlyIf_intro (by show (Nat.beq (rows QD.cells (keptP (g.past.take i) N)).length _ && _) = true; rw [rl]; simp [maxLen]; omega) ?_
      refine .ownAs (keptP (g.past.take (i + 1)) N).length (rows QD.cells (keptP (g.past.take (i + 1)) N)) sl.symm (by rw [st, rows_app, rows_one]) ?_
      conv => whnf
      try (refine ⟨by kernel_rfl, ?_⟩; conv => whnf)
      refine next_round (y := i) G0ok (i + 1) [(0, some 0), (1, some 1), (2, some 5)] rfl ⟨⟨_, rfl, conv_nI (ws_i64 (by omega) (by omega))⟩, ⟨_, rfl, conv_nI (rfl)⟩, ⟨_, rfl, conv_eq rfl (nP)⟩, ⟨_, rfl, conv_eq rfl (nQ)⟩, ⟨_, rfl, conv_nI (rfl)⟩, ⟨_, rfl, .same rfl⟩, ⟨_, rfl, .ptr rfl⟩, ⟨_, rfl, .ptr rfl⟩, trivial⟩ ⟨.inr ⟨_, _, rfl, rfl, .cons (.same rfl) (.cons (.same rfl) (.cons (.same rfl) (.cons (.same rfl) (.cons (.same rfl) (.cons (.same rfl) (.cons (.same rfl) (.cons (.sl rfl) (.cons (.same rfl) .nil))))))))⟩, .inr ⟨_, _, rfl, rfl, .same rfl⟩, .inr ⟨_, _, rfl, rfl, .same (rowsQ_noHs _)⟩, trivial⟩ (by omega) (by omega)
    · rw [decide_eq_false hk]
      have st : keptP (g.past.take (i + 1)) N = keptP (g.past.take i) N := by rw [st]; unfold keptP; rw [List.filter_cons, if_neg (by rw [decide_eq_false hk]; decide)]; exact List.append_nil _
      conv => whnf
      try (refine ⟨by kernel_rfl, ?_⟩; conv => whnf)
      refine next_round (y := i) G0ok (i + 1) [(0, some 0), (1, some 1), (2, some 2)] rfl ⟨⟨_, rfl, conv_nI (ws_i64 (by omega) (by omega))⟩, ⟨_, rfl, conv_nI (rfl)⟩, ⟨_, rfl, conv_eq rfl (nP)⟩, ⟨_, rfl, conv_eq rfl (nQ)⟩, ⟨_, rfl, conv_nI (rfl)⟩, ⟨_, rfl, .same rfl⟩, ⟨_, rfl, .ptr rfl⟩, ⟨_, rfl, .ptr rfl⟩, trivial⟩ ⟨.inr ⟨_, _, rfl, rfl, .cons (.same rfl) (.cons (.same rfl) (.cons (.same rfl) (.cons (.same rfl) (.cons (.same rfl) (.cons (.same rfl) (.cons (.same rfl) (.cons (by rw [st]; exact .sl rfl) (.cons (.same rfl) .nil))))))))⟩, .inr ⟨_, _, rfl, rfl, .same rfl⟩, .inr ⟨_, _, rfl, rfl, convs_eq (by rw [st]) (rowsQ_noHs _)⟩, trivial⟩ (by omega) (by omega)
  · have hc := of_decide_eq_false hc
    have e : i = g.past.length := by omega
    subst e
    rw [List.take_length] at kli rl ⊢
    conv => whnf
    try (refine ⟨by kernel_rfl, ?_⟩; conv => whnf)
    have t0 : tkRun g N 0 = ⟨keptP g.past N, [], []⟩ := rfl
    refine vloop_invK G0ok [(0, some 0), (1, some 1), (2, some 2), (3, none), (4, none)] 5 (X := Nat) (fun i => [(67, nI .i64 i), (66, nI .i64 g.queue.length), (65, .ds fq g.queue.length (rows QD.cells g.queue)), (12, .sl 4 0 (tkRun g N i).out.length 1), (6, nI .i64 0), (5, .ds true 0 []), (4, .ptr 1 0), (2, .ptr 0 0)])
      (fun i => [(0, some [nI .i64 g.l0, nI .i64 g.l1, nI .i64 g.l2, nI .i64 g.b0, nI .i64 g.b1, nI .i64 g.b2, nI .i64 N, .sl 2 0 (tkRun g N i).past.length 4, .sl 3 0 (tkRun g N i).queue.length 4]), (1, some [nI .i64 0, nI .i64 0, nI .i64 0, nI .i64 0, nI .i64 0, nI .i64 0, nI .i64 0, .ds true 0 [], .ds true 0 []]), (2, some (rows QD.cells (tkRun g N i).past)), (3, some (rows QD.cells (tkRun g N i).queue)), (4, some (intsC (tkRun g N i).out))]) (fun i => i ≤ g.queue.length ∧ TkOk g N i (tkRun g N i)) (fun i => g.queue.length - i) 0 rfl
      ⟨⟨_, rfl, conv_nI (rfl)⟩, ⟨_, rfl, conv_nI (rfl)⟩, ⟨_, rfl, conv_eq rfl (nQ)⟩, ⟨_, rfl, .null rfl⟩, ⟨_, rfl, conv_nI (rfl)⟩, ⟨_, rfl, .same rfl⟩, ⟨_, rfl, .ptr rfl⟩, ⟨_, rfl, .ptr rfl⟩, trivial⟩ ⟨.inr ⟨_, _, rfl, rfl, .cons (.same rfl) (.cons (.same rfl) (.cons (.same rfl) (.cons (.same rfl) (.cons (.same rfl) (.cons (.same rfl) (.cons (.same rfl) (.cons (.sl rfl) (.cons (.null rfl) .nil))))))))⟩, .inr ⟨_, _, rfl, rfl, .same rfl⟩, .inr ⟨_, _, rfl, rfl, .same (rowsQ_noHs _)⟩, .inl ⟨rfl, rfl⟩, .inl ⟨rfl, rfl⟩, trivial⟩ ⟨Nat.zero_le _, tk_first ok (by omega)⟩ ?_
    rintro i ⟨hi, hok⟩
    try dsimp only at hi hok ⊢
    refine wpv_ok Γok (by kernel_rfl) _ _ _ ?_; conv => whnf
    refine bool_cases (fun hc => ?_) (fun hc => ?_)
    · have hc := of_decide_eq_true hc
      have hc : i < g.queue.length := by omega
      have hq := ok.row _ (.inr (List.getElem_mem hc))
      have hx : g.queue[i]'hc ∈ g.queue := List.getElem_mem hc
      have st := tkRun_succ g N hc
      conv => whnf
      try (refine ⟨by kernel_rfl, ?_⟩; conv => whnf)
      refine bindP_intro (if_pos (inB_ok (by omega) (by omega))) ?_; conv => whnf
      refine bindP_intro (row_load (i := i) (w := 4) rfl rfl rfl (fun a _ => qd_len a) (by dsimp only; omega) hc) ?_
      have nx := tk_next hok ok (by omega) hc
      rw [st] at nx
      refine gen_ex g.queue[i] fun x ex => ?_
      rw [← ex] at st hq nx ⊢
      clear ex hx
      have xc : x.cells = [nI .i64 x.id, nI .i64 x.v, nI .i64 x.ch, nI .i64 x.t] := rfl
      refine gen_ex (tkRun g N i) fun s es => ?_
      rw [← es] at st hok nx ⊢
      have lP : (rows QD.cells s.past).length = s.past.length * 4 := rows_length (w := 4) fun a _ => rfl
      have lQ : (rows QD.cells s.queue).length = s.queue.length * 4 := rows_length (w := 4) fun a _ => rfl
      have lO : (intsC s.out).length = s.out.length := List.length_map _
      have nP2 := rowsQ_noHs s.past
      have nQ2 := rowsQ_noHs s.queue
      have o1 := hok.lp
      have o2 := hok.lq
      have o3 := hok.lo
      unfold tkStep at nx st
      rw [xc]
      conv => whnf
      try (refine ⟨by kernel_rfl, ?_⟩; conv => whnf)
      rw [ws_i64 (x := N - x.t) (by omega) (by omega)]
      by_cases h24 : N - x.t ≥ 24
      · rw [if_pos h24] at st nx
        rw [decide_eq_true h24]
        conv => whnf
        try (refine ⟨by kernel_rfl, ?_⟩; conv => whnf)
        refine .ownAs 1 [nI .i64 x.id] rfl rfl ?_
        conv => whnf
        try (refine ⟨by kernel_rfl, ?_⟩; conv => whnf)
        refine onlyIf_intro (by show (Nat.beq (intsC s.out).length _ && _) = true; rw [lO]; simp [maxLen]; omega) ?_
        refine .ownAs (s.out.length + 1) (intsC (s.out ++ [x.id])) rfl (by unfold intsC; rw [List.map_append]; rfl) ?_
        conv => whnf
        try (refine ⟨by kernel_rfl, ?_⟩; conv => whnf)
        refine next_round (y := i) G0ok (i + 1) [(0, some 0), (1, some 1), (2, some 2), (3, some 3), (4, some 7)] rfl ⟨⟨_, rfl, conv_nI (ws_i64 (by omega) (by omega))⟩, ⟨_, rfl, conv_nI (rfl)⟩, ⟨_, rfl, conv_eq rfl (nQ)⟩, ⟨_, rfl, conv_slE rfl rfl (by rw [st, List.length_append]; rfl) rfl⟩, ⟨_, rfl, conv_nI (rfl)⟩, ⟨_, rfl, .same rfl⟩, ⟨_, rfl, .ptr rfl⟩, ⟨_, rfl, .ptr rfl⟩, trivial⟩ ⟨.inr ⟨_, _, rfl, rfl, .cons (.same rfl) (.cons (.same rfl) (.cons (.same rfl) (.cons (.same rfl) (.cons (.same rfl) (.cons (.same rfl) (.cons (.same rfl) (.cons (by rw [st]; exact .sl rfl) (.cons (by rw [st]; exact .sl rfl) .nil))))))))⟩, .inr ⟨_, _, rfl, rfl, .same rfl⟩, .inr ⟨_, _, rfl, rfl, convs_eq (by rw [st]) (rowsQ_noHs _)⟩, .inr ⟨_, _, rfl, rfl, convs_eq (by rw [st]) (rowsQ_noHs _)⟩, .inr ⟨_, _, rfl, rfl, convs_eq (by rw [st]) (intsC_noHs _)⟩, trivial⟩ ⟨hc, by rw [st]; exact nx⟩ (by omega)
      · rw [if_neg h24] at st nx
        rw [decide_eq_false h24]
        conv => whnf
        try (refine ⟨by kernel_rfl, ?_⟩; conv => whnf)
        have fi := gfits_fn (fp := false) (fq := false) (g := g.at' N s) (x := x) (by show s.past.length ≤ 100; omega) (fun q hq => (hok.row q (.inl hq)).1) ⟨by show 0 ≤ N; omega, by show N ≤ _; omega⟩ (fun q hq => ⟨(hok.row q (.inl hq)).2.2.1, by have := (hok.row q (.inl hq)).2.2.2; omega⟩) hq.1 hq.2.1
        refine ⟨_, ret_own [2, 3] G0ok (fi) (mapO_cons (deep_agg rfl (mapO_cons (deepV_noH _ _ rfl) (mapO_cons (deepV_noH _ _ rfl) (mapO_cons (deepV_noH _ _ rfl) (mapO_cons (deepV_noH _ _ rfl) (mapO_cons (deepV_noH _ _ rfl) (mapO_cons (deepV_noH _ _ rfl) (mapO_cons (deepV_noH _ _ rfl) (mapO_cons (deep_row rfl lP nP2) (mapO_cons (deep_row rfl lQ nQ2) mapO_nil)))))))))) (mapO_cons (deepV_noH _ _ rfl) mapO_nil)) rfl, ?_⟩; (conv => whnf); (try (refine ⟨by kernel_rfl, ?_⟩; conv => whnf))
        cases hf : fitsB (g.at' N s) x with
        | true =>
          rw [if_pos hf] at st nx
          have xc2 : QD.cells { x with t := N } = [nI .i64 x.id, nI .i64 x.v, nI .i64 x.ch, nI .i64 N] := rfl
          conv => whnf
          try (refine ⟨by kernel_rfl, ?_⟩; conv => whnf)
          refine .ownAs 1 (QD.cells { x with t := N }) rfl rfl ?_
          conv => whnf
          try (refine ⟨by kernel_rfl, ?_⟩; conv => whnf)
          refine onlyIf_intro (by show (Nat.beq (rows QD.cells s.past).length (s.past.length * 4) && _) = true; rw [lP]; simp [maxLen]; omega) ?_
          refine .ownAs (s.past.length + 1) (rows QD.cells (s.past ++ [{ x with t := N }])) rfl (by rw [rows_app, rows_one]) ?_
          conv => whnf
          try (refine ⟨by kernel_rfl, ?_⟩; conv => whnf)
          refine .ownAs 1 [nI .i64 x.id] rfl rfl ?_
          conv => whnf
          try (refine ⟨by kernel_rfl, ?_⟩; conv => whnf)
          refine onlyIf_intro (by show (Nat.beq (intsC s.out).length _ && _) = true; rw [lO]; simp [maxLen]; omega) ?_
          refine .ownAs (s.out.length + 1) (intsC (s.out ++ [x.id])) rfl (by unfold intsC; rw [List.map_append]; rfl) ?_
          conv => whnf
          try (refine ⟨by kernel_rfl, ?_⟩; conv => whnf)
          refine next_round (y := i) G0ok (i + 1) [(0, some 0), (1, some 1), (2, some 7), (3, some 3), (4, some 9)] rfl ⟨⟨_, rfl, conv_nI (ws_i64 (by omega) (by omega))⟩, ⟨_, rfl, conv_nI (rfl)⟩, ⟨_, rfl, conv_eq rfl (nQ)⟩, ⟨_, rfl, conv_slE rfl rfl (by rw [st, List.length_append]; rfl) rfl⟩, ⟨_, rfl, conv_nI (rfl)⟩, ⟨_, rfl, .same rfl⟩, ⟨_, rfl, .ptr rfl⟩, ⟨_, rfl, .ptr rfl⟩, trivial⟩ ⟨.inr ⟨_, _, rfl, rfl, .cons (.same rfl) (.cons (.same rfl) (.cons (.same rfl) (.cons (.same rfl) (.cons (.same rfl) (.cons (.same rfl) (.cons (.same rfl) (.cons (conv_slE rfl rfl (by rw [st, List.length_append]; rfl) rfl) (.cons (by rw [st]; exact .sl rfl) .nil))))))))⟩, .inr ⟨_, _, rfl, rfl, .same rfl⟩, .inr ⟨_, _, rfl, rfl, convs_eq (by rw [st]) (rowsQ_noHs _)⟩, .inr ⟨_, _, rfl, rfl, convs_eq (by rw [st]) (rowsQ_noHs _)⟩, .inr ⟨_, _, rfl, rfl, convs_eq (by rw [st]) (intsC_noHs _)⟩, trivial⟩ ⟨hc, by rw [st]; exact nx⟩ (by omega)
        | false =>
          rw [if_neg (by rw [hf]; decide)] at st nx
          conv => whnf
          try (refine ⟨by kernel_rfl, ?_⟩; conv => whnf)
          refine .ownAs 1 x.cells rfl (by rw [xc]; rfl) ?_
          conv => whnf
          try (refine ⟨by kernel_rfl, ?_⟩; conv => whnf)
          refine onlyIf_intro (by show (Nat.beq (rows QD.cells s.queue).length (s.queue.length * 4) && _) = true; rw [lQ]; simp [maxLen]; omega) ?_
          refine .ownAs (s.queue.length + 1) (rows QD.cells (s.queue ++ [x])) rfl (by rw [rows_app, rows_one]) ?_
          conv => whnf
          try (refine ⟨by kernel_rfl, ?_⟩; conv => whnf)
          refine next_round (y := i) G0ok (i + 1) [(0, some 0), (1, some 1), (2, some 2), (3, some 7), (4, some 4)] rfl ⟨⟨_, rfl, conv_nI (ws_i64 (by omega) (by omega))⟩, ⟨_, rfl, conv_nI (rfl)⟩, ⟨_, rfl, conv_eq rfl (nQ)⟩, ⟨_, rfl, conv_slE rfl rfl (by rw [st]) rfl⟩, ⟨_, rfl, conv_nI (rfl)⟩, ⟨_, rfl, .same rfl⟩, ⟨_, rfl, .ptr rfl⟩, ⟨_, rfl, .ptr rfl⟩, trivial⟩ ⟨.inr ⟨_, _, rfl, rfl, .cons (.same rfl) (.cons (.same rfl) (.cons (.same rfl) (.cons (.same rfl) (.cons (.same rfl) (.cons (.same rfl) (.cons (.same rfl) (.cons (by rw [st]; exact .sl rfl) (.cons (conv_slE rfl rfl (by rw [st, List.length_append]; rfl) rfl) .nil))))))))⟩, .inr ⟨_, _, rfl, rfl, .same rfl⟩, .inr ⟨_, _, rfl, rfl, convs_eq (by rw [st]) (rowsQ_noHs _)⟩, .inr ⟨_, _, rfl, rfl, convs_eq (by rw [st]) (rowsQ_noHs _)⟩, .inr ⟨_, _, rfl, rfl, convs_eq (by rw [st]) (intsC_noHs _)⟩, trivial⟩ ⟨hc, by rw [st]; exact nx⟩ (by omega)
    · have hc := of_decide_eq_false hc
      have e : i = g.queue.length := by omega
      subst e
      refine gen_ex (tkRun g N g.queue.length) fun s es => ?_
      rw [← es] at hok ⊢
      have lP : (rows QD.cells s.past).length = s.past.length * 4 := rows_length (w := 4) fun a _ => rfl
      have lQ : (rows QD.cells s.queue).length = s.queue.length * 4 := rows_length (w := 4) fun a _ => rfl
      have lO : (intsC s.out).length = s.out.length * 1 := by rw [Nat.mul_one]; exact List.length_map _
      have nP2 := rowsQ_noHs s.past
      have nQ2 := rowsQ_noHs s.queue
      conv => whnf
      try (refine ⟨by kernel_rfl, ?_⟩; conv => whnf)
      exact ⟨_, rfl, deep_tup (mapO_cons (deep_agg rfl (mapO_cons (deepV_noH _ _ rfl) (mapO_cons (deepV_noH _ _ rfl) (mapO_cons (deepV_noH _ _ rfl) (mapO_cons (deepV_noH _ _ rfl) (mapO_cons (deepV_noH _ _ rfl) (mapO_cons (deepV_noH _ _ rfl) (mapO_cons (deepV_noH _ _ rfl) (mapO_cons (deep_row rfl lP nP2) (mapO_cons (deep_row rfl lQ nQ2) mapO_nil)))))))))) (mapO_cons (deep_row rfl lO (intsC_noHs _)) (mapO_cons (deepV_noH _ _ rfl) mapO_nil)))⟩
end Go.Proofs.Ytilmfdlonpjjiaa
namespace Go.Proofs.Ytilmfdlonpjjiaa
set_option linter.unusedVariables false
set_option linter.unusedSimpArgs false
set_option linter.unusedSectionVars false
open Go.ChangeShapes Go.WideShapes Go.ChangeAt Go.RowKit Go.Joins
theorem getD_of {L : List QD} {i : Nat} (h : i < L.length) : L.getD i qz = L[i] := by rw [List.getD_eq_getElem?_getD, List.getElem?_eq_getElem h]; rfl
theorem difTo_iff {L : List QD} {x : QD} : ∀ n, n ≤ L.length → (difTo L x n = true ↔ ∀ y ∈ L.take n, x.id ≠ y.id)
  | 0, _ => by simp [difTo]
  | n + 1, h => by
    have hn : n < L.length := h
    have ih := difTo_iff (L := L) (x := x) n (Nat.le_of_lt hn)
    unfold difTo
    rw [List.take_add_one, List.getElem?_eq_getElem hn, getD_of hn, Bool.and_eq_true, ih, decide_eq_true_eq]
    constructor
    · rintro ⟨h1, h2⟩ y hy
      rcases List.mem_append.1 hy with hy | hy
      · exact h1 y hy
      · have : y = L[n] := by simpa using hy
        rw [this]; exact h2
    · intro h1
      exact ⟨fun y hy => h1 y (List.mem_append_left _ hy), h1 _ (List.mem_append_right _ (by simp))⟩
theorem rowsOk_iff {g : GtD} {L : List QD} : ∀ n, n ≤ L.length → (rowsOk g L n = true ↔ limTo g 3 = true ∧ (∀ q ∈ L.take n, qOk g.now q = true) ∧ ((L.take n).map QD.id).Nodup)
  | 0, _ => by simp [rowsOk]
  | n + 1, h => by
    have hn : n < L.length := h
    have ih := rowsOk_iff (g := g) (L := L) n (Nat.le_of_lt hn)
    have dj := difTo_iff (L := L) (x := L[n]) n (Nat.le_of_lt hn)
    unfold rowsOk
    rw [getD_of hn, Bool.and_eq_true, Bool.and_eq_true, ih, dj, List.take_add_one, List.getElem?_eq_getElem hn]
    simp only [Option.toList_some, List.mem_append, List.mem_singleton, List.map_append, List.map_cons, List.map_nil, List.nodup_append, List.nodup_cons, List.not_mem_nil, not_false_eq_true, List.nodup_nil, and_self, and_true, true_and, List.mem_map]
    constructor
    · rintro ⟨⟨⟨h1, h2, h3⟩, h4⟩, h5⟩
      refine ⟨h1, fun q hq => hq.elim (h2 q) fun e => by rw [e]; exact h4, h3, ?_⟩
      rintro a ⟨y, hy, rfl⟩ b rfl e
      exact h5 y hy e.symm
    · rintro ⟨h1, h2, h3, h4⟩
      exact ⟨⟨⟨h1, fun q hq => h2 q (.inl hq), h3⟩, h2 _ (.inr rfl)⟩, fun y hy e => h4 _ ⟨y, hy, rfl⟩ _ rfl e.symm⟩
theorem valB_iff {n : Int} : valB n = true ↔ 0 ≤ n ∧ n ≤ 1073741824 := by unfold valB; simp
theorem qOk_iff {now : Int} {q : QD} : qOk now q = true ↔ (0 ≤ q.v ∧ q.v ≤ 1073741824) ∧ (0 ≤ q.ch ∧ q.ch < 3) ∧ 0 ≤ q.t ∧ q.t ≤ now := by
  unfold qOk
  simp only [Bool.and_eq_true, decide_eq_true_eq, valB_iff]
  constructor
  · rintro ⟨h1, h2, h3, h4, h5⟩; exact ⟨h1, ⟨h2, h3⟩, h4, h5⟩
  · rintro ⟨h1, ⟨h2, h3⟩, h4, h5⟩; exact ⟨h1, h2, h3, h4, h5⟩
theorem limTo_iff {g : GtD} : limTo g 3 = true ↔ (0 ≤ g.now ∧ g.now ≤ 1099511627776) ∧ (∀ c, 0 ≤ g.lim c ∧ g.lim c ≤ 1073741824) ∧ ∀ c, 0 ≤ g.big c ∧ g.big c ≤ 1073741824 := by
  have e : limTo g 3 = ((((decide (g.now ≥ 0) && decide (g.now ≤ 1099511627776)) && (valB g.l0 && valB g.b0)) && (valB g.l1 && valB g.b1)) && (valB g.l2 && valB g.b2)) := rfl
  rw [e]
  simp only [Bool.and_eq_true, decide_eq_true_eq, valB_iff]
  constructor
  · rintro ⟨⟨⟨⟨h1, h2⟩, h3, h4⟩, h5, h6⟩, h7, h8⟩
    refine ⟨⟨h1, h2⟩, fun c => ?_, fun c => ?_⟩
    · unfold GtD.lim; split; exact h3; split; exact h5; exact h7
    · unfold GtD.big; split; exact h4; split; exact h6; exact h8
  · rintro ⟨⟨h1, h2⟩, h3, h4⟩
    exact ⟨⟨⟨⟨h1, h2⟩, h3 0, h4 0⟩, h3 1, h4 1⟩, h3 2, h4 2⟩
/-- A gate that may be. -/
theorem chk_iff {g : GtD} : chkGt g = 0 ↔ GtOk g ∧ ((g.past ++ g.queue).map QD.id).Nodup := by
  have r := rowsOk_iff (g := g) (L := g.past ++ g.queue) (g.past ++ g.queue).length (Nat.le_refl _)
  rw [List.take_length] at r
  unfold chkGt
  constructor
  · intro h
    split at h
    · cases h
    · rename_i hl
      split at h
      · rename_i hr
        obtain ⟨h1, h2, h3⟩ := r.1 hr
        obtain ⟨g1, g2, g3⟩ := limTo_iff.1 h1
        exact ⟨⟨by omega, by omega, g1, g2, g3, fun q hq => qOk_iff.1 (h2 q (List.mem_append.2 hq))⟩, h3⟩
      · cases h
  · rintro ⟨ok, nd⟩
    have h1 := ok.lp
    have h2 := ok.lq
    rw [if_neg (by omega), if_pos (r.2 ⟨limTo_iff.2 ⟨ok.now, ok.lim, ok.big⟩, fun q hq => qOk_iff.2 (ok.row q (List.mem_append.1 hq)), nd⟩)]
/-- What a gate at work holds, told apart. -/
theorem tk_perm {g : GtD} {N : Int} : ∀ i, i ≤ g.queue.length → ((tkRun g N i).out ++ (tkRun g N i).queue.map QD.id).Perm ((g.queue.take i).map QD.id)
  | 0, _ => by rw [List.take_zero]; exact List.Perm.refl _
  | i + 1, h => by
    have hc : i < g.queue.length := h
    have ih := tk_perm (g := g) (N := N) i (Nat.le_of_lt hc)
    rw [tkRun_succ g N hc, List.take_add_one, List.getElem?_eq_getElem hc, List.map_append]
    show (_ : List Int).Perm ((g.queue.take i).map QD.id ++ [g.queue[i].id])
    refine List.Perm.trans ?_ (List.Perm.append_right _ ih)
    unfold tkStep
    have mid : ∀ (a b : List Int) (x : Int), (a ++ [x] ++ b).Perm (a ++ b ++ [x]) := fun a b x => by
      rw [List.append_assoc, List.append_assoc]
      exact List.Perm.append_left _ List.perm_append_comm
    split
    · exact mid _ _ _
    · split
      · exact mid _ _ _
      · dsimp only
        rw [List.map_append, ← List.append_assoc]
        exact List.Perm.refl _
theorem tk_past {g : GtD} {N : Int} : ∀ i, i ≤ g.queue.length → ∀ q ∈ (tkRun g N i).past, (q ∈ g.past ∧ N - q.t < 24) ∨ (q.id ∈ (tkRun g N i).out ∧ q.t = N ∧ ∃ x ∈ g.queue, x.id = q.id ∧ x.v = q.v ∧ x.ch = q.ch ∧ N - x.t < 24)
  | 0, _ => fun q hq => by
    have := List.mem_filter.1 hq
    exact .inl ⟨this.1, of_decide_eq_true this.2⟩
  | i + 1, h => by
    have hc : i < g.queue.length := h
    have ih := tk_past (g := g) (N := N) i (Nat.le_of_lt hc)
    rw [tkRun_succ g N hc]
    unfold tkStep
    split
    · intro q hq
      rcases ih q hq with h1 | ⟨h1, h2⟩
      · exact .inl h1
      · exact .inr ⟨List.mem_append_left _ h1, h2⟩
    · rename_i h24
      split
      · intro q hq
        rcases List.mem_append.1 hq with hq | hq
        · rcases ih q hq with h1 | ⟨h1, h2⟩
          · exact .inl h1
          · exact .inr ⟨List.mem_append_left _ h1, h2⟩
        · rw [List.mem_singleton.1 hq]
          exact .inr ⟨List.mem_append_right _ (by simp), rfl, g.queue[i], List.getElem_mem hc, rfl, rfl, rfl, by omega⟩
      · intro q hq
        rcases ih q hq with h1 | h1
        · exact .inl h1
        · exact .inr h1
theorem tk_queue {g : GtD} {N : Int} : ∀ i, i ≤ g.queue.length → ∀ q ∈ (tkRun g N i).queue, q ∈ g.queue
  | 0, _ => fun q hq => by cases hq
  | i + 1, h => by
    have hc : i < g.queue.length := h
    have ih := tk_queue (g := g) (N := N) i (Nat.le_of_lt hc)
    rw [tkRun_succ g N hc]
    unfold tkStep
    split
    · exact ih
    · split
      · exact ih
      · intro q hq
        rcases List.mem_append.1 hq with hq | hq
        · exact ih q hq
        · rw [List.mem_singleton.1 hq]; exact List.getElem_mem hc
theorem tk_all {g : GtD} {N : Int} (ok : GtOk g) (hN : g.now ≤ N) : ∀ i, i ≤ g.queue.length → TkOk g N i (tkRun g N i)
  | 0, _ => tk_first ok hN
  | i + 1, h => tk_next (tk_all ok hN i (Nat.le_of_succ_le h)) ok hN h
/-- The ids of what a gate holds stay apart. -/
theorem tk_nodup {g : GtD} {N : Int} (nd : ((g.past ++ g.queue).map QD.id).Nodup) : ∀ i, i ≤ g.queue.length → (((tkRun g N i).past ++ ((tkRun g N i).queue ++ g.queue.drop i)).map QD.id).Nodup
  | 0, _ => by
    rw [List.drop_zero]
    refine List.Nodup.sublist ?_ nd
    exact List.Sublist.map _ (List.Sublist.append (l₁ := keptP g.past N) (r₁ := [] ++ g.queue) List.filter_sublist (List.Sublist.refl _))
  | i + 1, h => by
    have hc : i < g.queue.length := h
    have ih := tk_nodup (N := N) nd i (Nat.le_of_lt hc)
    rw [List.drop_eq_getElem_cons hc] at ih
    rw [tkRun_succ g N hc]
    unfold tkStep
    split
    · refine List.Nodup.sublist ?_ ih
      simp only [List.map_append, List.map_cons]
      exact List.Sublist.append_left (List.Sublist.append_left (List.sublist_cons_self _ _) _) _
    · split
      · refine (List.Perm.nodup_iff ?_).1 ih
        simp only [List.map_append, List.map_cons, List.map_nil]
        refine List.Perm.trans ?_ (List.Perm.of_eq (List.append_assoc _ _ _).symm)
        refine List.Perm.append_left _ ?_
        exact List.perm_middle
      · dsimp only
        rw [List.append_assoc]
        exact ih
theorem tick_ok {g : GtD} {h : Int} (ck : chkGt g = 0) (hr : 1 ≤ h ∧ g.now + h ≤ 1099511627776) : chkGt (tickG g h) = 0 := by
  obtain ⟨ok, nd⟩ := chk_iff.1 ck
  have n0 := ok.now.1
  have t := tk_all ok (N := g.now + h) (by omega) g.queue.length (Nat.le_refl _)
  have n := tk_nodup (N := g.now + h) nd g.queue.length (Nat.le_refl _)
  rw [List.drop_length, List.append_nil] at n
  refine chk_iff.2 ⟨⟨t.lp, Nat.le_trans t.lq ok.lq, ⟨by show 0 ≤ g.now + h; omega, hr.2⟩, ok.lim, ok.big, t.row⟩, n⟩
end Go.Proofs.Ytilmfdlonpjjiaa
namespace Go.Proofs.Ytilmfdlonpjjiaa
set_option linter.unusedVariables false
set_option linter.unusedSimpArgs false
set_option linter.unusedSectionVars false
open Go.ChangeShapes Go.WideShapes Go.ChangeAt Go.RowKit Go.Joins
set_option maxRecDepth 10000
/-- What passes: an hour, and what passed or was let go in it. -/
structure PaD where
  id : Int
  v : Int
  ch : Int
  t : Int
  held : Bool
def PaD.cells (p : PaD) : List VV := [nI .i64 p.id, nI .i64 p.v, nI .i64 p.ch, nI .i64 p.t, bI p.held]
theorem pad_noHs (p : PaD) : noHs p.cells = true := rfl
def entP (p : PaD) : VV := ent .i64 p.id (.agg p.cells)
theorem entP_noHs (l : List PaD) : noHs (l.map entP) = true := noHs_map (fun _ => rfl) l
theorem mfind_none {l : List PaD} {z : Int} (h : ∀ p ∈ l, p.id ≠ z) : MFind .i64 z (l.map entP) none := fun j c hc => by
  rw [List.getElem?_map] at hc
  obtain ⟨p, hp, rfl⟩ := Option.map_eq_some_iff.1 hc
  exact ⟨p.id, _, rfl, h p (List.mem_of_getElem? hp)⟩
theorem mfind_some : ∀ {l : List PaD} {z : Int} {p : PaD}, l.find? (fun p => p.id == z) = some p → ∃ j, MFind .i64 z (l.map entP) (some (j, .agg p.cells))
  | [], z, p, h => by cases h
  | a :: l, z, p, h => by
    rw [List.find?_cons] at h
    by_cases e : a.id = z
    · rw [show (a.id == z) = true from by rw [beq_iff_eq]; exact e] at h
      cases h
      exact ⟨0, by subst e; rfl, fun j hj => absurd hj (Nat.not_lt_zero _)⟩
    · rw [show (a.id == z) = false from by rw [beq_eq_false_iff_ne]; exact e] at h
      obtain ⟨j, h1, h2⟩ := mfind_some h
      refine ⟨j + 1, by simpa using h1, fun i hi => ?_⟩
      cases i with
      | zero => exact ⟨a.id, _, rfl, e⟩
      | succ i => obtain ⟨y, v, h3, h4⟩ := h2 i (by omega); exact ⟨y, v, by simpa using h3, h4⟩
structure OpS where
  g : GtD
  out : List PaD
  ids : List PaD
def pz : PaD := ⟨0, 0, 0, 0, false⟩
def getP (l : List PaD) (z : Int) : PaD := (l.find? fun p => p.id == z).getD pz
def relP (N : Int) (p : PaD) : PaD := { p with held := decide (N - p.t ≥ 24), t := N }
def offX (g : GtD) (i : Nat) (r : RawD) : QD := ⟨i, r.a % 70, r.b % 3, g.now⟩
def offP (g : GtD) (i : Nat) (r : RawD) : PaD := ⟨i, r.a % 70, r.b % 3, g.now, false⟩
open Classical in
noncomputable def opStep (s : OpS) (i : Nat) (r : RawD) : OpS :=
  if r.k % 3 = 0 then ⟨tickG s.g (1 + r.a % 9), s.out ++ (tickS s.g (1 + r.a % 9)).out.map fun z => relP (s.g.now + (1 + r.a % 9)) (getP s.ids z), s.ids⟩
  else if fitsB s.g (offX s.g i r) = true then ⟨{ s.g with past := s.g.past ++ [offX s.g i r] }, s.out ++ [offP s.g i r], s.ids ++ [offP s.g i r]⟩
  else ⟨{ s.g with queue := s.g.queue ++ [offX s.g i r] }, s.out, s.ids ++ [offP s.g i r]⟩
def rz0 : RawD := ⟨0, 0, 0, ByteArray.empty⟩
noncomputable def opRun (g : GtD) (l : List RawD) : Nat → OpS
  | 0 => ⟨g, [], []⟩
  | i + 1 => opStep (opRun g l i) i (l.getD i rz0)
/-- What is known of a gate that was opened. -/
structure OpOk (g0 : GtD) (i : Nat) (s : OpS) : Prop where
  chk : chkGt s.g = 0
  lim : ∀ c, s.g.lim c = g0.lim c ∧ s.g.big c = g0.big c
  now : g0.now ≤ s.g.now ∧ s.g.now ≤ g0.now + 9 * (i : Int)
  ql : s.g.queue.length ≤ i
  il : s.ids.length ≤ i
  ids : ∀ p ∈ s.ids, 0 ≤ p.id ∧ p.id < (i : Int)
  past : ∀ q ∈ s.g.past, 0 ≤ q.id ∧ q.id < (i : Int)
  found : ∀ q ∈ s.g.queue, ∃ p, s.ids.find? (fun p => p.id == q.id) = some p ∧ p.v = q.v ∧ p.ch = q.ch ∧ p.t = q.t ∧ p.id = q.id
  nd : (s.ids.map PaD.id).Nodup
  perm : (s.out.map PaD.id ++ s.g.queue.map QD.id).Perm (s.ids.map PaD.id)
theorem op_first {g : GtD} (h : chkGt g = 0) (hq : g.queue = []) (hp : g.past = []) : OpOk g 0 ⟨g, [], []⟩ :=
  { chk := h
    lim := fun _ => ⟨rfl, rfl⟩
    now := ⟨Int.le_refl _, by show g.now ≤ g.now + 9 * ((0 : Nat) : Int); omega⟩
    ql := by show g.queue.length ≤ 0; rw [hq]; exact Nat.le_refl _
    il := Nat.le_refl _
    ids := fun p hp => by cases hp
    past := fun q hh => by
      have hh : q ∈ g.past := hh
      rw [hp] at hh; cases hh
    found := fun q hh => by
      have hh : q ∈ g.queue := hh
      rw [hq] at hh; cases hh
    nd := List.nodup_nil
    perm := by show ([] ++ g.queue.map QD.id).Perm []; rw [hq]; exact List.Perm.refl _ }
theorem getP_of {l : List PaD} {z : Int} {p : PaD} (h : l.find? (fun p => p.id == z) = some p) : getP l z = p := by unfold getP; rw [h]; rfl
theorem tick_out_mem {g : GtD} {h z : Int} (hz : z ∈ (tickS g h).out) : ∃ q ∈ g.queue, q.id = z := by
  have p := tk_perm (g := g) (N := g.now + h) g.queue.length (Nat.le_refl _)
  rw [List.take_length] at p
  have := (p.mem_iff (a := z)).1 (List.mem_append_left _ hz)
  obtain ⟨q, h1, h2⟩ := List.mem_map.1 this
  exact ⟨q, h1, h2⟩
theorem op_next {g0 : GtD} {i : Nat} {s : OpS} {r : RawD} (h : OpOk g0 i s) (hi : i < 40) (h0 : 0 ≤ g0.now ∧ g0.now ≤ 50) : OpOk g0 (i + 1) (opStep s i r) := by
  obtain ⟨n1, n2⟩ := h.now
  obtain ⟨ok, nd⟩ := chk_iff.1 h.chk
  unfold opStep
  have wk : ∀ (x : Int), x < (i : Int) → x < ((i + 1 : Nat) : Int) := fun x hx => by omega
  split
  · have hh : 1 ≤ 1 + r.a % 9 ∧ 1 + r.a % 9 ≤ 9 := by omega
    have tp := tk_past (g := s.g) (N := s.g.now + (1 + r.a % 9)) s.g.queue.length (Nat.le_refl _)
    have tq := tk_queue (g := s.g) (N := s.g.now + (1 + r.a % 9)) s.g.queue.length (Nat.le_refl _)
    have tm := tk_perm (g := s.g) (N := s.g.now + (1 + r.a % 9)) s.g.queue.length (Nat.le_refl _)
    have ta := tk_all ok (N := s.g.now + (1 + r.a % 9)) (by omega) s.g.queue.length (Nat.le_refl _)
    rw [List.take_length] at tm
    have outid : ∀ z ∈ (tickS s.g (1 + r.a % 9)).out, (relP (s.g.now + (1 + r.a % 9)) (getP s.ids z)).id = z := fun z hz => by
      obtain ⟨q, hq, rfl⟩ := tick_out_mem hz
      obtain ⟨p, hp, _, _, _, e⟩ := h.found q hq
      rw [getP_of hp]
      exact e
    refine ⟨tick_ok h.chk ⟨hh.1, by omega⟩, fun c => h.lim c, ⟨by show g0.now ≤ s.g.now + _; omega, by show s.g.now + (1 + r.a % 9) ≤ _; push_cast; omega⟩, Nat.le_trans ta.lq (Nat.le_succ_of_le h.ql), Nat.le_succ_of_le h.il, fun p hp => ⟨(h.ids p hp).1, wk _ (h.ids p hp).2⟩, fun q hq => ?_, fun q hq => h.found q (tq q hq), h.nd, ?_⟩
    · rcases tp q hq with ⟨h1, _⟩ | ⟨_, _, x, hx, e, _⟩
      · exact ⟨(h.past q h1).1, wk _ (h.past q h1).2⟩
      · obtain ⟨p, hp, _, _, _, e2⟩ := h.found x hx
        have := h.ids p (List.mem_of_find?_eq_some hp)
        rw [← e, ← e2]
        exact ⟨this.1, wk _ this.2⟩
    · show ((s.out ++ _).map PaD.id ++ ((tkRun s.g (s.g.now + (1 + r.a % 9)) s.g.queue.length).queue).map QD.id).Perm _
      rw [List.map_append, List.map_map, List.append_assoc]
      refine List.Perm.trans ?_ h.perm
      refine List.Perm.append_left _ ?_
      refine List.Perm.trans ?_ tm
      refine List.Perm.append_right _ (List.Perm.of_eq ?_)
      refine (List.map_congr_left fun z hz => ?_).trans (List.map_id _)
      exact outid z hz
  · have xb : (0 ≤ r.a % 70 ∧ r.a % 70 < 70) ∧ 0 ≤ r.b % 3 ∧ r.b % 3 < 3 := by omega
    have rowx : (0 ≤ (offX s.g i r).v ∧ (offX s.g i r).v ≤ 1073741824) ∧ (0 ≤ (offX s.g i r).ch ∧ (offX s.g i r).ch < 3) ∧ 0 ≤ (offX s.g i r).t ∧ (offX s.g i r).t ≤ s.g.now := ⟨⟨xb.1.1, by show r.a % 70 ≤ _; omega⟩, xb.2, ok.now.1, Int.le_refl _⟩
    have ipq : ∀ q, q ∈ s.g.past ∨ q ∈ s.g.queue → q.id < (i : Int) := fun q hq => by
      rcases hq with hq | hq
      · exact (h.past q hq).2
      · obtain ⟨p, hp, _, _, _, e⟩ := h.found q hq
        rw [← e]
        exact (h.ids p (List.mem_of_find?_eq_some hp)).2
    have ndi : ((s.ids ++ [offP s.g i r]).map PaD.id).Nodup := by
      rw [List.map_append, List.nodup_append]
      refine ⟨h.nd, List.nodup_cons.2 ⟨by simp, List.nodup_nil⟩, fun a ha b hb e => ?_⟩
      obtain ⟨p, hp, rfl⟩ := List.mem_map.1 ha
      have hb : b = (offP s.g i r).id := by simpa using hb
      have hb : b = (i : Int) := hb
      have := (h.ids p hp).2
      omega
    have idn : ∀ p ∈ s.ids ++ [offP s.g i r], 0 ≤ p.id ∧ p.id < ((i + 1 : Nat) : Int) := fun p hp => by
      rcases List.mem_append.1 hp with hp | hp
      · exact ⟨(h.ids p hp).1, wk _ (h.ids p hp).2⟩
      · rw [List.mem_singleton.1 hp]
        exact ⟨by show (0 : Int) ≤ (i : Int); omega, by show (i : Int) < _; omega⟩
    have fnd : ∀ q ∈ s.g.queue, ∃ p, (s.ids ++ [offP s.g i r]).find? (fun p => p.id == q.id) = some p ∧ p.v = q.v ∧ p.ch = q.ch ∧ p.t = q.t ∧ p.id = q.id := fun q hq => by
      obtain ⟨p, hp, e⟩ := h.found q hq
      exact ⟨p, by rw [List.find?_append, hp]; rfl, e⟩
    have ndg : ∀ (a b c : List QD), a ++ b = s.g.past ++ s.g.queue → c.Perm (a ++ ([offX s.g i r] ++ b)) → (c.map QD.id).Nodup := fun a b c e1 e2 => by
      refine (List.Perm.nodup_iff (e2.map QD.id)).2 ?_
      have : (a ++ ([offX s.g i r] ++ b)).Perm ([offX s.g i r] ++ (a ++ b)) := by
        rw [← List.append_assoc, ← List.append_assoc]
        exact List.Perm.append_right _ List.perm_append_comm
      refine (List.Perm.nodup_iff (this.map QD.id)).2 ?_
      rw [e1]
      show ((i : Int) :: (s.g.past ++ s.g.queue).map QD.id).Nodup
      rw [List.nodup_cons]
      refine ⟨fun hm => ?_, nd⟩
      obtain ⟨q, hq, e⟩ := List.mem_map.1 hm
      have := ipq q (List.mem_append.1 hq)
      omega
    split
    · rename_i hf
      have hl : s.g.past.length < 40 := by
        unfold fitsB at hf
        simp only [Bool.and_eq_true, decide_eq_true_eq] at hf
        exact hf.2.2
      refine ⟨chk_iff.2 ⟨⟨by show (s.g.past ++ [_]).length ≤ 40; rw [List.length_append]; exact hl, ok.lq, ok.now, ok.lim, ok.big, fun q hq => ?_⟩, ?_⟩, fun c => h.lim c, ⟨n1, by show s.g.now ≤ _; push_cast; omega⟩, Nat.le_succ_of_le h.ql, by show (s.ids ++ [_]).length ≤ _; rw [List.length_append]; exact Nat.succ_le_succ h.il, idn, fun q hq => ?_, fnd, ndi, ?_⟩
      · rcases hq with hq | hq
        · rcases List.mem_append.1 hq with hq | hq
          · exact ok.row q (.inl hq)
          · rw [List.mem_singleton.1 hq]; exact rowx
        · exact ok.row q (.inr hq)
      · exact ndg s.g.past s.g.queue _ rfl (by show ((s.g.past ++ [_]) ++ s.g.queue).Perm _; rw [List.append_assoc])
      · rcases List.mem_append.1 hq with hq | hq
        · exact ⟨(h.past q hq).1, wk _ (h.past q hq).2⟩
        · rw [List.mem_singleton.1 hq]
          exact ⟨by show (0 : Int) ≤ (i : Int); omega, by show (i : Int) < _; omega⟩
      · show ((s.out ++ [_]).map PaD.id ++ s.g.queue.map QD.id).Perm ((s.ids ++ [_]).map PaD.id)
        rw [List.map_append, List.map_append]
        refine List.Perm.trans ?_ (List.Perm.append_right _ h.perm)
        rw [List.append_assoc, List.append_assoc]
        exact List.Perm.append_left _ List.perm_append_comm
    · refine ⟨chk_iff.2 ⟨⟨ok.lp, by show (s.g.queue ++ [_]).length ≤ 40; rw [List.length_append]; have := h.ql; show s.g.queue.length + 1 ≤ 40; omega, ok.now, ok.lim, ok.big, fun q hq => ?_⟩, ?_⟩, fun c => h.lim c, ⟨n1, by show s.g.now ≤ _; push_cast; omega⟩, by show (s.g.queue ++ [_]).length ≤ _; rw [List.length_append]; exact Nat.succ_le_succ h.ql, by show (s.ids ++ [_]).length ≤ _; rw [List.length_append]; exact Nat.succ_le_succ h.il, idn, fun q hq => ⟨(h.past q hq).1, wk _ (h.past q hq).2⟩, fun q hq => ?_, ndi, ?_⟩
      · rcases hq with hq | hq
        · exact ok.row q (.inl hq)
        · rcases List.mem_append.1 hq with hq | hq
          · exact ok.row q (.inr hq)
          · rw [List.mem_singleton.1 hq]; exact rowx
      · exact ndg (s.g.past ++ s.g.queue) [] _ (List.append_nil _) (by show (s.g.past ++ (s.g.queue ++ [_])).Perm _; rw [List.append_nil, List.append_assoc])
      · rcases List.mem_append.1 hq with hq | hq
        · exact fnd q hq
        · rw [List.mem_singleton.1 hq]
          refine ⟨offP s.g i r, ?_, rfl, rfl, rfl, rfl⟩
          rw [List.find?_append, List.find?_eq_none.2 fun p hp => ?_, Option.none_or]
          · show (List.find? (fun p => p.id == (offX s.g i r).id) [offP s.g i r]) = _
            rw [List.find?_cons, show ((offP s.g i r).id == (offX s.g i r).id) = true from beq_self_eq_true _]
          · have h1 := (h.ids p hp).2
            have h2 : (offX s.g i r).id = (i : Int) := rfl
            simp only [beq_iff_eq]
            omega
      · show (s.out.map PaD.id ++ (s.g.queue ++ [_]).map QD.id).Perm ((s.ids ++ [_]).map PaD.id)
        rw [List.map_append, List.map_append, ← List.append_assoc]
        exact List.Perm.append_right _ h.perm
end Go.Proofs.Ytilmfdlonpjjiaa
namespace Go.Proofs.Ytilmfdlonpjjiaa
set_option linter.unusedVariables false
set_option linter.unusedSimpArgs false
set_option linter.unusedSectionVars false
open Go.ChangeShapes Go.WideShapes Go.ChangeAt Go.RowKit Go.Joins
set_option maxRecDepth 10000
theorem op_all {g : GtD} {M : List RawD} (ck : chkGt g = 0) (hq : g.queue = []) (hp : g.past = []) (hn : g.now ≤ 50) : ∀ i, i ≤ 40 → OpOk g i (opRun g M i)
  | 0, _ => op_first ck hq hp
  | i + 1, h => op_next (op_all ck hq hp hn i (Nat.le_of_succ_le h)) h ⟨(chk_iff.1 ck).1.now.1, hn⟩
theorem rowsPa_noHs (l : List PaD) : noHs (rows PaD.cells l) = true := rows_noHs pad_noHs l
theorem mapTyP : MapTy Try.prog 100 3 53 .i64 := ⟨Try.underlying100, Try.underlying3⟩
theorem zeroP : ZeroIs Try.prog 53 (.agg pz.cells) := ⟨.agg #[.int .i64 0, .int .i64 0, .int .i64 0, .int .i64 0, .bool false], fun w => by kernel_rfl, fun E => by
  simp only [VR]
  exact ⟨[.int .i64 0, .int .i64 0, .int .i64 0, .int .i64 0, .bool false], rfl, VRs.cons rfl (VRs.cons rfl (VRs.cons rfl (VRs.cons rfl (VRs.cons rfl VRs.snoc_nil)))), fun u hu => by simp at hu; rcases hu with rfl | rfl <;> rfl⟩⟩
theorem opened_fn {fp fq f : Bool} {g : GtD} {l : List RawD} {most : Nat} (hl : l.length ≤ maxLen) (hm : most ≤ 40) (ck : chkGt g = 0) (hq : g.queue = []) (hp : g.past = []) (hn : g.now ≤ 50) (s : OpS) (es : s = opRun g (l.take most) (l.take most).length) :
    FnV Try.prog G0 18 [.agg (g.cells fp fq), .ds f l.length (rawsC l), nI .i64 most] (.tup [.agg (s.g.cells false false), .ds false s.out.length (rows PaD.cells s.out), bI true]) := by
  obtain ⟨f', so⟩ := some_fn f l most hl (by omega)
  have hM : (l.take most).length ≤ 40 := by rw [List.length_take]; omega
  refine gen_ex (l.take most) fun M eM => ?_
  rw [← eM] at hM so es
  clear eM
  subst es
  have al := fun i hi => op_all (M := M) ck hq hp hn i hi
  have nG := gtd_noHs fp fq g
  unfold GtD.cells at nG ⊢
  refine fn_of_vwp Γok Try.func18 (by kernel_rfl) rfl (by simp [Try.ntmps18]) (wpv_ok Γok (by kernel_rfl) _ _ _ ?_); conv => whnf
  refine ⟨_, ret_of_fn G0ok (so) (by first | rfl | simp only [noHs, noH, nI, bI, Bool.and_self, Bool.and_true, Bool.true_and, rawsC_noHs]) (by first | rfl | simp only [noHs, noH, nI, bI, Bool.and_self, Bool.and_true, Bool.true_and, rawsC_noHs]), ?_⟩; (conv => whnf); (try (refine ⟨by kernel_rfl, ?_⟩; conv => whnf))
  have nP := rowsQ_noHs g.past
  have nQ := rowsQ_noHs g.queue
  refine vloop_invK G0ok [(0, some 0), (1, some 1), (2, some 2), (3, none)] 4 (X := Nat) (fun i => [(30, nI .i64 i), (29, nI .i64 M.length), (28, .ds f' M.length (rawsC M)), (11, bI true), (10, .mp 2), (9, .sl 3 0 (opRun g M i).out.length 5), (8, bI false), (7, .ds true 0 []), (6, .ptr 1 0), (3, .ptr 0 0)])
    (fun i => [(0, some ((opRun g M i).g.cells false false)), (1, some [nI .i64 0, nI .i64 0, nI .i64 0, nI .i64 0, nI .i64 0, nI .i64 0, nI .i64 0, .ds true 0 [], .ds true 0 []]), (2, some ((opRun g M i).ids.map entP)), (3, some (rows PaD.cells (opRun g M i).out))]) (fun i => i ≤ M.length) (fun i => M.length - i) 0 rfl
    ⟨⟨_, rfl, conv_nI (rfl)⟩, ⟨_, rfl, conv_nI (rfl)⟩, ⟨_, rfl, conv_eq rfl (rawsC_noHs _)⟩, ⟨_, rfl, .same rfl⟩, ⟨_, rfl, .mp rfl⟩, ⟨_, rfl, .null rfl⟩, ⟨_, rfl, .same rfl⟩, ⟨_, rfl, .same rfl⟩, ⟨_, rfl, .ptr rfl⟩, ⟨_, rfl, .ptr rfl⟩, trivial⟩ ⟨.inr ⟨_, _, rfl, rfl, .cons (.same rfl) (.cons (.same rfl) (.cons (.same rfl) (.cons (.same rfl) (.cons (.same rfl) (.cons (.same rfl) (.cons (.same rfl) (.cons (.loose nP) (.cons (.loose nQ) .nil))))))))⟩, .inr ⟨_, _, rfl, rfl, .same rfl⟩, .inr ⟨_, _, rfl, rfl, .same rfl⟩, .inl ⟨rfl, rfl⟩, trivial⟩ (Nat.zero_le _) ?_
  intro i hi
  try dsimp only at hi ⊢
  have okn := al (i + 1)
  have st : opRun g M (i + 1) = opStep (opRun g M i) i (M.getD i rz0) := rfl
  have ok := al i (by omega)
  have il := ok.il
  have oul : (opRun g M i).out.length ≤ i := by have := ok.perm.length_eq; rw [List.length_append, List.length_map, List.length_map, List.length_map] at this; omega
  refine gen_ex (opRun g M i) fun s es => ?_
  rw [← es] at st ok il oul ⊢
  have gc : s.g.cells false false = [nI .i64 s.g.l0, nI .i64 s.g.l1, nI .i64 s.g.l2, nI .i64 s.g.b0, nI .i64 s.g.b1, nI .i64 s.g.b2, nI .i64 s.g.now, .ds false s.g.past.length (rows QD.cells s.g.past), .ds false s.g.queue.length (rows QD.cells s.g.queue)] := rfl
  have nG2 := gtd_noHs false false s.g
  refine wpv_ok Γok (by kernel_rfl) _ _ _ ?_; conv => whnf
  refine bool_cases (fun hc => ?_) (fun hc => ?_)
  · have hc := of_decide_eq_true hc
    have hc : i < M.length := by omega
    have okn := okn (by omega)
    have gd : M.getD i rz0 = M[i] := by rw [List.getD_eq_getElem?_getD, List.getElem?_eq_getElem hc]; rfl
    rw [gd] at st
    rw [st] at okn
    conv => whnf
    try (refine ⟨by kernel_rfl, ?_⟩; conv => whnf)
    refine bindP_intro (if_pos (inB_ok (by omega) (by omega))) ?_; conv => whnf
    refine bindP_intro (raw_load (i := i) rfl rfl rfl (by dsimp only; omega) hc) ?_
    refine gen_ex M[i] fun r er => ?_
    rw [← er] at st okn ⊢
    clear er gd
    have pk := picked_fn r.k 3 (by decide) (by decide)
    unfold RawD.v RawD.cells
    conv => whnf
    try (refine ⟨by kernel_rfl, ?_⟩; conv => whnf)
    refine ⟨_, ret_of_fn G0ok (pk) (by first | rfl | simp only [noHs, noH, nI, bI, Bool.and_self, Bool.and_true, Bool.true_and, ]) (by first | rfl | simp only [noHs, noH, nI, bI, Bool.and_self, Bool.and_true, Bool.true_and, ]), ?_⟩; (conv => whnf); (try (refine ⟨by kernel_rfl, ?_⟩; conv => whnf))
    by_cases k0 : r.k % 3 = 0
    · rw [show ((r.k % 3) == 0) = true from by rw [beq_iff_eq]; exact k0]
      have st : opRun g M (i + 1) = ⟨tickG s.g (1 + r.a % 9), s.out ++ (tickS s.g (1 + r.a % 9)).out.map fun z => relP (s.g.now + (1 + r.a % 9)) (getP s.ids z), s.ids⟩ := by rw [st]; unfold opStep; rw [if_pos k0]
      conv => whnf
      try (refine ⟨by kernel_rfl, ?_⟩; conv => whnf)
      have p9 := picked_fn r.a 9 (by decide) (by decide)
      refine ⟨_, ret_of_fn G0ok (p9) (by first | rfl | simp only [noHs, noH, nI, bI, Bool.and_self, Bool.and_true, Bool.true_and, ]) (by first | rfl | simp only [noHs, noH, nI, bI, Bool.and_self, Bool.and_true, Bool.true_and, ]), ?_⟩; (conv => whnf); (try (refine ⟨by kernel_rfl, ?_⟩; conv => whnf))
      obtain ⟨gok, _⟩ := chk_iff.1 ok.chk
      obtain ⟨n1, n2⟩ := ok.now
      rw [ws_i64 (x := 1 + r.a % 9) (by omega) (by omega)]
      have tk := gtick_ok (fp := false) (fq := false) (g := s.g) (h := 1 + r.a % 9) ok.chk gok ⟨by omega, by omega, by omega⟩
      have nG3 := gtd_noHs false false (tickG s.g (1 + r.a % 9))
      refine ⟨_, ret_of_fn G0ok (tk) (by first | rfl | simp only [noHs, noH, nI, bI, Bool.and_self, Bool.and_true, Bool.true_and, nG2, nG3, intsC_noHs]) (by first | rfl | simp only [noHs, noH, nI, bI, Bool.and_self, Bool.and_true, Bool.true_and, nG2, nG3, intsC_noHs]), ?_⟩; (conv => whnf); (try (refine ⟨by kernel_rfl, ?_⟩; conv => whnf))
      have eN : (tickG s.g (1 + r.a % 9)).now = s.g.now + (1 + r.a % 9) := rfl
      have outf : ∀ z ∈ (tickS s.g (1 + r.a % 9)).out, ∃ p, s.ids.find? (fun p => p.id == z) = some p ∧ 0 ≤ p.t ∧ p.t ≤ s.g.now := fun z hz => by
        obtain ⟨q, hq, rfl⟩ := tick_out_mem hz
        obtain ⟨p, h1, _, _, h2, _⟩ := ok.found q hq
        have := (gok.row q (.inr hq)).2.2
        exact ⟨p, h1, by rw [h2]; exact this.1, by rw [h2]; exact this.2⟩
      have oll : (tickS s.g (1 + r.a % 9)).out.length ≤ 40 := Nat.le_trans (tk_all gok (N := s.g.now + (1 + r.a % 9)) (by omega) s.g.queue.length (Nat.le_refl _)).lo gok.lq
      refine gen_ex (tickG s.g (1 + r.a % 9)) fun g2 eg2 => ?_
      rw [← eg2] at st eN nG3 tk ⊢
      refine gen_ex (tickS s.g (1 + r.a % 9)).out fun L eL => ?_
      rw [← eL] at st outf oll tk ⊢
      refine gen_ex (s.g.now + (1 + r.a % 9)) fun N eNN => ?_
      rw [← eNN] at st eN
      have gc2 : g2.cells false false = [nI .i64 g2.l0, nI .i64 g2.l1, nI .i64 g2.l2, nI .i64 g2.b0, nI .i64 g2.b1, nI .i64 g2.b2, nI .i64 g2.now, .ds false g2.past.length (rows QD.cells g2.past), .ds false g2.queue.length (rows QD.cells g2.queue)] := rfl
      clear tk eg2 eL
      refine vloop_invK G0ok [(0, some 0), (1, some 1), (2, some 2), (3, some 3), (4, some 5)] 5 (X := Nat) (fun j => [(55, nI .i64 j), (54, nI .i64 L.length), (53, .ds false L.length (intsC L)), (30, nI .i64 i), (29, nI .i64 M.length), (28, .ds f' M.length (rawsC M)), (14, .ptr 4 0), (11, bI true), (10, .mp 2), (9, .sl 3 0 (s.out ++ (L.take j).map fun z => relP N (getP s.ids z)).length 5), (8, bI false), (7, .ds true 0 []), (6, .ptr 1 0), (3, .ptr 0 0)])
        (fun j => [(0, some (s.g.cells false false)), (1, some [nI .i64 0, nI .i64 0, nI .i64 0, nI .i64 0, nI .i64 0, nI .i64 0, nI .i64 0, .ds true 0 [], .ds true 0 []]), (2, some (s.ids.map entP)), (3, some (rows PaD.cells (s.out ++ (L.take j).map fun z => relP N (getP s.ids z)))), (4, some (g2.cells false false))]) (fun j => j ≤ L.length) (fun j => L.length - j) 0 rfl
        ⟨⟨_, rfl, conv_nI (rfl)⟩, ⟨_, rfl, conv_nI (rfl)⟩, ⟨_, rfl, conv_eq rfl (intsC_noHs _)⟩, ⟨_, rfl, conv_nI (rfl)⟩, ⟨_, rfl, conv_nI (rfl)⟩, ⟨_, rfl, conv_eq rfl (rawsC_noHs _)⟩, ⟨_, rfl, .ptr rfl⟩, ⟨_, rfl, .same rfl⟩, ⟨_, rfl, .mp rfl⟩, ⟨_, rfl, conv_slE rfl rfl (by rw [List.take_zero, List.map_nil, List.append_nil]) rfl⟩, ⟨_, rfl, .same rfl⟩, ⟨_, rfl, .same rfl⟩, ⟨_, rfl, .ptr rfl⟩, ⟨_, rfl, .ptr rfl⟩, trivial⟩ ⟨.inr ⟨_, _, rfl, rfl, convs_eq rfl (nG2)⟩, .inr ⟨_, _, rfl, rfl, .same rfl⟩, .inr ⟨_, _, rfl, rfl, .same (entP_noHs _)⟩, .inr ⟨_, _, rfl, rfl, convs_eq (by rw [List.take_zero, List.map_nil, List.append_nil]) (rowsPa_noHs _)⟩, .inr ⟨_, _, rfl, rfl, convs_eq rfl (nG3)⟩, trivial⟩ (Nat.zero_le _) ?_
      intro j hj
      try dsimp only at hj ⊢
      rw [gc2]
      refine wpv_ok Γok (by kernel_rfl) _ _ _ ?_; conv => whnf
      refine bool_cases (fun hd => ?_) (fun hd => ?_)
      · have hd := of_decide_eq_true hd
        have hd : j < L.length := by omega
        obtain ⟨p, hp, ht1, ht2⟩ := outf _ (List.getElem_mem hd)
        obtain ⟨jj, hmf⟩ := mfind_some hp
        have sj : s.out ++ (L.take (j + 1)).map (fun z => relP N (getP s.ids z)) = (s.out ++ (L.take j).map fun z => relP N (getP s.ids z)) ++ [relP N p] := by rw [List.take_add_one, List.getElem?_eq_getElem hd, List.map_append, ← List.append_assoc]; show _ ++ [relP N (getP s.ids L[j])] = _; rw [getP_of hp]
        have lj : (s.out ++ (L.take j).map fun z => relP N (getP s.ids z)).length ≤ i + 40 := by rw [List.length_append, List.length_map, List.length_take]; omega
        have ix : (intsC L)[j]? = some (nI .i64 L[j]) := by unfold intsC; rw [List.getElem?_map, List.getElem?_eq_getElem hd]; rfl
        refine gen_ex L[j] fun z ez => ?_
        rw [← ez] at hmf hp ix
        refine gen_ex (s.out ++ (L.take j).map fun z => relP N (getP s.ids z)) fun O eO => ?_
        rw [← eO] at sj lj ⊢
        have lO : (rows PaD.cells O).length = O.length * 5 := rows_length (w := 5) fun a _ => rfl
        conv => whnf
        try (refine ⟨by kernel_rfl, ?_⟩; conv => whnf)
        refine bindP_intro (if_pos (inB_ok (by omega) (by omega))) ?_; conv => whnf
        refine bindP_intro (show (intsC L)[_]? = some (nI .i64 z) from by rw [← ix]; congr 1; dsimp only; omega) ?_
        conv => whnf
        try (refine ⟨by kernel_rfl, ?_⟩; conv => whnf)
        refine ⟨_, _, mapTyP, _, zeroP, _, hmf, ?_⟩
        conv => whnf
        try (refine ⟨by kernel_rfl, ?_⟩; conv => whnf)
        have ew : wS .i64 (g2.now - p.t) = N - p.t := by rw [eN]; exact ws_i64 (by omega) (by omega)
        rw [ew, eN]
        refine .ownAs 1 (relP N p).cells rfl rfl ?_
        conv => whnf
        try (refine ⟨by kernel_rfl, ?_⟩; conv => whnf)
        refine onlyIf_intro (by show (Nat.beq (rows PaD.cells O).length (O.length * 5) && _) = true; rw [lO]; simp [maxLen]; omega) ?_
        refine .ownAs (O.length + 1) (rows PaD.cells (O ++ [relP N p])) rfl (by rw [rows_app, rows_one]) ?_
        conv => whnf
        try (refine ⟨by kernel_rfl, ?_⟩; conv => whnf)
        rw [gc2, eN] at nG3
        refine next_round (y := j) G0ok (j + 1) [(0, some 0), (1, some 1), (2, some 2), (3, some 7), (4, some 4)] rfl ⟨⟨_, rfl, conv_nI (ws_i64 (by omega) (by omega))⟩, ⟨_, rfl, conv_nI (rfl)⟩, ⟨_, rfl, conv_eq rfl (intsC_noHs _)⟩, ⟨_, rfl, conv_nI (rfl)⟩, ⟨_, rfl, conv_nI (rfl)⟩, ⟨_, rfl, conv_eq rfl (rawsC_noHs _)⟩, ⟨_, rfl, .ptr rfl⟩, ⟨_, rfl, .same rfl⟩, ⟨_, rfl, .mp rfl⟩, ⟨_, rfl, conv_slE rfl rfl (by rw [sj, List.length_append]; rfl) rfl⟩, ⟨_, rfl, .same rfl⟩, ⟨_, rfl, .same rfl⟩, ⟨_, rfl, .ptr rfl⟩, ⟨_, rfl, .ptr rfl⟩, trivial⟩ ⟨.inr ⟨_, _, rfl, rfl, convs_eq rfl (nG2)⟩, .inr ⟨_, _, rfl, rfl, .same rfl⟩, .inr ⟨_, _, rfl, rfl, .same (entP_noHs _)⟩, .inr ⟨_, _, rfl, rfl, convs_eq (by rw [sj]) (rowsPa_noHs _)⟩, .inr ⟨_, _, rfl, rfl, convs_eq rfl (nG3)⟩, trivial⟩ (by omega) (by omega)
      · have hd := of_decide_eq_false hd
        have e : j = L.length := by omega
        subst e
        rw [List.take_length]
        have st2 : opRun g M (i + 1) = ⟨g2, s.out ++ L.map fun z => relP N (getP s.ids z), s.ids⟩ := st
        conv => whnf
        try (refine ⟨by kernel_rfl, ?_⟩; conv => whnf)
        refine next_round (y := i) G0ok (i + 1) [(0, some 0), (1, some 1), (2, some 2), (3, some 3)] rfl ⟨⟨_, rfl, conv_nI (ws_i64 (by omega) (by omega))⟩, ⟨_, rfl, conv_nI (rfl)⟩, ⟨_, rfl, conv_eq rfl (rawsC_noHs _)⟩, ⟨_, rfl, .same rfl⟩, ⟨_, rfl, .mp rfl⟩, ⟨_, rfl, conv_slE rfl rfl (by rw [st2]) rfl⟩, ⟨_, rfl, .same rfl⟩, ⟨_, rfl, .same rfl⟩, ⟨_, rfl, .ptr rfl⟩, ⟨_, rfl, .ptr rfl⟩, trivial⟩ ⟨.inr ⟨_, _, rfl, rfl, convs_eq (by rw [st2]; rfl) (by rw [st2]; exact nG3)⟩, .inr ⟨_, _, rfl, rfl, .same rfl⟩, .inr ⟨_, _, rfl, rfl, convs_eq (by rw [st2]) (entP_noHs _)⟩, .inr ⟨_, _, rfl, rfl, convs_eq (by rw [st2]) (rowsPa_noHs _)⟩, trivial⟩ (by omega) (by omega)
    · rw [show ((r.k % 3) == 0) = false from by rw [beq_eq_false_iff_ne]; exact k0]
      have p1 := picked_fn r.a 70 (by decide) (by decide)
      have p2 := picked_fn r.b 3 (by decide) (by decide)
      have nP2 := rowsQ_noHs s.g.past
      have nQ2 := rowsQ_noHs s.g.queue
      obtain ⟨gok, _⟩ := chk_iff.1 ok.chk
      have idz : ∀ q, (q ∈ s.g.past ∨ q ∈ s.g.queue) → q.id ≠ (i : Int) := fun q hq => by
        rcases hq with hq | hq
        · have := (ok.past q hq).2; omega
        · obtain ⟨p, hp, _, _, _, e⟩ := ok.found q hq
          have := (ok.ids p (List.mem_of_find?_eq_some hp)).2
          rw [← e]; omega
      have hql : s.g.queue.length ≠ 40 := by have := ok.ql; omega
      have mfn := mfind_none (l := s.ids) (z := (i : Int)) fun p hp => by have := (ok.ids p hp).2; omega
      have vb : valB (r.a % 70) = true := valB_iff.2 ⟨by omega, by omega⟩
      have of' := fun (R : VV) h0 h1 => goff_ok (fp := false) (fq := false) (g := s.g) (id := (i : Int)) (n := r.a % 70) (ch := r.b % 3) (r := R) ok.chk gok vb ⟨by omega, by omega⟩ (fun ⟨q, hq, e⟩ => absurd e (idz q hq)) h0 (fun _ _ e => absurd e hql) h1
      unfold opStep at st
      rw [if_neg k0] at st
      have lO : (rows PaD.cells s.out).length = s.out.length * 5 := rows_length (w := 5) fun a _ => rfl
      have pc : (offP s.g i r).cells = [nI .i64 i, nI .i64 (r.a % 70), nI .i64 (r.b % 3), nI .i64 s.g.now, bI false] := rfl
      have ec : entP (offP s.g i r) = ent .i64 (i : Int) (.agg [nI .i64 i, nI .i64 (r.a % 70), nI .i64 (r.b % 3), nI .i64 s.g.now, bI false]) := rfl
      conv => whnf
      try (refine ⟨by kernel_rfl, ?_⟩; conv => whnf)
      refine ⟨_, ret_of_fn G0ok (p1) (by first | rfl | simp only [noHs, noH, nI, bI, Bool.and_self, Bool.and_true, Bool.true_and, ]) (by first | rfl | simp only [noHs, noH, nI, bI, Bool.and_self, Bool.and_true, Bool.true_and, ]), ?_⟩; (conv => whnf); (try (refine ⟨by kernel_rfl, ?_⟩; conv => whnf))
      refine ⟨_, ret_of_fn G0ok (p2) (by first | rfl | simp only [noHs, noH, nI, bI, Bool.and_self, Bool.and_true, Bool.true_and, ]) (by first | rfl | simp only [noHs, noH, nI, bI, Bool.and_self, Bool.and_true, Bool.true_and, ]), ?_⟩; (conv => whnf); (try (refine ⟨by kernel_rfl, ?_⟩; conv => whnf))
      rw [gc]
      conv => whnf
      try (refine ⟨by kernel_rfl, ?_⟩; conv => whnf)
      cases hf : fitsB s.g (offX s.g i r) with
      | true =>
        rw [if_pos hf] at st
        have ofr := of' _ (fun _ _ => rfl) (fun _ h => absurd (show fitsB s.g (offX s.g i r) = true from hf) (by rw [show fitsB s.g (offX s.g i r) = fitsB s.g ⟨(i : Int), r.a % 70, r.b % 3, s.g.now⟩ from rfl, h]; decide))
        have nG3 := gtd_noHs false false { s.g with past := s.g.past ++ [offX s.g i r] }
        rw [show (⟨(i : Int), r.a % 70, r.b % 3, s.g.now⟩ : QD) = offX s.g i r from rfl] at ofr
        rw [gc] at ofr nG2
        refine ⟨_, ret_of_fn G0ok (ofr) (by first | rfl | simp only [noHs, noH, nI, bI, Bool.and_self, Bool.and_true, Bool.true_and, nG2, nG3, nP2, nQ2]) (by first | rfl | simp only [noHs, noH, nI, bI, Bool.and_self, Bool.and_true, Bool.true_and, nG2, nG3, nP2, nQ2]), ?_⟩; (conv => whnf); (try (refine ⟨by kernel_rfl, ?_⟩; conv => whnf))
        refine ⟨_, _, mapTyP, none, mfn, ?_⟩
        conv => whnf
        try (refine ⟨by kernel_rfl, ?_⟩; conv => whnf)
        refine .ownAs 1 (offP s.g i r).cells rfl rfl ?_
        conv => whnf
        try (refine ⟨by kernel_rfl, ?_⟩; conv => whnf)
        refine onlyIf_intro (by show (Nat.beq (rows PaD.cells s.out).length (s.out.length * 5) && _) = true; rw [lO]; simp [maxLen]; omega) ?_
        refine .ownAs (s.out.length + 1) (rows PaD.cells (s.out ++ [offP s.g i r])) rfl (by rw [rows_app, rows_one]) ?_
        conv => whnf
        try (refine ⟨by kernel_rfl, ?_⟩; conv => whnf)
        have st2 : opRun g M (i + 1) = ⟨{ s.g with past := s.g.past ++ [offX s.g i r] }, s.out ++ [offP s.g i r], s.ids ++ [offP s.g i r]⟩ := st
        refine next_round (y := i) G0ok (i + 1) [(0, some 0), (1, some 1), (2, some 2), (3, some 8)] rfl ⟨⟨_, rfl, conv_nI (ws_i64 (by omega) (by omega))⟩, ⟨_, rfl, conv_nI (rfl)⟩, ⟨_, rfl, conv_eq rfl (rawsC_noHs _)⟩, ⟨_, rfl, .same rfl⟩, ⟨_, rfl, .mp rfl⟩, ⟨_, rfl, conv_slE rfl rfl (by rw [st2, List.length_append]; rfl) rfl⟩, ⟨_, rfl, .same rfl⟩, ⟨_, rfl, .same rfl⟩, ⟨_, rfl, .ptr rfl⟩, ⟨_, rfl, .ptr rfl⟩, trivial⟩ ⟨.inr ⟨_, _, rfl, rfl, convs_eq (by rw [st2]) (by rw [st2]; exact nG3)⟩, .inr ⟨_, _, rfl, rfl, .same rfl⟩, .inr ⟨_, _, rfl, rfl, convs_eq (by rw [st2, List.map_append]; rfl) (entP_noHs _)⟩, .inr ⟨_, _, rfl, rfl, convs_eq (by rw [st2]) (rowsPa_noHs _)⟩, trivial⟩ (by omega) (by omega)

      | false =>
        rw [if_neg (by rw [hf]; decide)] at st
        have ofr := of' _ (fun _ h => absurd (show fitsB s.g (offX s.g i r) = true from h) (by rw [hf]; decide)) (fun _ _ _ => rfl)
        have nG3 := gtd_noHs false false { s.g with queue := s.g.queue ++ [offX s.g i r] }
        rw [show (⟨(i : Int), r.a % 70, r.b % 3, s.g.now⟩ : QD) = offX s.g i r from rfl] at ofr
        rw [gc] at ofr nG2
        refine ⟨_, ret_of_fn G0ok (ofr) (by first | rfl | simp only [noHs, noH, nI, bI, Bool.and_self, Bool.and_true, Bool.true_and, nG2, nG3, nP2, nQ2]) (by first | rfl | simp only [noHs, noH, nI, bI, Bool.and_self, Bool.and_true, Bool.true_and, nG2, nG3, nP2, nQ2]), ?_⟩; (conv => whnf); (try (refine ⟨by kernel_rfl, ?_⟩; conv => whnf))
        refine ⟨_, _, mapTyP, none, mfn, ?_⟩
        conv => whnf
        try (refine ⟨by kernel_rfl, ?_⟩; conv => whnf)
        have st2 : opRun g M (i + 1) = ⟨{ s.g with queue := s.g.queue ++ [offX s.g i r] }, s.out, s.ids ++ [offP s.g i r]⟩ := st
        refine next_round (y := i) G0ok (i + 1) [(0, some 0), (1, some 1), (2, some 2), (3, some 3)] rfl ⟨⟨_, rfl, conv_nI (ws_i64 (by omega) (by omega))⟩, ⟨_, rfl, conv_nI (rfl)⟩, ⟨_, rfl, conv_eq rfl (rawsC_noHs _)⟩, ⟨_, rfl, .same rfl⟩, ⟨_, rfl, .mp rfl⟩, ⟨_, rfl, conv_slE rfl rfl (by rw [st2]) rfl⟩, ⟨_, rfl, .same rfl⟩, ⟨_, rfl, .same rfl⟩, ⟨_, rfl, .ptr rfl⟩, ⟨_, rfl, .ptr rfl⟩, trivial⟩ ⟨.inr ⟨_, _, rfl, rfl, convs_eq (by rw [st2]) (by rw [st2]; exact nG3)⟩, .inr ⟨_, _, rfl, rfl, .same rfl⟩, .inr ⟨_, _, rfl, rfl, convs_eq (by rw [st2, List.map_append]; rfl) (entP_noHs _)⟩, .inr ⟨_, _, rfl, rfl, convs_eq (by rw [st2]) (rowsPa_noHs _)⟩, trivial⟩ (by omega) (by omega)

  · have hc := of_decide_eq_false hc
    have e : i = M.length := by omega
    subst e
    rw [← es]
    conv => whnf
    try (refine ⟨by kernel_rfl, ?_⟩; conv => whnf)
    have lO : (rows PaD.cells s.out).length = s.out.length * 5 := rows_length (w := 5) fun a _ => rfl
    exact ⟨_, rfl, deep_tup (mapO_cons (deepV_noH _ (.agg _) nG2) (mapO_cons (deep_row rfl lO (rowsPa_noHs _)) (mapO_cons (deepV_noH _ _ rfl) mapO_nil)))⟩
/-- The gate of a raw thing. -/
def shR (a : Int) (i : Nat) : Int := Int.fdiv a (2 ^ i)
def gateR (r : RawD) : GtD := ⟨50 + shR r.a 0 % 100, 50 + shR r.a 1 % 100, 50 + shR r.a 2 % 100, 20 + shR r.b 0 % 60, 20 + shR r.b 1 % 60, 20 + shR r.b 2 % 60, r.a % 50, [], []⟩
theorem gateR_ok (r : RawD) : chkGt (gateR r) = 0 := by
  refine chk_iff.2 ⟨⟨Nat.zero_le _, Nat.zero_le _, ⟨by show 0 ≤ r.a % 50; omega, by show r.a % 50 ≤ _; omega⟩, fun c => ?_, fun c => ?_, fun q hq => by rcases hq with h | h <;> cases h⟩, List.nodup_nil⟩
  · unfold GtD.lim gateR; dsimp only; split; omega; split <;> omega
  · unfold GtD.big gateR; dsimp only; split; omega; split <;> omega
theorem gateOf_fn (r : RawD) : FnV Try.prog G0 17 [r.v] (.agg ((gateR r).cells true true)) := by
  have p := fun x => picked_fn x 100 (by decide) (by decide)
  have q := fun x => picked_fn x 60 (by decide) (by decide)
  have p0 := picked_fn r.a 50 (by decide) (by decide)
  unfold RawD.v RawD.cells
  refine fn_of_vwp Γok Try.func17 (by kernel_rfl) rfl (by simp [Try.ntmps17]) (wpv_ok Γok (by kernel_rfl) _ _ _ ?_); conv => whnf
  refine ⟨_, ret_of_fn G0ok (p0) (by first | rfl | simp only [noHs, noH, nI, bI, Bool.and_self, Bool.and_true, Bool.true_and, ]) (by first | rfl | simp only [noHs, noH, nI, bI, Bool.and_self, Bool.and_true, Bool.true_and, ]), ?_⟩; (conv => whnf); (try (refine ⟨by kernel_rfl, ?_⟩; conv => whnf))
  refine vloop_clean G0ok [(0, some 0), (1, some 1), (2, some 2)] 3 [(9, nI .i64 0), (3, .ptr 2 0), (2, .ptr 1 0), (1, .ptr 0 0)] [(0, some [nI .i64 r.k, nI .i64 r.a, nI .i64 r.b, .v (.string r.s)]), (1, some [nI .i64 0, nI .i64 0, nI .i64 0, nI .i64 0, nI .i64 0, nI .i64 0, nI .i64 0, .ds true 0 [], .ds true 0 []]), (2, some [nI .i64 0, nI .i64 0, nI .i64 0, nI .i64 0, nI .i64 0, nI .i64 0, nI .i64 (r.a % 50), .ds true 0 [], .ds true 0 []])] rfl ⟨⟨_, rfl, conv_nI (rfl)⟩, ⟨_, rfl, .ptr rfl⟩, ⟨_, rfl, .ptr rfl⟩, ⟨_, rfl, .ptr rfl⟩, trivial⟩ ⟨.inr ⟨_, _, rfl, rfl, .same rfl⟩, .inr ⟨_, _, rfl, rfl, .same rfl⟩, .inr ⟨_, _, rfl, rfl, .same rfl⟩, trivial⟩ ?_
  refine vloop_unroll ?_
  refine wpv_ok Γok (by kernel_rfl) _ _ _ ?_; conv => whnf
  rw [show Int.fdiv r.a (2 ^ min (Int.toNat 0) IntKind.i64.bits) = shR r.a 0 from rfl]
  refine ⟨_, ret_of_fn G0ok (p (shR r.a 0)) (by first | rfl | simp only [noHs, noH, nI, bI, Bool.and_self, Bool.and_true, Bool.true_and, ]) (by first | rfl | simp only [noHs, noH, nI, bI, Bool.and_self, Bool.and_true, Bool.true_and, ]), ?_⟩; (conv => whnf); (try (refine ⟨by kernel_rfl, ?_⟩; conv => whnf))
  rw [show Int.fdiv r.b (2 ^ min (Int.toNat 0) IntKind.i64.bits) = shR r.b 0 from rfl]
  refine ⟨_, ret_of_fn G0ok (q (shR r.b 0)) (by first | rfl | simp only [noHs, noH, nI, bI, Bool.and_self, Bool.and_true, Bool.true_and, ]) (by first | rfl | simp only [noHs, noH, nI, bI, Bool.and_self, Bool.and_true, Bool.true_and, ]), ?_⟩; (conv => whnf); (try (refine ⟨by kernel_rfl, ?_⟩; conv => whnf))
  rw [ws_i64 (x := 50 + shR r.a 0 % 100) (by omega) (by omega), ws_i64 (x := 20 + shR r.b 0 % 60) (by omega) (by omega)]
  conv => whnf
  try (refine ⟨by kernel_rfl, ?_⟩; conv => whnf)
  refine vloop_clean G0ok [(0, some 0), (1, some 1), (2, some 2)] 3 [(9, nI .i64 1), (3, .ptr 2 0), (2, .ptr 1 0), (1, .ptr 0 0)] [(0, some [nI .i64 r.k, nI .i64 r.a, nI .i64 r.b, .v (.string r.s)]), (1, some [nI .i64 0, nI .i64 0, nI .i64 0, nI .i64 0, nI .i64 0, nI .i64 0, nI .i64 0, .ds true 0 [], .ds true 0 []]), (2, some [nI .i64 (50 + shR r.a 0 % 100), nI .i64 0, nI .i64 0, nI .i64 (20 + shR r.b 0 % 60), nI .i64 0, nI .i64 0, nI .i64 (r.a % 50), .ds true 0 [], .ds true 0 []])] rfl ⟨⟨_, rfl, conv_nI (ws_i64 (by decide) (by decide))⟩, ⟨_, rfl, .ptr rfl⟩, ⟨_, rfl, .ptr rfl⟩, ⟨_, rfl, .ptr rfl⟩, trivial⟩ ⟨.inr ⟨_, _, rfl, rfl, .same rfl⟩, .inr ⟨_, _, rfl, rfl, .same rfl⟩, .inr ⟨_, _, rfl, rfl, .same rfl⟩, trivial⟩ ?_
  refine vloop_unroll ?_
  refine wpv_ok Γok (by kernel_rfl) _ _ _ ?_; conv => whnf
  rw [show Int.fdiv r.a (2 ^ min (Int.toNat 1) IntKind.i64.bits) = shR r.a 1 from rfl]
  refine ⟨_, ret_of_fn G0ok (p (shR r.a 1)) (by first | rfl | simp only [noHs, noH, nI, bI, Bool.and_self, Bool.and_true, Bool.true_and, ]) (by first | rfl | simp only [noHs, noH, nI, bI, Bool.and_self, Bool.and_true, Bool.true_and, ]), ?_⟩; (conv => whnf); (try (refine ⟨by kernel_rfl, ?_⟩; conv => whnf))
  rw [show Int.fdiv r.b (2 ^ min (Int.toNat 1) IntKind.i64.bits) = shR r.b 1 from rfl]
  refine ⟨_, ret_of_fn G0ok (q (shR r.b 1)) (by first | rfl | simp only [noHs, noH, nI, bI, Bool.and_self, Bool.and_true, Bool.true_and, ]) (by first | rfl | simp only [noHs, noH, nI, bI, Bool.and_self, Bool.and_true, Bool.true_and, ]), ?_⟩; (conv => whnf); (try (refine ⟨by kernel_rfl, ?_⟩; conv => whnf))
  rw [ws_i64 (x := 50 + shR r.a 1 % 100) (by omega) (by omega), ws_i64 (x := 20 + shR r.b 1 % 60) (by omega) (by omega)]
  conv => whnf
  try (refine ⟨by kernel_rfl, ?_⟩; conv => whnf)
  refine vloop_clean G0ok [(0, some 0), (1, some 1), (2, some 2)] 3 [(9, nI .i64 2), (3, .ptr 2 0), (2, .ptr 1 0), (1, .ptr 0 0)] [(0, some [nI .i64 r.k, nI .i64 r.a, nI .i64 r.b, .v (.string r.s)]), (1, some [nI .i64 0, nI .i64 0, nI .i64 0, nI .i64 0, nI .i64 0, nI .i64 0, nI .i64 0, .ds true 0 [], .ds true 0 []]), (2, some [nI .i64 (50 + shR r.a 0 % 100), nI .i64 (50 + shR r.a 1 % 100), nI .i64 0, nI .i64 (20 + shR r.b 0 % 60), nI .i64 (20 + shR r.b 1 % 60), nI .i64 0, nI .i64 (r.a % 50), .ds true 0 [], .ds true 0 []])] rfl ⟨⟨_, rfl, conv_nI (ws_i64 (by decide) (by decide))⟩, ⟨_, rfl, .ptr rfl⟩, ⟨_, rfl, .ptr rfl⟩, ⟨_, rfl, .ptr rfl⟩, trivial⟩ ⟨.inr ⟨_, _, rfl, rfl, .same rfl⟩, .inr ⟨_, _, rfl, rfl, .same rfl⟩, .inr ⟨_, _, rfl, rfl, .same rfl⟩, trivial⟩ ?_
  refine vloop_unroll ?_
  refine wpv_ok Γok (by kernel_rfl) _ _ _ ?_; conv => whnf
  rw [show Int.fdiv r.a (2 ^ min (Int.toNat 2) IntKind.i64.bits) = shR r.a 2 from rfl]
  refine ⟨_, ret_of_fn G0ok (p (shR r.a 2)) (by first | rfl | simp only [noHs, noH, nI, bI, Bool.and_self, Bool.and_true, Bool.true_and, ]) (by first | rfl | simp only [noHs, noH, nI, bI, Bool.and_self, Bool.and_true, Bool.true_and, ]), ?_⟩; (conv => whnf); (try (refine ⟨by kernel_rfl, ?_⟩; conv => whnf))
  rw [show Int.fdiv r.b (2 ^ min (Int.toNat 2) IntKind.i64.bits) = shR r.b 2 from rfl]
  refine ⟨_, ret_of_fn G0ok (q (shR r.b 2)) (by first | rfl | simp only [noHs, noH, nI, bI, Bool.and_self, Bool.and_true, Bool.true_and, ]) (by first | rfl | simp only [noHs, noH, nI, bI, Bool.and_self, Bool.and_true, Bool.true_and, ]), ?_⟩; (conv => whnf); (try (refine ⟨by kernel_rfl, ?_⟩; conv => whnf))
  rw [ws_i64 (x := 50 + shR r.a 2 % 100) (by omega) (by omega), ws_i64 (x := 20 + shR r.b 2 % 60) (by omega) (by omega)]
  conv => whnf
  try (refine ⟨by kernel_rfl, ?_⟩; conv => whnf)
  refine vloop_clean G0ok [(0, some 0), (1, some 1), (2, some 2)] 3 [(9, nI .i64 3), (3, .ptr 2 0), (2, .ptr 1 0), (1, .ptr 0 0)] [(0, some [nI .i64 r.k, nI .i64 r.a, nI .i64 r.b, .v (.string r.s)]), (1, some [nI .i64 0, nI .i64 0, nI .i64 0, nI .i64 0, nI .i64 0, nI .i64 0, nI .i64 0, .ds true 0 [], .ds true 0 []]), (2, some [nI .i64 (50 + shR r.a 0 % 100), nI .i64 (50 + shR r.a 1 % 100), nI .i64 (50 + shR r.a 2 % 100), nI .i64 (20 + shR r.b 0 % 60), nI .i64 (20 + shR r.b 1 % 60), nI .i64 (20 + shR r.b 2 % 60), nI .i64 (r.a % 50), .ds true 0 [], .ds true 0 []])] rfl ⟨⟨_, rfl, conv_nI (ws_i64 (by decide) (by decide))⟩, ⟨_, rfl, .ptr rfl⟩, ⟨_, rfl, .ptr rfl⟩, ⟨_, rfl, .ptr rfl⟩, trivial⟩ ⟨.inr ⟨_, _, rfl, rfl, .same rfl⟩, .inr ⟨_, _, rfl, rfl, .same rfl⟩, .inr ⟨_, _, rfl, rfl, .same rfl⟩, trivial⟩ ?_
  refine vloop_unroll ?_
  refine wpv_ok Γok (by kernel_rfl) _ _ _ ?_; conv => whnf
  exact ⟨_, rfl, rfl⟩
theorem tells_gate : FnV Try.prog G0 19 [] (bI true) := by
  have go := gateOf_fn rz0
  have of' := goff_ok (fp := true) (fq := true) (g := gateR rz0) (id := 1) (n := 1) (ch := 0) (gateR_ok rz0) (chk_iff.1 (gateR_ok rz0)).1 rfl ⟨by decide, by decide⟩ (fun ⟨q, hq, e⟩ => by rcases hq with h | h <;> cases h) (fun _ _ => rfl) (fun _ h _ => absurd (show fitsB (gateR rz0) ⟨1, 1, 0, (gateR rz0).now⟩ = true from by decide) (by rw [h]; decide)) (fun _ h _ => absurd (show fitsB (gateR rz0) ⟨1, 1, 0, (gateR rz0).now⟩ = true from by decide) (by rw [h]; decide))
  have n1 := gtd_noHs true true (gateR rz0)
  have n2 := gtd_noHs false false { gateR rz0 with past := (gateR rz0).past ++ [⟨1, 1, 0, (gateR rz0).now⟩] }
  refine gen_ex ((gateR rz0).cells true true) fun C eC => ?_
  rw [← eC] at go of' n1
  refine gen_ex (GtD.cells false false { gateR rz0 with past := (gateR rz0).past ++ [⟨1, 1, 0, (gateR rz0).now⟩] }) fun D eD => ?_
  have lD : D.length = 9 := by rw [eD]; rfl
  rw [← eD] at of' n2
  refine fn_of_vwp Γok Try.func19 (by kernel_rfl) rfl (by simp [Try.ntmps19]) (wpv_ok Γok (by kernel_rfl) _ _ _ ?_); conv => whnf
  refine ⟨_, ret_of_fn G0ok (go) (by first | rfl | simp only [noHs, noH, nI, bI, Bool.and_self, Bool.and_true, Bool.true_and, n1]) (by first | rfl | simp only [noHs, noH, nI, bI, Bool.and_self, Bool.and_true, Bool.true_and, n1]), ?_⟩; (conv => whnf); (try (refine ⟨by kernel_rfl, ?_⟩; conv => whnf))
  refine ⟨_, ret_of_fn G0ok (of') (by first | rfl | simp only [noHs, noH, nI, bI, Bool.and_self, Bool.and_true, Bool.true_and, n1, n2]) (by first | rfl | simp only [noHs, noH, nI, bI, Bool.and_self, Bool.and_true, Bool.true_and, n1, n2]), ?_⟩; (conv => whnf); (try (refine ⟨by kernel_rfl, ?_⟩; conv => whnf))
  refine onlyIf_intro (by rw [lD]; rfl) ?_
  rw [splice_all (by rw [lD]; rfl)]
  conv => whnf
  try (refine ⟨by kernel_rfl, ?_⟩; conv => whnf)
  exact ⟨_, rfl, rfl⟩
end Go.Proofs.Ytilmfdlonpjjiaa
namespace Go.Proofs.Ytilmfdlonpjjiaa
set_option linter.unusedVariables false
set_option linter.unusedSimpArgs false
set_option linter.unusedSectionVars false
open Go.ChangeShapes Go.WideShapes Go.ChangeAt Go.RowKit Go.Joins
open Classical in
noncomputable def cntQ (c N : Int) (q : QD) : Int := if q.ch = c ∧ N - q.t < 24 then q.v else 0
open Classical in
noncomputable def cntP (c N : Int) (p : PaD) : Int := if p.ch = c ∧ p.held = false ∧ N - p.t < 24 then p.v else 0
open Classical in
noncomputable def cntD (c t : Int) (p : PaD) : Int := if p.ch = c ∧ p.held = false ∧ p.t ≥ t ∧ p.t < t + 24 then p.v else 0
noncomputable def usedAt (L : List QD) (c N : Int) : Int := (L.map (cntQ c N)).sum
noncomputable def passAt (L : List PaD) (c N : Int) : Int := (L.map (cntP c N)).sum
noncomputable def dayS (L : List PaD) (c t : Int) : Int := (L.map (cntD c t)).sum
theorem usedN_eq (g : GtD) (c : Int) : ∀ i, i ≤ g.past.length → usedN g c i = usedAt (g.past.take i) c g.now
  | 0, _ => rfl
  | i + 1, h => by
    have hc : i < g.past.length := h
    unfold usedN usedAt
    rw [usedN_eq g c i (Nat.le_of_lt hc), List.take_add_one, List.getElem?_eq_getElem hc, List.map_append, List.sum_append, getD_of hc]
    unfold usedAt
    congr 1
    show _ = cntQ c g.now g.past[i] + 0
    rw [Int.add_zero]
    unfold cntQ
    split <;> rfl
/-- What is known of what passed. -/
structure Jd (lim : Int → Int) (now : Int) (past : List QD) (out : List PaD) : Prop where
  row : ∀ p ∈ out, 0 ≤ p.v ∧ p.t ≤ now
  same : ∀ c N, now ≤ N → passAt out c N = usedAt past c N
  day : ∀ c t, dayS out c t ≤ lim c
theorem sum_le {α : Type} {f g : α → Int} : ∀ (l : List α), (∀ a ∈ l, f a ≤ g a) → (l.map f).sum ≤ (l.map g).sum
  | [], _ => Int.le_refl _
  | a :: l, h => by
    have h1 := h a List.mem_cons_self
    have h2 := sum_le l fun b hb => h b (List.mem_cons_of_mem _ hb)
    simp only [List.map_cons, List.sum_cons]
    omega
theorem dayS_le {lim : Int → Int} {now : Int} {past : List QD} {out : List PaD} (h : Jd lim now past out) {c t : Int} (ht : now < t + 24) : dayS out c t ≤ usedAt past c now := by
  rw [← h.same c now (Int.le_refl _)]
  refine sum_le out fun p hp => ?_
  obtain ⟨h1, h2⟩ := h.row p hp
  unfold cntD cntP
  split
  · rename_i hd
    rw [if_pos ⟨hd.1, hd.2.1, by omega⟩]
    exact Int.le_refl _
  · split
    · exact h1
    · exact Int.le_refl _
theorem Jd.add {lim : Int → Int} {now : Int} {past : List QD} {out : List PaD} (h : Jd lim now past out) {p : PaD} {q : QD} (e1 : p.v = q.v) (e2 : p.ch = q.ch) (e3 : p.t = now) (e4 : q.t = now) (e5 : p.held = false) (h0 : 0 ≤ q.v) (hf : usedAt past q.ch now + q.v ≤ lim q.ch) : Jd lim now (past ++ [q]) (out ++ [p]) := by
  refine ⟨fun x hx => ?_, fun c N hN => ?_, fun c t => ?_⟩
  · rcases List.mem_append.1 hx with hx | hx
    · exact h.row x hx
    · rw [List.mem_singleton.1 hx, e1, e3]
      exact ⟨h0, Int.le_refl _⟩
  · unfold passAt usedAt
    rw [List.map_append, List.map_append, List.sum_append, List.sum_append]
    have := h.same c N hN
    unfold passAt usedAt at this
    rw [this]
    congr 1
    show cntP c N p + 0 = cntQ c N q + 0
    rw [Int.add_zero, Int.add_zero]
    unfold cntP cntQ
    rw [e1, e2, e3, e4, e5]
    simp only [true_and]
  · have hd := h.day c t
    unfold dayS at hd ⊢
    rw [List.map_append, List.sum_append]
    show _ + (cntD c t p + 0) ≤ _
    rw [Int.add_zero]
    unfold cntD
    split
    · rename_i hp
      rw [e3] at hp
      have := dayS_le h (c := c) (t := t) (by omega)
      unfold dayS at this
      have hc : q.ch = c := by rw [← e2]; exact hp.1
      rw [hc] at hf
      rw [e1]
      have e : (out.map (cntD c t)).sum = (out.map (cntD c t)).sum := rfl
      have e' : (out.map (fun p => if p.ch = c ∧ p.held = false ∧ p.t ≥ t ∧ p.t < t + 24 then p.v else 0)).sum = (out.map (cntD c t)).sum := rfl
      omega
    · rw [Int.add_zero]
      exact hd
theorem Jd.late {lim : Int → Int} {now : Int} {past : List QD} {out : List PaD} (h : Jd lim now past out) {p : PaD} (e : p.held = true) (h0 : 0 ≤ p.v) (ht : p.t ≤ now) : Jd lim now past (out ++ [p]) := by
  refine ⟨fun x hx => ?_, fun c N hN => ?_, fun c t => ?_⟩
  · rcases List.mem_append.1 hx with hx | hx
    · exact h.row x hx
    · rw [List.mem_singleton.1 hx]
      exact ⟨h0, ht⟩
  · unfold passAt
    rw [List.map_append, List.sum_append]
    show _ + (cntP c N p + 0) = _
    have : cntP c N p = 0 := by unfold cntP; rw [if_neg (fun k => by rw [e] at k; exact absurd k.2.1 (by decide))]
    rw [this, Int.add_zero, Int.add_zero]
    exact h.same c N hN
  · unfold dayS
    rw [List.map_append, List.sum_append]
    show _ + (cntD c t p + 0) ≤ _
    have : cntD c t p = 0 := by unfold cntD; rw [if_neg (fun k => by rw [e] at k; exact absurd k.2.1 (by decide))]
    rw [this, Int.add_zero, Int.add_zero]
    exact h.day c t
theorem used_kept (c N : Int) : ∀ (L : List QD) (M : Int), M ≤ N → usedAt (keptP L M) c N = usedAt L c N
  | [], _, _ => rfl
  | q :: L, M, h => by
    have ih := used_kept c N L M h
    unfold keptP usedAt at *
    rw [List.filter_cons]
    split
    · rw [List.map_cons, List.sum_cons, List.map_cons, List.sum_cons, ih]
    · rename_i hk
      have hk : ¬ M - q.t < 24 := by simpa using hk
      rw [List.map_cons, List.sum_cons, ih]
      have : cntQ c N q = 0 := by unfold cntQ; rw [if_neg (fun k => hk (by omega))]
      rw [this, Int.zero_add]
theorem Jd.time {lim : Int → Int} {now N : Int} {past : List QD} {out : List PaD} (h : Jd lim now past out) (hN : now ≤ N) : Jd lim N (keptP past N) out :=
  ⟨fun p hp => ⟨(h.row p hp).1, Int.le_trans (h.row p hp).2 hN⟩, fun c M hM => by rw [used_kept c M past N hM]; exact h.same c M (Int.le_trans hN hM), h.day⟩
theorem fits_used {g : GtD} {x : QD} (h : fitsB g x = true) : usedAt g.past x.ch g.now + x.v ≤ g.lim x.ch := by
  unfold fitsB at h
  simp only [Bool.and_eq_true, decide_eq_true_eq] at h
  have := h.2.1
  rw [usedN_eq g x.ch g.past.length (Nat.le_refl _), List.take_length] at this
  exact this
theorem jd_tick {g : GtD} {N : Int} {ids out : List PaD} (ok : GtOk g) (hN : g.now ≤ N) (hj : Jd g.lim g.now g.past out) (fd : ∀ q ∈ g.queue, ∃ p, ids.find? (fun p => p.id == q.id) = some p ∧ p.v = q.v ∧ p.ch = q.ch ∧ p.t = q.t ∧ p.id = q.id) :
    ∀ i, i ≤ g.queue.length → Jd g.lim N (tkRun g N i).past (out ++ (tkRun g N i).out.map fun z => relP N (getP ids z))
  | 0, _ => by
    show Jd g.lim N (keptP g.past N) (out ++ [])
    rw [List.append_nil]
    exact hj.time hN
  | i + 1, h => by
    have hc : i < g.queue.length := h
    have ih := jd_tick ok hN hj fd i (Nat.le_of_lt hc)
    have hx := ok.row _ (.inr (List.getElem_mem hc))
    obtain ⟨p, hp, e1, e2, e3, _⟩ := fd _ (List.getElem_mem hc)
    rw [tkRun_succ g N hc]
    unfold tkStep
    split
    · rename_i h24
      dsimp only
      rw [List.map_append, ← List.append_assoc]
      refine ih.late ?_ ?_ ?_
      · show (relP N (getP ids _)).held = true
        rw [getP_of hp]
        show decide (N - p.t ≥ 24) = true
        rw [e3]; exact decide_eq_true h24
      · show 0 ≤ (relP N (getP ids _)).v
        rw [getP_of hp]
        show 0 ≤ p.v
        rw [e1]; exact hx.1.1
      · show (relP N (getP ids _)).t ≤ N
        exact Int.le_refl _
    · rename_i h24
      split
      · rename_i hf
        dsimp only
        rw [List.map_append, ← List.append_assoc]
        have fu := fits_used hf
        refine ih.add ?_ ?_ rfl rfl ?_ hx.1.1 ?_
        · show (relP N (getP ids _)).v = _
          rw [getP_of hp]
          exact e1
        · show (relP N (getP ids _)).ch = _
          rw [getP_of hp]
          exact e2
        · show (relP N (getP ids _)).held = false
          rw [getP_of hp]
          show decide (N - p.t ≥ 24) = false
          rw [e3]; exact decide_eq_false h24
        · exact fu
      · exact ih
theorem jd_next {g0 : GtD} {i : Nat} {s : OpS} {r : RawD} (h : OpOk g0 i s) (hi : i < 40) (h0 : 0 ≤ g0.now ∧ g0.now ≤ 50) (hj : Jd g0.lim s.g.now s.g.past s.out) : Jd g0.lim (opStep s i r).g.now (opStep s i r).g.past (opStep s i r).out := by
  obtain ⟨ok, _⟩ := chk_iff.1 h.chk
  have hlim : g0.lim = s.g.lim := funext fun c => (h.lim c).1.symm
  rw [hlim] at hj ⊢
  unfold opStep
  split
  · exact jd_tick (N := s.g.now + (1 + r.a % 9)) ok (by omega) hj h.found s.g.queue.length (Nat.le_refl _)
  · split
    · rename_i hf
      exact hj.add rfl rfl rfl rfl rfl (by show 0 ≤ r.a % 70; omega) (fits_used hf)
    · exact hj
theorem jd_all {g : GtD} {M : List RawD} (ck : chkGt g = 0) (hq : g.queue = []) (hp : g.past = []) (hn : g.now ≤ 50) (al : ∀ i, i ≤ 40 → OpOk g i (opRun g M i)) : ∀ i, i ≤ 40 → Jd g.lim (opRun g M i).g.now (opRun g M i).g.past (opRun g M i).out
  | 0, _ => by
    have ok := (chk_iff.1 ck).1
    show Jd g.lim g.now g.past []
    rw [hp]
    exact Jd.mk (fun p h => (by cases h)) (fun _ _ _ => rfl) (fun c t => (ok.lim c).1)
  | i + 1, h => jd_next (al i (Nat.le_of_succ_le h)) h ⟨(chk_iff.1 ck).1.now.1, hn⟩ (jd_all ck hq hp hn al i (Nat.le_of_succ_le h))
end Go.Proofs.Ytilmfdlonpjjiaa
