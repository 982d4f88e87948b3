/- fork: above, best: by the engine. -/
import Derived.Test.YtlecdiopokalgaaBUa
import Derived.Test.YtlecdiopokalgaaBUc
namespace Go.Proofs.Ytlecdiopokalgaa
set_option linter.unusedVariables false
set_option linter.unusedSimpArgs false
set_option linter.unusedSectionVars false
open Go.ChangeShapes Go.WideShapes Go.ChangeAt Go.RowKit Go.Joins
set_option maxRecDepth 10000
/-- A block without calls. -/
structure BlD where
  par : Int
  h : Nat
def BlD.cells (s : BlD) : List VV := [nI .i64 s.par, nI .i64 s.h, .ds true 0 []]
theorem blD_len (s : BlD) : s.cells.length = 3 := rfl
theorem blD_noHs (s : BlD) : noHs s.cells = true := rfl
theorem bl_get : ∀ (M : List BlD) (i c j : Nat) (_ : j = i * 3 + c) (_ : c < 3) (hi : i < M.length), (rows BlD.cells M)[j]? = M[i].cells[c]?
  | [], i, c, j, _, _, hi => by cases hi
  | s :: M, 0, c, j, hj, hc, _ => by
    subst hj
    rw [rows_cons, List.getElem?_append_left (by rw [blD_len]; omega), Nat.zero_mul, Nat.zero_add]
    rfl
  | s :: M, i + 1, c, j, hj, hc, hi => by
    subst hj
    rw [rows_cons, List.getElem?_append_right (by rw [blD_len]; omega), blD_len]
    exact bl_get M i c _ (by omega) hc (by simpa using hi)
theorem bl_par {M : List BlD} {i j : Nat} (hj : j = i * 3) (hi : i < M.length) : (rows BlD.cells M)[j]? = some (nI .i64 M[i].par) := bl_get M i 0 j hj (by decide) hi
theorem bl_h {M : List BlD} {i j : Nat} (hj : j = i * 3 + 1) (hi : i < M.length) : (rows BlD.cells M)[j]? = some (nI .i64 (M[i].h : Nat)) := bl_get M i 1 j hj (by decide) hi
def treeV (f : Bool) (L : List BlD) (b r : Nat) : VV := .agg [.ds f L.length (rows BlD.cells L), nI .i64 b, nI .i64 r]
/-- Blocks that may be. -/
structure BlsOk (L : List BlD) : Prop where
  some : 1 ≤ L.length
  most : L.length ≤ 40
  first : ∀ (h : 0 < L.length), L[0].par = -1 ∧ L[0].h = 0
  par : ∀ (i : Nat) (h : i < L.length), 0 < i → 0 ≤ L[i].par ∧ L[i].par < i
  high : ∀ (i : Nat) (h : i < L.length) (h0 : 0 < i) (h' : L[i].par.toNat < L.length), L[i].h = L[L[i].par.toNat].h + 1
def parN (L : List BlD) (b : Nat) : Nat := (L.getD b ⟨-1, 0⟩).par.toNat
def ancF (L : List BlD) (root : Nat) : Nat → Nat → Nat
  | 0, b => b
  | n + 1, b => if root < b then ancF L root n (parN L b) else b
def anc (L : List BlD) (root b : Nat) : Nat := ancF L root b b
theorem parN_eq {L : List BlD} {b : Nat} (h : b < L.length) : parN L b = L[b].par.toNat := by
  unfold parN
  rw [List.getD_eq_getElem?_getD, List.getElem?_eq_getElem h]
  rfl
theorem parN_lt {L : List BlD} (h : BlsOk L) {b : Nat} (hb : b < L.length) (h0 : 0 < b) : parN L b < b := by
  rw [parN_eq hb]
  have := h.par b hb h0
  omega
theorem ancF_le {L : List BlD} (h : BlsOk L) {root : Nat} : ∀ (n m b : Nat), b < L.length → b ≤ n → b ≤ m → ancF L root n b = ancF L root m b
  | 0, 0, b, _, _, _ => rfl
  | 0, m + 1, b, _, hn, _ => by
    rw [show b = 0 by omega]
    rfl
  | n + 1, 0, b, _, _, hm => by
    rw [show b = 0 by omega]
    rfl
  | n + 1, m + 1, b, hb, hn, hm => by
    unfold ancF
    by_cases q : root < b
    · have := parN_lt h hb (by omega)
      rw [if_pos q, if_pos q]
      exact ancF_le h n m _ (by omega) (by omega) (by omega)
    · rw [if_neg q, if_neg q]
theorem anc_step {L : List BlD} (h : BlsOk L) {root b : Nat} (hb : b < L.length) (q : root < b) : anc L root b = anc L root (parN L b) := by
  have p := parN_lt h hb (by omega)
  obtain ⟨c, rfl⟩ : ∃ c, b = c + 1 := ⟨b - 1, by omega⟩
  show ancF L root (c + 1) (c + 1) = _
  rw [ancF, if_pos q]
  exact ancF_le h _ _ _ (by omega) (by omega) (Nat.le_refl _)
theorem anc_stop {L : List BlD} {root b : Nat} (q : ¬ root < b) : anc L root b = b := by
  cases b with
  | zero => rfl
  | succ c =>
    show ancF L root (c + 1) (c + 1) = _
    rw [ancF, if_neg q]
theorem above_fn {f : Bool} {L : List BlD} {bb rr b root : Nat} (h : BlsOk L) (hb : b < L.length) : FnV Try.prog G0 58 [treeV f L bb rr, nI .i64 b, nI .i64 root] (bI (decide (anc L root b = root))) := by
  have nB' : noHs (rows BlD.cells L) = true := rows_noHs blD_noHs L
  have h40 := h.most
  have nT : noHs [VV.ds f L.length (rows BlD.cells L), nI .i64 bb, nI .i64 rr] = true := by simp only [noHs, noH, nI, nB', Bool.and_self]
  unfold treeV
  refine fn_of_vwp Γok Try.func58 (by kernel_rfl) rfl (by simp [Try.ntmps58]) (wpv_ok Γok (by kernel_rfl) _ _ _ ?_); conv => whnf
  refine vloop_invK G0ok [(0, some 0)] 1 (X := Nat) (fun x => [(3, .ptr 0 0), (2, nI .i64 root), (1, nI .i64 x)]) (fun _ => [(0, some [.ds f L.length (rows BlD.cells L), nI .i64 bb, nI .i64 rr])]) (fun x => x ≤ b ∧ anc L root x = anc L root b) (fun x => x) b rfl
    ⟨⟨_, rfl, .ptr rfl⟩, ⟨_, rfl, conv_nI (rfl)⟩, ⟨_, rfl, conv_nI (rfl)⟩, trivial⟩ ⟨.inr ⟨_, _, rfl, rfl, .same (nT)⟩, trivial⟩ ⟨Nat.le_refl _, rfl⟩ ?_
  rintro x ⟨hx, ha⟩
  dsimp only at hx ha ⊢
  refine wpv_ok Γok (by kernel_rfl) _ _ _ ?_; conv => whnf
  refine bool_cases (fun hc => ?_) (fun hc => ?_)
  · have hc := of_decide_eq_true hc
    have hc : root < x := by omega
    have hl : x < L.length := by omega
    have st := anc_step h hl hc
    have pl := parN_lt h hl (by omega)
    have pe := parN_eq hl
    have pp := h.par x hl (by omega)
    conv => whnf
    try (refine ⟨by kernel_rfl, ?_⟩; conv => whnf)
    refine bindP_intro (if_pos (inB_ok (by omega) (by omega))) ?_; conv => whnf
    refine bindP_intro (bl_par (i := x) (by dsimp only; omega) hl) ?_
    conv => whnf
    try (refine ⟨by kernel_rfl, ?_⟩; conv => whnf)
    refine next_round (y := x) G0ok (parN L x) [(0, some 0)] rfl ⟨⟨_, rfl, .ptr rfl⟩, ⟨_, rfl, conv_nI (rfl)⟩, ⟨_, rfl, conv_nI (by omega)⟩, trivial⟩ ⟨.inr ⟨_, _, rfl, rfl, .same (nT)⟩, trivial⟩ ⟨by omega, by rw [← st]; exact ha⟩ pl
  · have hc := of_decide_eq_false hc
    have st : anc L root x = x := anc_stop (by omega)
    conv => whnf
    try (refine ⟨by kernel_rfl, ?_⟩; conv => whnf)
    rw [show (((x : Nat) : Int) == (root : Int)) = decide (x = root) from beq_lit _ _, show decide (x = root) = decide (anc L root b = root) from by rw [← ha, st]]
    conv => whnf
    try (refine ⟨by kernel_rfl, ?_⟩; conv => whnf)
    exact ⟨_, rfl, rfl⟩
def bestStep (L : List BlD) (r top i : Nat) : Nat := if anc L r i = r ∧ (L.getD top ⟨-1, 0⟩).h < (L.getD i ⟨-1, 0⟩).h then i else top
def bestN (L : List BlD) (r : Nat) : Nat → Nat
  | 0 => r
  | i + 1 => bestStep L r (bestN L r i) i
theorem bestN_lt {L : List BlD} {r : Nat} (hr : r < L.length) : ∀ i, i ≤ L.length → bestN L r i < L.length
  | 0, _ => hr
  | i + 1, h => by
    rw [bestN, bestStep]
    split
    · omega
    · exact bestN_lt hr i (by omega)
theorem best_fn {f : Bool} {L : List BlD} {bb r : Nat} (h : BlsOk L) (hr : r < L.length) : FnV Try.prog G0 60 [treeV f L bb r] (nI .i64 (bestN L r L.length)) := by
  have nB' : noHs (rows BlD.cells L) = true := rows_noHs blD_noHs L
  have h40 := h.most
  have nT : noHs [VV.ds f L.length (rows BlD.cells L), nI .i64 bb, nI .i64 r] = true := by simp only [noHs, noH, nI, nB', Bool.and_self]
  unfold treeV
  refine fn_of_vwp Γok Try.func60 (by kernel_rfl) rfl (by simp [Try.ntmps60]) (wpv_ok Γok (by kernel_rfl) _ _ _ ?_); conv => whnf
  refine vloop_invK G0ok [(0, some 0)] 1 (X := Nat) (fun i => [(11, nI .i64 i), (10, nI .i64 L.length), (9, .ds f L.length (rows BlD.cells L)), (3, nI .i64 (bestN L r i)), (1, .ptr 0 0)]) (fun _ => [(0, some [.ds f L.length (rows BlD.cells L), nI .i64 bb, nI .i64 r])]) (fun i => i ≤ L.length) (fun i => L.length - i) 0 rfl
    ⟨⟨_, rfl, conv_nI (rfl)⟩, ⟨_, rfl, conv_nI (rfl)⟩, ⟨_, rfl, conv_eq rfl (nB')⟩, ⟨_, rfl, conv_nI (rfl)⟩, ⟨_, rfl, .ptr rfl⟩, trivial⟩ ⟨.inr ⟨_, _, rfl, rfl, .same (nT)⟩, trivial⟩ (Nat.zero_le _) ?_
  intro i hi
  dsimp only at hi ⊢
  refine wpv_ok Γok (by kernel_rfl) _ _ _ ?_; conv => whnf
  refine bool_cases (fun hc => ?_) (fun hc => ?_)
  · have hc := of_decide_eq_true hc
    have hc : i < L.length := by omega
    have ab := above_fn (f := f) (bb := bb) (rr := r) (b := i) (root := r) h hc
    have bl := bestN_lt hr i hi
    have nx : bestN L r (i + 1) = bestStep L r (bestN L r i) i := rfl
    unfold bestStep at nx
    rw [List.getD_eq_getElem?_getD, List.getD_eq_getElem?_getD, List.getElem?_eq_getElem hc, List.getElem?_eq_getElem bl, Option.getD_some, Option.getD_some] at nx
    have ph := bl_h (M := L) (i := bestN L r i) rfl bl
    unfold treeV at ab
    conv => whnf
    try (refine ⟨by kernel_rfl, ?_⟩; conv => whnf)
    refine bindP_intro (if_pos (inB_ok (by omega) (by omega))) ?_; conv => whnf
    refine bindP_intro (row_load (i := i) (w := 3) rfl rfl rfl (fun a _ => blD_len a) (by dsimp only; omega) hc) ?_
    refine gen_ex L[i] fun s es => ?_
    rw [← es] at nx ⊢
    clear es
    have sc : s.cells = [nI .i64 s.par, nI .i64 s.h, .ds true 0 []] := rfl
    rw [sc]
    conv => whnf
    try (refine ⟨by kernel_rfl, ?_⟩; conv => whnf)
    refine ⟨_, ret_of_fn G0ok (ab) (by first | rfl | simp only [noHs, noH, nI, bI, Bool.and_self, Bool.and_true, Bool.true_and, nB']) (by first | rfl | simp only [noHs, noH, nI, bI, Bool.and_self, Bool.and_true, Bool.true_and, nB']), ?_⟩; (conv => whnf); (try (refine ⟨by kernel_rfl, ?_⟩; conv => whnf))
    by_cases ha : anc L r i = r
    · rw [decide_eq_true ha]
      conv => whnf
      try (refine ⟨by kernel_rfl, ?_⟩; conv => whnf)
      refine bindP_intro (if_pos (inB_ok (by omega) (by omega))) ?_; conv => whnf
      refine bindP_intro (bl_h (M := L) (i := bestN L r i) (by dsimp only; omega) bl) ?_
      conv => whnf
      try (refine ⟨by kernel_rfl, ?_⟩; conv => whnf)
      by_cases hh : (L[bestN L r i]'bl).h < s.h
      · rw [decide_eq_true (show ((s.h : Nat) : Int) > (((L[bestN L r i]'bl).h : Nat) : Int) by omega)]
        rw [if_pos ⟨ha, hh⟩] at nx
        conv => whnf
        try (refine ⟨by kernel_rfl, ?_⟩; conv => whnf)
        refine next_round (y := i) G0ok (i + 1) [(0, some 0)] rfl ⟨⟨_, rfl, conv_nI (ws_i64 (by omega) (by omega))⟩, ⟨_, rfl, conv_nI (rfl)⟩, ⟨_, rfl, conv_eq rfl (nB')⟩, ⟨_, rfl, conv_nI (by rw [nx])⟩, ⟨_, rfl, .ptr rfl⟩, trivial⟩ ⟨.inr ⟨_, _, rfl, rfl, .same (nT)⟩, trivial⟩ (by omega) (by omega)
      · rw [decide_eq_false (show ¬ ((s.h : Nat) : Int) > (((L[bestN L r i]'bl).h : Nat) : Int) by omega)]
        rw [if_neg (fun g => hh g.2)] at nx
        conv => whnf
        try (refine ⟨by kernel_rfl, ?_⟩; conv => whnf)
        refine next_round (y := i) G0ok (i + 1) [(0, some 0)] rfl ⟨⟨_, rfl, conv_nI (ws_i64 (by omega) (by omega))⟩, ⟨_, rfl, conv_nI (rfl)⟩, ⟨_, rfl, conv_eq rfl (nB')⟩, ⟨_, rfl, conv_nI (by rw [nx])⟩, ⟨_, rfl, .ptr rfl⟩, trivial⟩ ⟨.inr ⟨_, _, rfl, rfl, .same (nT)⟩, trivial⟩ (by omega) (by omega)
    · rw [decide_eq_false ha]
      rw [if_neg (fun hh => ha hh.1)] at nx
      conv => whnf
      try (refine ⟨by kernel_rfl, ?_⟩; conv => whnf)
      refine next_round (y := i) G0ok (i + 1) [(0, some 0)] rfl ⟨⟨_, rfl, conv_nI (ws_i64 (by omega) (by omega))⟩, ⟨_, rfl, conv_nI (rfl)⟩, ⟨_, rfl, conv_eq rfl (nB')⟩, ⟨_, rfl, conv_nI (by rw [nx])⟩, ⟨_, rfl, .ptr rfl⟩, trivial⟩ ⟨.inr ⟨_, _, rfl, rfl, .same (nT)⟩, trivial⟩ (by omega) (by omega)
  · have hc := of_decide_eq_false hc
    have e : i = L.length := by omega
    subst e
    conv => whnf
    try (refine ⟨by kernel_rfl, ?_⟩; conv => whnf)
    exact ⟨_, rfl, rfl⟩
theorem bl_hle {L : List BlD} (h : BlsOk L) : ∀ (n i : Nat) (hi : i < L.length), i ≤ n → L[i].h ≤ i
  | n, 0, hi, _ => by rw [(h.first hi).2]; exact Nat.le_refl _
  | 0, i + 1, _, hn => by omega
  | n + 1, i + 1, hi, hn => by
    have p := h.par (i + 1) hi (by omega)
    rw [h.high (i + 1) hi (by omega) (by omega)]
    have := bl_hle h n (L[i + 1].par.toNat) (by omega) (by omega)
    omega
theorem fcheck_fn {f : Bool} {L : List BlD} {b r : Nat} (h : BlsOk L) (hr : r < L.length) (hb : b = bestN L r L.length) : FnV Try.prog G0 27 [treeV f L b r] (nI .i64 0) := by
  have nB' : noHs (rows BlD.cells L) = true := rows_noHs blD_noHs L
  have h40 := h.most
  have h1 := h.some
  have bf := best_fn (f := f) (bb := b) h hr
  have nT : noHs [VV.ds f L.length (rows BlD.cells L), nI .i64 b, nI .i64 r] = true := by simp only [noHs, noH, nI, nB', Bool.and_self]
  unfold treeV at bf ⊢
  refine fn_of_vwp Γok Try.func27 (by kernel_rfl) rfl (by simp [Try.ntmps27]) (wpv_ok Γok (by kernel_rfl) _ _ _ ?_); conv => whnf
  rw [decide_eq_false (show ¬ ((L.length : Nat) : Int) < 1 by omega)]
  conv => whnf
  try (refine ⟨by kernel_rfl, ?_⟩; conv => whnf)
  rw [decide_eq_false (show ¬ ((L.length : Nat) : Int) > 40 by omega)]
  conv => whnf
  try (refine ⟨by kernel_rfl, ?_⟩; conv => whnf)
  refine vloop_invK G0ok [(0, some 0)] 1 (X := Nat) (fun i => [(18, nI .i64 i), (17, nI .i64 L.length), (16, .ds f L.length (rows BlD.cells L)), (2, nI .i64 0), (1, .ptr 0 0)]) (fun _ => [(0, some [.ds f L.length (rows BlD.cells L), nI .i64 b, nI .i64 r])]) (fun i => i ≤ L.length) (fun i => L.length - i) 0 rfl
    ⟨⟨_, rfl, conv_nI (rfl)⟩, ⟨_, rfl, conv_nI (rfl)⟩, ⟨_, rfl, conv_eq rfl (nB')⟩, ⟨_, rfl, conv_nI (rfl)⟩, ⟨_, rfl, .ptr rfl⟩, trivial⟩ ⟨.inr ⟨_, _, rfl, rfl, .same (nT)⟩, trivial⟩ (Nat.zero_le _) ?_
  intro i hi
  dsimp only at hi ⊢
  refine wpv_ok Γok (by kernel_rfl) _ _ _ ?_; conv => whnf
  refine bool_cases (fun hc => ?_) (fun hc => ?_)
  · have hc := of_decide_eq_true hc
    have hc : i < L.length := by omega
    have fi := h.first (by omega)
    have pa := h.par i hc
    have hg := h.high i hc
    conv => whnf
    try (refine ⟨by kernel_rfl, ?_⟩; conv => whnf)
    refine bindP_intro (if_pos (inB_ok (by omega) (by omega))) ?_; conv => whnf
    refine bindP_intro (row_load (i := i) (w := 3) rfl rfl rfl (fun a _ => blD_len a) (by dsimp only; omega) hc) ?_
    have s0 : ∀ (e : i = 0), L[i].par = -1 ∧ L[i].h = 0 := fun e => by subst e; exact fi
    refine gen_ex L[i] fun s es => ?_
    rw [← es] at s0 pa hg ⊢
    clear es
    have sc : s.cells = [nI .i64 s.par, nI .i64 s.h, .ds true 0 []] := rfl
    rw [sc]
    conv => whnf
    try (refine ⟨by kernel_rfl, ?_⟩; conv => whnf)
    by_cases i0 : i = 0
    · obtain ⟨p0, h0⟩ := s0 i0
      rw [show (((i : Nat) : Int) == 0) = decide (i = 0) from beq_lit _ 0, decide_eq_true i0, p0, h0]
      conv => whnf
      try (refine ⟨by kernel_rfl, ?_⟩; conv => whnf)
      rw [decide_eq_false (show ¬ ((i : Nat) : Int) > 0 by omega)]
      conv => whnf
      try (refine ⟨by kernel_rfl, ?_⟩; conv => whnf)
      refine next_round (y := i) G0ok (i + 1) [(0, some 0)] rfl ⟨⟨_, rfl, conv_nI (ws_i64 (by omega) (by omega))⟩, ⟨_, rfl, conv_nI (rfl)⟩, ⟨_, rfl, conv_eq rfl (nB')⟩, ⟨_, rfl, conv_nI (rfl)⟩, ⟨_, rfl, .ptr rfl⟩, trivial⟩ ⟨.inr ⟨_, _, rfl, rfl, .same (nT)⟩, trivial⟩ (by omega) (by omega)
    · obtain ⟨pa1, pa2⟩ := pa (by omega)
      have hp2 : s.par.toNat < L.length := by omega
      have hle := bl_hle h _ s.par.toNat hp2 (Nat.le_refl _)
      have hg := hg (by omega) hp2
      rw [show (((i : Nat) : Int) == 0) = decide (i = 0) from beq_lit _ 0, decide_eq_false i0]
      conv => whnf
      try (refine ⟨by kernel_rfl, ?_⟩; conv => whnf)
      rw [decide_eq_true (show ((i : Nat) : Int) > 0 by omega)]
      conv => whnf
      try (refine ⟨by kernel_rfl, ?_⟩; conv => whnf)
      rw [decide_eq_false (show ¬ s.par < 0 by omega)]
      conv => whnf
      try (refine ⟨by kernel_rfl, ?_⟩; conv => whnf)
      rw [decide_eq_false (show ¬ s.par ≥ (i : Int) by omega)]
      conv => whnf
      try (refine ⟨by kernel_rfl, ?_⟩; conv => whnf)
      refine bindP_intro (if_pos (inB_ok (by omega) (by omega))) ?_; conv => whnf
      refine bindP_intro (bl_h (M := L) (i := s.par.toNat) (by dsimp only) hp2) ?_
      conv => whnf
      try (refine ⟨by kernel_rfl, ?_⟩; conv => whnf)
      rw [ws_i64 (x := ((L[s.par.toNat].h : Nat) : Int) + 1) (by omega) (by omega), show (((s.h : Nat) : Int) != ((L[s.par.toNat].h : Nat) : Int) + 1) = false from by rw [hg]; exact bne_self_eq_false _]
      conv => whnf
      try (refine ⟨by kernel_rfl, ?_⟩; conv => whnf)
      refine next_round (y := i) G0ok (i + 1) [(0, some 0)] rfl ⟨⟨_, rfl, conv_nI (ws_i64 (by omega) (by omega))⟩, ⟨_, rfl, conv_nI (rfl)⟩, ⟨_, rfl, conv_eq rfl (nB')⟩, ⟨_, rfl, conv_nI (rfl)⟩, ⟨_, rfl, .ptr rfl⟩, trivial⟩ ⟨.inr ⟨_, _, rfl, rfl, .same (nT)⟩, trivial⟩ (by omega) (by omega)
  · have hc := of_decide_eq_false hc
    conv => whnf
    try (refine ⟨by kernel_rfl, ?_⟩; conv => whnf)
    rw [decide_eq_false (show ¬ (r : Int) < 0 by omega)]
    conv => whnf
    try (refine ⟨by kernel_rfl, ?_⟩; conv => whnf)
    rw [decide_eq_false (show ¬ (r : Int) ≥ ((L.length : Nat) : Int) by omega)]
    conv => whnf
    try (refine ⟨by kernel_rfl, ?_⟩; conv => whnf)
    refine ⟨_, ret_of_fn G0ok (bf) (by first | rfl | simp only [noHs, noH, nI, bI, Bool.and_self, Bool.and_true, Bool.true_and, nB']) (by first | rfl | simp only [noHs, noH, nI, bI, Bool.and_self, Bool.and_true, Bool.true_and, nB']), ?_⟩; (conv => whnf); (try (refine ⟨by kernel_rfl, ?_⟩; conv => whnf))
    rw [show (((b : Nat) : Int) != ((bestN L r L.length : Nat) : Int)) = false from by rw [hb]; exact bne_self_eq_false _]
    conv => whnf
    try (refine ⟨by kernel_rfl, ?_⟩; conv => whnf)
    exact ⟨_, rfl, rfl⟩
end Go.Proofs.Ytlecdiopokalgaa
namespace Go.Proofs.Ytlecdiopokalgaa
set_option linter.unusedVariables false
set_option linter.unusedSimpArgs false
set_option linter.unusedSectionVars false
open Go.ChangeShapes Go.WideShapes Go.ChangeAt Go.RowKit Go.Joins
set_option maxRecDepth 10000
theorem ffresh_fnH {f : Bool} {L : List BlD} {b r : Nat} (hL : L.length ≤ 100) : FnH Try.prog G0 59 [treeV f L b r] [] 0 (.agg [.sl 0 0 L.length 3, nI .i64 b, nI .i64 r]) [(0, some (rows BlD.cells L))] 1 := by
  have nB' : noHs (rows BlD.cells L) = true := rows_noHs blD_noHs L
  have nT : noHs [VV.ds f L.length (rows BlD.cells L), nI .i64 b, nI .i64 r] = true := by simp only [noHs, noH, nI, nB', Bool.and_self]
  unfold treeV
  refine fnH_of_vwp Γok G0ok Try.func59 (by kernel_rfl) rfl (by simp [Try.ntmps59]) (wpv_ok Γok (by kernel_rfl) _ _ _ ?_); conv => whnf
  refine vloop_invK G0ok [(0, some 0), (1, some 1), (2, none)] 3 (X := Nat) (fun i => [(12, nI .i64 i), (11, nI .i64 L.length), (10, .ds f L.length (rows BlD.cells L)), (3, .sl 2 0 i 3), (2, .ptr 1 0), (1, .ptr 0 0)]) (fun i => [(0, some [.ds f L.length (rows BlD.cells L), nI .i64 b, nI .i64 r]), (1, some [.ds true 0 [], nI .i64 0, nI .i64 0]), (2, some (rows BlD.cells (L.take i)))]) (fun i => i ≤ L.length) (fun i => L.length - i) 0 rfl
    ⟨⟨_, rfl, conv_nI (rfl)⟩, ⟨_, rfl, conv_nI (rfl)⟩, ⟨_, rfl, conv_eq rfl (nB')⟩, ⟨_, rfl, .null rfl⟩, ⟨_, rfl, .ptr rfl⟩, ⟨_, rfl, .ptr rfl⟩, trivial⟩ ⟨.inr ⟨_, _, rfl, rfl, .same (nT)⟩, .inr ⟨_, _, rfl, rfl, .same rfl⟩, .inl ⟨rfl, rfl⟩, trivial⟩ (Nat.zero_le _) ?_
  intro i hi
  dsimp only at hi ⊢
  refine wpv_ok Γok (by kernel_rfl) _ _ _ ?_; conv => whnf
  have rl : (rows BlD.cells (L.take i)).length = i * 3 := by rw [rows_length (w := 3) fun a _ => blD_len a, List.length_take, Nat.min_eq_left hi]
  refine bool_cases (fun hc => ?_) (fun hc => ?_)
  · have hc := of_decide_eq_true hc
    have hc : i < L.length := by omega
    have st : L.take (i + 1) = L.take i ++ [L[i]] := by rw [List.take_add_one, List.getElem?_eq_getElem hc]; rfl
    conv => whnf
    try (refine ⟨by kernel_rfl, ?_⟩; conv => whnf)
    refine bindP_intro (if_pos (inB_ok (by omega) (by omega))) ?_; conv => whnf
    refine bindP_intro (row_load (i := i) (w := 3) rfl rfl rfl (fun a _ => blD_len a) (by dsimp only; omega) hc) ?_
    refine gen_ex L[i] fun s es => ?_
    rw [← es] at st ⊢
    clear es
    have sc : s.cells = [nI .i64 s.par, nI .i64 s.h, .ds true 0 []] := rfl
    rw [sc]
    conv => whnf
    try (refine ⟨by kernel_rfl, ?_⟩; conv => whnf)
    refine vloop_unroll ?_
    refine wpv_ok Γok (by kernel_rfl) _ _ _ ?_; conv => whnf
    conv => whnf
    try (refine ⟨by kernel_rfl, ?_⟩; conv => whnf)
    refine .ownAs 1 s.cells rfl (by rw [sc]; rfl) ?_
    conv => whnf
    try (refine ⟨by kernel_rfl, ?_⟩; conv => whnf)
    refine onlyIf_intro (by show (Nat.beq (rows BlD.cells (L.take i)).length _ && _) = true; rw [rl]; simp [maxLen]; omega) ?_
    refine .ownAs (i + 1) (rows BlD.cells (L.take (i + 1))) rfl (by rw [st, rows_app, rows_one]) ?_
    conv => whnf
    try (refine ⟨by kernel_rfl, ?_⟩; conv => whnf)
    refine next_round (y := i) G0ok (i + 1) [(0, some 0), (1, some 1), (2, some 5)] rfl ⟨⟨_, rfl, conv_nI (ws_i64 (by omega) (by omega))⟩, ⟨_, rfl, conv_nI (rfl)⟩, ⟨_, rfl, conv_eq rfl (nB')⟩, ⟨_, rfl, .sl rfl⟩, ⟨_, rfl, .ptr rfl⟩, ⟨_, rfl, .ptr rfl⟩, trivial⟩ ⟨.inr ⟨_, _, rfl, rfl, .same (nT)⟩, .inr ⟨_, _, rfl, rfl, .same rfl⟩, .inr ⟨_, _, rfl, rfl, .same (rows_noHs blD_noHs _)⟩, trivial⟩ (by omega) (by omega)
  · have hc := of_decide_eq_false hc
    have e : i = L.length := by omega
    subst e
    rw [List.take_length]
    conv => whnf
    try (refine ⟨by kernel_rfl, ?_⟩; conv => whnf)
    exact ⟨_, rfl, [(0, some 2)], rfl, rfl, .agg (.cons (.sl rfl) (.cons (.same rfl) (.cons (.same rfl) .nil))), ⟨.inr ⟨_, _, rfl, rfl, .same (nB')⟩, trivial⟩⟩
end Go.Proofs.Ytlecdiopokalgaa
namespace Go.Proofs.Ytlecdiopokalgaa
set_option linter.unusedVariables false
set_option linter.unusedSimpArgs false
set_option linter.unusedSectionVars false
open Go.ChangeShapes Go.WideShapes Go.ChangeAt Go.RowKit Go.Joins
set_option maxRecDepth 10000
def bl0 : List BlD := [⟨-1, 0⟩]
theorem bl0_ok : BlsOk bl0 := by
  refine ⟨by decide, by decide, fun _ => ⟨rfl, rfl⟩, ?_, ?_⟩
  · intro i h h0
    have h : i < 1 := h
    omega
  · intro i h h0
    have h : i < 1 := h
    omega
theorem fbegin_fn : FnV Try.prog G0 57 [] (treeV false bl0 0 0) := by
  unfold treeV
  refine fn_of_vwp Γok Try.func57 (by kernel_rfl) rfl (by simp [Try.ntmps57]) (wpv_ok Γok (by kernel_rfl) _ _ _ ?_); conv => whnf
  refine .read 1 (rows BlD.cells bl0) rfl rfl rfl (rows_noHs blD_noHs _) ?_
  conv => whnf
  try (refine ⟨by kernel_rfl, ?_⟩; conv => whnf)
  exact ⟨_, rfl, deepV_noH _ _ (by show noHs [VV.ds false 1 (rows BlD.cells bl0), nI .i64 0, nI .i64 0] = true; rfl)⟩
theorem fgrow_none {f : Bool} {L : List BlD} {b r k : Nat} (h : BlsOk L) (hr : r < L.length) (hb : b = bestN L r L.length) (hk : L.length ≤ k) (hk2 : k ≤ 1000) : FnV Try.prog G0 23 [treeV f L b r, nI .i64 k, .ds true 0 []] (.tup [.agg [.ds true 0 [], nI .i64 0, nI .i64 0], nI .i64 5]) := by
  have nB' : noHs (rows BlD.cells L) = true := rows_noHs blD_noHs L
  have ck := fcheck_fn (f := f) h hr hb
  unfold treeV at ck ⊢
  refine fn_of_vwp Γok Try.func23 (by kernel_rfl) rfl (by simp [Try.ntmps23]) (wpv_ok Γok (by kernel_rfl) _ _ _ ?_); conv => whnf
  refine ⟨_, ret_of_fn G0ok (ck) (by first | rfl | simp only [noHs, noH, nI, bI, Bool.and_self, Bool.and_true, Bool.true_and, nB']) (by first | rfl | simp only [noHs, noH, nI, bI, Bool.and_self, Bool.and_true, Bool.true_and, nB']), ?_⟩; (conv => whnf); (try (refine ⟨by kernel_rfl, ?_⟩; conv => whnf))
  rw [decide_eq_false (show ¬ (k : Int) < 0 by omega)]
  conv => whnf
  try (refine ⟨by kernel_rfl, ?_⟩; conv => whnf)
  rw [decide_eq_true (show (k : Int) ≥ ((L.length : Nat) : Int) by omega)]
  conv => whnf
  try (refine ⟨by kernel_rfl, ?_⟩; conv => whnf)
  exact ⟨_, rfl, rfl⟩
theorem fgrow_late {f : Bool} {L : List BlD} {b r k : Nat} (h : BlsOk L) (hr : r < L.length) (hb : b = bestN L r L.length) (hk : k < L.length) (ha : ¬ anc L r k = r) : FnV Try.prog G0 23 [treeV f L b r, nI .i64 k, .ds true 0 []] (.tup [.agg [.ds true 0 [], nI .i64 0, nI .i64 0], nI .i64 15]) := by
  have nB' : noHs (rows BlD.cells L) = true := rows_noHs blD_noHs L
  have ck := fcheck_fn (f := f) h hr hb
  have ab := above_fn (f := f) (bb := b) (rr := r) (root := r) h hk
  rw [decide_eq_false ha] at ab
  unfold treeV at ck ab ⊢
  refine fn_of_vwp Γok Try.func23 (by kernel_rfl) rfl (by simp [Try.ntmps23]) (wpv_ok Γok (by kernel_rfl) _ _ _ ?_); conv => whnf
  refine ⟨_, ret_of_fn G0ok (ck) (by first | rfl | simp only [noHs, noH, nI, bI, Bool.and_self, Bool.and_true, Bool.true_and, nB']) (by first | rfl | simp only [noHs, noH, nI, bI, Bool.and_self, Bool.and_true, Bool.true_and, nB']), ?_⟩; (conv => whnf); (try (refine ⟨by kernel_rfl, ?_⟩; conv => whnf))
  rw [decide_eq_false (show ¬ (k : Int) < 0 by omega)]
  conv => whnf
  try (refine ⟨by kernel_rfl, ?_⟩; conv => whnf)
  rw [decide_eq_false (show ¬ (k : Int) ≥ ((L.length : Nat) : Int) by omega)]
  conv => whnf
  try (refine ⟨by kernel_rfl, ?_⟩; conv => whnf)
  refine ⟨_, ret_of_fn G0ok (ab) (by first | rfl | simp only [noHs, noH, nI, bI, Bool.and_self, Bool.and_true, Bool.true_and, nB']) (by first | rfl | simp only [noHs, noH, nI, bI, Bool.and_self, Bool.and_true, Bool.true_and, nB']), ?_⟩; (conv => whnf); (try (refine ⟨by kernel_rfl, ?_⟩; conv => whnf))
  exact ⟨_, rfl, rfl⟩
theorem fgrow_full {f : Bool} {L : List BlD} {b r k : Nat} (h : BlsOk L) (hr : r < L.length) (hb : b = bestN L r L.length) (hk : k < L.length) (ha : anc L r k = r) (h40 : L.length = 40) : FnV Try.prog G0 23 [treeV f L b r, nI .i64 k, .ds true 0 []] (.tup [.agg [.ds true 0 [], nI .i64 0, nI .i64 0], nI .i64 9]) := by
  have nB' : noHs (rows BlD.cells L) = true := rows_noHs blD_noHs L
  have ck := fcheck_fn (f := f) h hr hb
  have ab := above_fn (f := f) (bb := b) (rr := r) (root := r) h hk
  rw [decide_eq_true ha] at ab
  unfold treeV at ck ab ⊢
  refine fn_of_vwp Γok Try.func23 (by kernel_rfl) rfl (by simp [Try.ntmps23]) (wpv_ok Γok (by kernel_rfl) _ _ _ ?_); conv => whnf
  refine ⟨_, ret_of_fn G0ok (ck) (by first | rfl | simp only [noHs, noH, nI, bI, Bool.and_self, Bool.and_true, Bool.true_and, nB']) (by first | rfl | simp only [noHs, noH, nI, bI, Bool.and_self, Bool.and_true, Bool.true_and, nB']), ?_⟩; (conv => whnf); (try (refine ⟨by kernel_rfl, ?_⟩; conv => whnf))
  rw [decide_eq_false (show ¬ (k : Int) < 0 by omega)]
  conv => whnf
  try (refine ⟨by kernel_rfl, ?_⟩; conv => whnf)
  rw [decide_eq_false (show ¬ (k : Int) ≥ ((L.length : Nat) : Int) by omega)]
  conv => whnf
  try (refine ⟨by kernel_rfl, ?_⟩; conv => whnf)
  refine ⟨_, ret_of_fn G0ok (ab) (by first | rfl | simp only [noHs, noH, nI, bI, Bool.and_self, Bool.and_true, Bool.true_and, nB']) (by first | rfl | simp only [noHs, noH, nI, bI, Bool.and_self, Bool.and_true, Bool.true_and, nB']), ?_⟩; (conv => whnf); (try (refine ⟨by kernel_rfl, ?_⟩; conv => whnf))
  rw [show (((L.length : Nat) : Int) == 40) = decide (L.length = 40) from beq_lit _ 40, decide_eq_true h40]
  conv => whnf
  try (refine ⟨by kernel_rfl, ?_⟩; conv => whnf)
  exact ⟨_, rfl, rfl⟩
def growL (L : List BlD) (k : Nat) (hk : k < L.length) : List BlD := L ++ [⟨k, L[k].h + 1⟩]
theorem growL_ok {L : List BlD} {k : Nat} (h : BlsOk L) (hk : k < L.length) (h40 : L.length < 40) : BlsOk (growL L k hk) := by
  have ll : (growL L k hk).length = L.length + 1 := by unfold growL; rw [List.length_append, List.length_singleton]
  have lo : ∀ (i : Nat) (hi : i < L.length) (hi' : i < (growL L k hk).length), (growL L k hk)[i] = L[i] := fun i hi hi' => List.getElem_append_left hi
  have hi : ∀ (i : Nat) (hi : i = L.length) (hi' : i < (growL L k hk).length), (growL L k hk)[i] = ⟨k, L[k].h + 1⟩ := fun i hi hi' => by
    subst hi
    exact List.getElem_concat_length rfl _
  refine ⟨by omega, by omega, ?_, ?_, ?_⟩
  · intro h0
    rw [lo 0 (by omega) h0]
    exact h.first (by omega)
  · intro i hl h0
    rcases Nat.lt_or_ge i L.length with q | q
    · rw [lo i q hl]
      exact h.par i q h0
    · rw [hi i (by omega) hl]
      exact ⟨Int.natCast_nonneg _, by show (k : Int) < i; omega⟩
  · intro i hl h0 h'
    rcases Nat.lt_or_ge i L.length with q | q
    · have p := h.par i q h0
      have e := lo i q hl
      have h2 : L[i].par.toNat < L.length := by omega
      have g := h.high i q h0 h2
      have e2 : ∀ (j : Nat) (hj : j < (growL L k hk).length) (_ : j = L[i].par.toNat), (growL L k hk)[j].h = L[L[i].par.toNat].h := fun j hj ej => by
        subst ej
        rw [lo _ h2 hj]
      rw [e2 _ h' (by rw [e]), e]
      exact g
    · have e := hi i (by omega) hl
      have e2 : ∀ (j : Nat) (hj : j < (growL L k hk).length) (_ : j = k), (growL L k hk)[j].h = L[k].h := fun j hj ej => by
        subst ej
        rw [lo _ hk hj]
      rw [e2 _ h' (by rw [e]; rfl), e]
theorem vslice_rows3 {α : Type} {f : α → List VV} {w : Nat} {t e : TypeId} {r : TR} (ht : sliceOf Γ t = some (e, r)) (hr : r.size = w) {g : Bool} {n : Nat} {bs : List α} (hb : ∀ a ∈ bs, (f a).length = w) {lo : Option VV} {hi mx : VV} {l h : Nat} (hn : n = bs.length) (b1 : vb lo 0 = some l) (b2 : vb (some hi) n = some h) (b3 : vb (some mx) n = some h) (c1 : l ≤ h) (c2 : h ≤ n) :
    vslice Γ t (.ds g n (rows f bs)) lo (some hi) (some mx) = some (.ds (fullOf (some mx) g h h n) ((bs.drop l).take (h - l)).length (rows f ((bs.drop l).take (h - l)))) := by
  subst hn
  unfold vslice
  rw [ht]
  simp only [b1, b2, b3]
  rw [if_pos ⟨c1, Nat.le_refl _, c2, by simp⟩, hr, rows_drop l hb, rows_take _ fun a ha => hb a (List.mem_of_mem_drop ha)]
  rw [show ((bs.drop l).take (h - l)).length = h - l by simp; omega]
theorem ret_newA {g : FuncId} {args : List VV} {n c w : Nat} {b r : Nat} {cs : List VV} {lkf : Nat → Option (List VV)} (h : FnH Try.prog G0 g args [] 0 (.agg [.sl 0 0 c w, nI .i64 b, nI .i64 r]) [(0, some cs)] 1) (na : noHs args = true) (nc : noHs cs = true) :
    Ret Try.prog G0 g args lkf n ⟨.agg [.sl n 0 c w, nI .i64 b, nI .i64 r], [], [(n, some cs)], 1⟩ :=
  ret_fnH G0ok h [] rfl rfl rfl (lowVs_noHs na) rfl trivial ⟨trivial, fun ds e => (Option.some.inj (show some cs = some ds from e)) ▸ lowVs_noHs nc⟩ (rnVs_no _ _ na) rfl (by show [(n + 0, some (rnVs _ cs))] = _; rw [rnVs_no _ _ nc]; rfl)
theorem fgrow_ok {f : Bool} {L : List BlD} {b r k : Nat} (h : BlsOk L) (hr : r < L.length) (hb : b = bestN L r L.length) (hk : k < L.length) (ha : anc L r k = r) (h40 : L.length < 40) : FnV Try.prog G0 23 [treeV f L b r, nI .i64 k, .ds true 0 []] (.tup [treeV false (growL L k hk) (bestN (growL L k hk) r (growL L k hk).length) r, nI .i64 0]) := by
  have nB' : noHs (rows BlD.cells L) = true := rows_noHs blD_noHs L
  have ck := fcheck_fn (f := f) h hr hb
  have ab := above_fn (f := f) (bb := b) (rr := r) (root := r) h hk
  rw [decide_eq_true ha] at ab
  have gl := growL_ok h hk h40
  have ll : (growL L k hk).length = L.length + 1 := by unfold growL; rw [List.length_append, List.length_singleton]
  have bs := best_fn (f := false) (bb := b) (r := r) gl (by omega)
  have fr := ffresh_fnH (f := false) (L := growL L k hk) (b := b) (r := r) (by omega)
  have hle := bl_hle h _ k hk (Nat.le_refl _)
  have gc : (rows BlD.cells (growL L k hk)).length = (L.length + 1) * 3 := by rw [rows_length (w := 3) fun a _ => blD_len a, ll]
  unfold treeV at *
  rw [ll] at fr bs ⊢
  refine fn_of_vwp Γok Try.func23 (by kernel_rfl) rfl (by simp [Try.ntmps23]) (wpv_ok Γok (by kernel_rfl) _ _ _ ?_); conv => whnf
  refine ⟨_, ret_of_fn G0ok (ck) (by first | rfl | simp only [noHs, noH, nI, bI, Bool.and_self, Bool.and_true, Bool.true_and, nB']) (by first | rfl | simp only [noHs, noH, nI, bI, Bool.and_self, Bool.and_true, Bool.true_and, nB']), ?_⟩; (conv => whnf); (try (refine ⟨by kernel_rfl, ?_⟩; conv => whnf))
  rw [decide_eq_false (show ¬ (k : Int) < 0 by omega)]
  conv => whnf
  try (refine ⟨by kernel_rfl, ?_⟩; conv => whnf)
  rw [decide_eq_false (show ¬ (k : Int) ≥ ((L.length : Nat) : Int) by omega)]
  conv => whnf
  try (refine ⟨by kernel_rfl, ?_⟩; conv => whnf)
  refine ⟨_, ret_of_fn G0ok (ab) (by first | rfl | simp only [noHs, noH, nI, bI, Bool.and_self, Bool.and_true, Bool.true_and, nB']) (by first | rfl | simp only [noHs, noH, nI, bI, Bool.and_self, Bool.and_true, Bool.true_and, nB']), ?_⟩; (conv => whnf); (try (refine ⟨by kernel_rfl, ?_⟩; conv => whnf))
  rw [show (((L.length : Nat) : Int) == 40) = decide (L.length = 40) from beq_lit _ 40, decide_eq_false (show ¬ L.length = 40 by omega)]
  conv => whnf
  try (refine ⟨by kernel_rfl, ?_⟩; conv => whnf)
  have eT : (L.drop 0).take (L.length - 0) = L := List.take_length
  have rl : (rows BlD.cells L).length = L.length * 3 := rows_length (w := 3) fun a _ => blD_len a
  refine bindP_intro (vpure_slice (vslice_rows3 (f := BlD.cells) (w := 3) rfl rfl (fun a _ => blD_len a) rfl (by rfl) vb_nat vb_nat (Nat.zero_le _) (Nat.le_refl _))) ?_
  rw [eT]
  conv => whnf
  try (refine ⟨by kernel_rfl, ?_⟩; conv => whnf)
  refine bindP_intro (if_pos (inB_ok (by omega) (by omega))) ?_; conv => whnf
  refine bindP_intro (bl_h (M := L) (i := k) (by dsimp only; omega) hk) ?_
  conv => whnf
  try (refine ⟨by kernel_rfl, ?_⟩; conv => whnf)
  rw [ws_i64 (x := ((L[k].h : Nat) : Int) + 1) (by omega) (by omega), show ((L[k].h : Nat) : Int) + 1 = ((L[k].h + 1 : Nat) : Int) from rfl]
  conv => whnf
  try (refine ⟨by kernel_rfl, ?_⟩; conv => whnf)
  refine .ownAs 1 (rows BlD.cells [⟨k, L[k].h + 1⟩]) rfl rfl ?_
  conv => whnf
  try (refine ⟨by kernel_rfl, ?_⟩; conv => whnf)
  refine onlyIf_intro (by simp [maxLen, rl, fullOf]; omega) ?_
  refine condP_t (by simp) ?_
  refine .read (L.length + 1) (rows BlD.cells (growL L k hk)) rfl (by unfold growL; rw [rows_app]) (by rw [rows_length (w := 3) fun a _ => blD_len a, ll]) (rows_noHs blD_noHs _) ?_
  conv => whnf
  try (refine ⟨by kernel_rfl, ?_⟩; conv => whnf)
  refine ⟨_, ret_newA fr (show noHs [VV.agg [VV.ds false (L.length + 1) (rows BlD.cells (growL L k hk)), nI .i64 b, nI .i64 r]] = true from by simp only [noHs, noH, nI, rows_noHs blD_noHs, Bool.and_self]) (rows_noHs blD_noHs _), ?_⟩
  conv => whnf
  try (refine ⟨by kernel_rfl, ?_⟩; conv => whnf)
  refine ⟨_, ret_own [4] G0ok (bs) (mapO_cons (deep_agg rfl (mapO_cons (deep_row rfl gc (rows_noHs blD_noHs _)) (mapO_cons (deepV_noH _ _ rfl) (mapO_cons (deepV_noH _ _ rfl) mapO_nil)))) mapO_nil) rfl, ?_⟩; (conv => whnf); (try (refine ⟨by kernel_rfl, ?_⟩; conv => whnf))
  exact ⟨_, rfl, deep_tup (mapO_cons (deep_agg rfl (mapO_cons (deep_row rfl gc (rows_noHs blD_noHs _)) (mapO_cons (deepV_noH _ _ rfl) (mapO_cons (deepV_noH _ _ rfl) mapO_nil)))) (mapO_cons (deepV_noH _ _ rfl) mapO_nil))⟩
end Go.Proofs.Ytlecdiopokalgaa
namespace Go.Proofs.Ytlecdiopokalgaa
set_option linter.unusedVariables false
set_option linter.unusedSimpArgs false
set_option linter.unusedSectionVars false
open Go.ChangeShapes Go.WideShapes Go.ChangeAt Go.RowKit Go.Joins
set_option maxRecDepth 10000
def natsC (A : List Nat) : List VV := A.map fun (n : Nat) => nI .i64 n
theorem natsC_noHs : ∀ (A : List Nat), noHs (natsC A) = true
  | [] => rfl
  | a :: A => by
    show (noH (nI .i64 a) && noHs (natsC A)) = true
    rw [natsC_noHs A]
    rfl
/-- Above which block a block stands, and one more: 0 for the first. -/
def upN (L : List BlD) (b : Nat) : Nat := ((L.getD b ⟨-1, 0⟩).par + 1).toNat
def pathF (L : List BlD) : Nat → Nat → List Nat
  | _, 0 => []
  | 0, _ + 1 => []
  | n + 1, y + 1 => pathF L n (upN L y) ++ [y]
def path (L : List BlD) (b : Nat) : List Nat := pathF L (b + 1) (b + 1)
theorem upN_eq {L : List BlD} {b : Nat} (h : b < L.length) : upN L b = (L[b].par + 1).toNat := by
  unfold upN
  rw [List.getD_eq_getElem?_getD, List.getElem?_eq_getElem h]
  rfl
theorem upN_le {L : List BlD} (h : BlsOk L) {b : Nat} (hb : b < L.length) : upN L b ≤ b ∧ ((upN L b : Nat) : Int) = L[b].par + 1 := by
  rw [upN_eq hb]
  rcases Nat.eq_zero_or_pos b with h0 | h0
  · subst h0
    rw [(h.first hb).1]
    exact ⟨Nat.le_refl _, rfl⟩
  · have := h.par b hb h0
    omega
theorem pathF_le {L : List BlD} (h : BlsOk L) : ∀ (n m y : Nat), y ≤ L.length → y ≤ n → y ≤ m → pathF L n y = pathF L m y
  | n, m, 0, _, _, _ => by cases n <;> cases m <;> rfl
  | 0, _, y + 1, _, hn, _ => by omega
  | _ + 1, 0, y + 1, _, _, hm => by omega
  | n + 1, m + 1, y + 1, hy, hn, hm => by
    have := (upN_le h (show y < L.length by omega)).1
    unfold pathF
    rw [pathF_le h n m (upN L y) (by omega) (by omega) (by omega)]
theorem line_fn {f : Bool} {L : List BlD} {b r k : Nat} (h : BlsOk L) (hk : k < L.length) : FnV Try.prog G0 61 [treeV f L b r, nI .i64 k] (.ds false (path L k).length (natsC (path L k))) := by
  have nB' : noHs (rows BlD.cells L) = true := rows_noHs blD_noHs L
  have nT : noHs [VV.ds f L.length (rows BlD.cells L), nI .i64 b, nI .i64 r] = true := by simp only [noHs, noH, nI, nB', Bool.and_self]
  unfold treeV
  refine fn_of_vwp Γok Try.func61 (by kernel_rfl) rfl (by simp [Try.ntmps61]) (wpv_ok Γok (by kernel_rfl) _ _ _ ?_); conv => whnf
  have p0 : pathF L L.length (k + 1) ++ [] = path L k := by rw [List.append_nil]; exact pathF_le h _ _ _ hk hk (Nat.le_refl _)
  have h40 := h.most
  refine vloop_invK G0ok [(0, some 0), (1, none)] 2 (X := Nat × List Nat) (fun y => [(6, nI .i64 ((y.1 : Int) - 1)), (5, .sl 1 0 y.2.length 1), (2, .ptr 0 0)]) (fun y => [(0, some [.ds f L.length (rows BlD.cells L), nI .i64 b, nI .i64 r]), (1, some (natsC y.2))])
    (fun y => y.1 + y.2.length ≤ k + 1 ∧ pathF L L.length y.1 ++ y.2 = path L k) (fun y => y.1) (k + 1, []) rfl
    ⟨⟨_, rfl, conv_nI (by dsimp only; omega)⟩, ⟨_, rfl, .null rfl⟩, ⟨_, rfl, .ptr rfl⟩, trivial⟩ ⟨.inr ⟨_, _, rfl, rfl, .same (nT)⟩, .inl ⟨rfl, rfl⟩, trivial⟩ ⟨Nat.le_refl _, p0⟩ ?_
  rintro ⟨y, o⟩ ⟨hy, ho⟩
  dsimp only at hy ho ⊢
  refine wpv_ok Γok (by kernel_rfl) _ _ _ ?_; conv => whnf
  refine bool_cases (fun hc => ?_) (fun hc => ?_)
  · have hc := of_decide_eq_true hc
    have hc : 1 ≤ y := by omega
    obtain ⟨x, rfl⟩ : ∃ x, y = x + 1 := ⟨y - 1, by omega⟩
    have hx : x < L.length := by omega
    obtain ⟨u1, u2⟩ := upN_le h hx
    have nx : pathF L L.length (upN L x) ++ x :: o = path L k := by
      rw [← ho, pathF_le h L.length (L.length + 1) (x + 1) (by omega) (by omega) (by omega), pathF, List.append_assoc]
      rfl
    have ol : (natsC o).length = o.length := by unfold natsC; rw [List.length_map]
    rw [show ((x + 1 : Nat) : Int) - 1 = (x : Int) from by omega]
    conv => whnf
    try (refine ⟨by kernel_rfl, ?_⟩; conv => whnf)
    refine .ownAs 1 [nI .i64 x] rfl rfl ?_
    conv => whnf
    try (refine ⟨by kernel_rfl, ?_⟩; conv => whnf)
    refine bindP_intro (view_whole rfl (by rw [ol]; simp)) ?_
    conv => whnf
    try (refine ⟨by kernel_rfl, ?_⟩; conv => whnf)
    refine onlyIf_intro (by simp [maxLen, ol]) ?_
    conv => whnf
    try (refine ⟨by kernel_rfl, ?_⟩; conv => whnf)
    refine onlyIf_intro (by simp [maxLen, ol]; omega) ?_
    refine .ownAs (o.length + 1) (natsC (x :: o)) (Nat.add_comm _ _) rfl ?_
    conv => whnf
    try (refine ⟨by kernel_rfl, ?_⟩; conv => whnf)
    refine bindP_intro (if_pos (inB_ok (by omega) (by omega))) ?_; conv => whnf
    refine bindP_intro (bl_par (i := x) (by dsimp only; omega) hx) ?_
    conv => whnf
    try (refine ⟨by kernel_rfl, ?_⟩; conv => whnf)
    refine next_round (y := (x + 1, o)) G0ok (upN L x, x :: o) [(0, some 0), (1, some 3)] rfl ⟨⟨_, rfl, conv_nI (by dsimp only; omega)⟩, ⟨_, rfl, .sl rfl⟩, ⟨_, rfl, .ptr rfl⟩, trivial⟩ ⟨.inr ⟨_, _, rfl, rfl, .same (nT)⟩, .inr ⟨_, _, rfl, rfl, .same (natsC_noHs _)⟩, trivial⟩ ⟨by show _ + (o.length + 1) ≤ _; omega, nx⟩ (by dsimp only; omega)
  · have hc := of_decide_eq_false hc
    have e : y = 0 := by omega
    subst e
    have e : o = path L k := by rw [← ho]; cases L.length <;> rfl
    subst e
    conv => whnf
    try (refine ⟨by kernel_rfl, ?_⟩; conv => whnf)
    exact ⟨_, rfl, deep_row rfl (by unfold natsC; rw [List.length_map, Nat.mul_one]) (natsC_noHs _)⟩
end Go.Proofs.Ytlecdiopokalgaa
namespace Go.Proofs.Ytlecdiopokalgaa
set_option linter.unusedVariables false
set_option linter.unusedSimpArgs false
set_option linter.unusedSectionVars false
theorem path_zero {L : List BlD} (h : BlsOk L) : path L 0 = [0] := by
  have h0 : 0 < L.length := h.some
  have : upN L 0 = 0 := by rw [upN_eq h0, (h.first h0).1]; rfl
  unfold path pathF
  rw [this]
  rfl
theorem path_succ {L : List BlD} (h : BlsOk L) {b : Nat} (hb : b < L.length) (h0 : 0 < b) : path L b = path L (parN L b) ++ [b] := by
  have p := h.par b hb h0
  have u : upN L b = parN L b + 1 := by rw [upN_eq hb, parN_eq hb]; omega
  have q := parN_lt h hb h0
  show pathF L (b + 1) (b + 1) = _
  rw [pathF, u]
  rw [pathF_le h b (parN L b + 1) (parN L b + 1) (by omega) (by omega) (Nat.le_refl _)]
  rfl
theorem bl_high {L : List BlD} (h : BlsOk L) {b : Nat} (hb : b < L.length) (h0 : 0 < b) (hp : parN L b < L.length) : L[b].h = L[parN L b].h + 1 := by
  have q := parN_lt h hb h0
  have e := parN_eq hb
  have := h.high b hb h0 (by omega)
  rw [this]
  congr 2
  exact (getElem_congr_idx e).symm
theorem path_len {L : List BlD} (h : BlsOk L) : ∀ (n b : Nat) (hb : b < L.length), b ≤ n → (path L b).length = L[b].h + 1
  | n, 0, hb, _ => by rw [path_zero h, (h.first hb).2]; rfl
  | 0, b + 1, _, hn => by omega
  | n + 1, b + 1, hb, hn => by
    have q := parN_lt h hb (by omega)
    rw [path_succ h hb (by omega), List.length_append, path_len h n _ (by omega) (by omega), bl_high h hb (by omega) (by omega)]
    rfl
theorem path_last {L : List BlD} (h : BlsOk L) {b : Nat} (hb : b < L.length) : ∃ l, path L b = l ++ [b] := by
  rcases Nat.eq_zero_or_pos b with h0 | h0
  · subst h0
    exact ⟨[], path_zero h⟩
  · exact ⟨_, path_succ h hb h0⟩
theorem path_le {L : List BlD} (h : BlsOk L) : ∀ (n b : Nat), b < L.length → b ≤ n → ∀ x ∈ path L b, x ≤ b
  | n, 0, hb, _, x, hx => by rw [path_zero h] at hx; rw [List.mem_singleton.1 hx]; exact Nat.le_refl _
  | 0, b + 1, _, hn, _, _ => by omega
  | n + 1, b + 1, hb, hn, x, hx => by
    have q := parN_lt h hb (by omega)
    rw [path_succ h hb (by omega)] at hx
    rcases List.mem_append.1 hx with g | g
    · have := path_le h n _ (by omega) (by omega) x g
      omega
    · rw [List.mem_singleton.1 g]; exact Nat.le_refl _
theorem path_inj {L : List BlD} (h : BlsOk L) {a b : Nat} (ha : a < L.length) (hb : b < L.length) (e : path L a = path L b) : a = b := by
  obtain ⟨l, el⟩ := path_last h ha
  obtain ⟨m, em⟩ := path_last h hb
  rw [el, em] at e
  have := (List.append_inj' e rfl).2
  simpa using this
theorem anc_path {L : List BlD} (h : BlsOk L) {r : Nat} (hr : r < L.length) : ∀ (n b : Nat), b < L.length → b ≤ n → (anc L r b = r ↔ path L r <+: path L b) := by
  intro n
  induction n with
  | zero =>
    intro b hb hn
    have b0 : b = 0 := by omega
    subst b0
    rw [anc_stop (by omega)]
    constructor
    · intro e; subst e; exact List.prefix_refl _
    · intro e
      have : r ∈ path L 0 := e.subset (by obtain ⟨l, el⟩ := path_last h hr; rw [el]; simp)
      have := path_le h 0 0 hb (Nat.le_refl _) r this
      omega
  | succ n ih =>
    intro b hb hn
    by_cases q : r < b
    · have p := parN_lt h hb (by omega)
      rw [anc_step h hb q, ih _ (by omega) (by omega), path_succ h hb (by omega)]
      constructor
      · intro e; exact e.trans (List.prefix_append _ _)
      · intro e
        rcases List.prefix_concat_iff.1 e with g | g
        · rw [← path_succ h hb (by omega)] at g
          have := path_inj h hr hb g
          omega
        · exact g
    · rw [anc_stop q]
      constructor
      · intro e; subst e; exact List.prefix_refl _
      · intro e
        have : r ∈ path L b := e.subset (by obtain ⟨l, el⟩ := path_last h hr; rw [el]; simp)
        have := path_le h b b hb (Nat.le_refl _) r this
        omega
def Abv (L : List BlD) (r b : Nat) : Prop := anc L r b = r
theorem abv_iff {L : List BlD} (h : BlsOk L) {r b : Nat} (hr : r < L.length) (hb : b < L.length) : Abv L r b ↔ path L r <+: path L b := anc_path h hr b b hb (Nat.le_refl _)
theorem abv_le {L : List BlD} (h : BlsOk L) {r b : Nat} (hr : r < L.length) (hb : b < L.length) (a : Abv L r b) : r ≤ b ∧ L[r].h ≤ L[b].h ∧ (L[r].h = L[b].h → r = b) := by
  have p := (abv_iff h hr hb).1 a
  have l := p.length_le
  rw [path_len h r r hr (Nat.le_refl _), path_len h b b hb (Nat.le_refl _)] at l
  refine ⟨?_, by omega, fun e => ?_⟩
  · have : r ∈ path L b := p.subset (by obtain ⟨l, el⟩ := path_last h hr; rw [el]; simp)
    exact path_le h b b hb (Nat.le_refl _) r this
  · refine path_inj h hr hb (p.eq_of_length ?_)
    rw [path_len h r r hr (Nat.le_refl _), path_len h b b hb (Nat.le_refl _), e]
theorem abv_refl {L : List BlD} {r : Nat} : Abv L r r := anc_stop (Nat.lt_irrefl _)
theorem abv_trans {L : List BlD} (h : BlsOk L) {a b c : Nat} (ha : a < L.length) (hb : b < L.length) (hc : c < L.length) (x : Abv L a b) (y : Abv L b c) : Abv L a c :=
  (abv_iff h ha hc).2 (((abv_iff h ha hb).1 x).trans ((abv_iff h hb hc).1 y))
/-- The first one of the highest above another. -/
structure IsBest (L : List BlD) (r b : Nat) (hb : b < L.length) : Prop where
  abv : Abv L r b
  high : ∀ (i : Nat) (h : i < L.length), Abv L r i → L[i].h < L[b].h ∨ (L[i].h = L[b].h ∧ b ≤ i)
theorem best_unique {L : List BlD} {r a b : Nat} {ha : a < L.length} {hb : b < L.length} (x : IsBest L r a ha) (y : IsBest L r b hb) : a = b := by
  have := x.high b hb y.abv
  have := y.high a ha x.abv
  omega
theorem bestN_or (L : List BlD) (r : Nat) : ∀ n, bestN L r n = r ∨ bestN L r n < n
  | 0 => .inl rfl
  | n + 1 => by
    have := bestN_or L r n
    rw [bestN, bestStep]
    split <;> omega
theorem bestN_is {L : List BlD} (h : BlsOk L) {r : Nat} (hr : r < L.length) : ∀ (n : Nat) (hn : n ≤ L.length), Abv L r (bestN L r n) ∧ ∀ (i : Nat) (hi : i < L.length) (hb : bestN L r n < L.length), i < n ∨ i = r → Abv L r i → L[i].h < L[bestN L r n].h ∨ (L[i].h = L[bestN L r n].h ∧ bestN L r n ≤ i)
  | 0, _ => ⟨abv_refl, fun i hi hb hn a => by
      have e : i = r := by omega
      subst e
      exact .inr ⟨rfl, Nat.le_refl _⟩⟩
  | n + 1, hn => by
    obtain ⟨a, b⟩ := bestN_is h hr n (by omega)
    have bl := bestN_lt hr n (by omega)
    have nl : n < L.length := by omega
    have gb : L.getD (bestN L r n) ⟨-1, 0⟩ = L[bestN L r n] := by rw [List.getD_eq_getElem?_getD, List.getElem?_eq_getElem bl]; rfl
    have gn : L.getD n ⟨-1, 0⟩ = L[n] := by rw [List.getD_eq_getElem?_getD, List.getElem?_eq_getElem nl]; rfl
    have e : bestN L r (n + 1) = bestStep L r (bestN L r n) n := rfl
    unfold bestStep at e
    rw [gb, gn] at e
    by_cases q : anc L r n = r ∧ L[bestN L r n].h < L[n].h
    · rw [if_pos q] at e
      rw [e]
      refine ⟨q.1, fun i hi hb hin ai => ?_⟩
      by_cases x : i = n
      · subst x; exact .inr ⟨rfl, Nat.le_refl _⟩
      · have := b i hi bl (by omega) ai
        omega
    · rw [if_neg q] at e
      rw [e]
      refine ⟨a, fun i hi hb hin ai => ?_⟩
      by_cases x : i < n ∨ i = r
      · exact b i hi bl x ai
      · have xe : i = n := by omega
        subst xe
        have nq : ¬ L[bestN L r i].h < L[i].h := fun g => q ⟨ai, g⟩
        by_cases rb : bestN L r i ≤ i
        · omega
        · have al := abv_le h hr hi ai
          have := b r hr bl (.inr rfl) abv_refl
          have := bestN_or L r i
          omega
theorem bestN_best {L : List BlD} (h : BlsOk L) {r : Nat} (hr : r < L.length) (hb : bestN L r L.length < L.length) : IsBest L r (bestN L r L.length) hb := by
  obtain ⟨a, b⟩ := bestN_is h hr L.length (Nat.le_refl _)
  exact ⟨a, fun i hi ai => b i hi hb (.inl hi) ai⟩
theorem path_at {L : List BlD} (h : BlsOk L) : ∀ (n b : Nat), b < L.length → b ≤ n → ∀ (i : Nat) (hi : i < (path L b).length), (path L b)[i] < L.length ∧ path L (path L b)[i] = (path L b).take (i + 1)
  | n, 0, hb, _, i, hi => by
    have e := path_zero h
    have i0 : i = 0 := by rw [e] at hi; simpa using hi
    subst i0
    have g : (path L 0)[0] = 0 := by simp [e]
    rw [g]
    exact ⟨hb, by rw [e]; rfl⟩
  | 0, b + 1, _, hn, _, _ => by omega
  | n + 1, b + 1, hb, hn, i, hi => by
    have q := parN_lt h hb (by omega)
    have e := path_succ h hb (by omega)
    have el : (path L (b + 1)).length = (path L (parN L (b + 1))).length + 1 := by rw [e]; simp
    rcases Nat.lt_or_ge i (path L (parN L (b + 1))).length with g | g
    · obtain ⟨x, y⟩ := path_at h n (parN L (b + 1)) (by omega) (by omega) i g
      have ei : (path L (b + 1))[i] = (path L (parN L (b + 1)))[i] := by simp only [e]; exact List.getElem_append_left g
      rw [ei]
      refine ⟨x, ?_⟩
      rw [y, e, List.take_append_of_le_length (by omega)]
    · have ie : i = (path L (parN L (b + 1))).length := by omega
      have ei : (path L (b + 1))[i] = b + 1 := by simp only [e]; subst ie; exact List.getElem_concat_length rfl _
      rw [ei]
      exact ⟨hb, by rw [List.take_of_length_le (by omega)]⟩
theorem prefix_take {α : Type} {a b : List α} (h : a <+: b) {n : Nat} (hn : a.length ≤ n) : a <+: b.take n := by
  rcases Nat.le_total n b.length with g | g
  · exact List.prefix_of_prefix_length_le h (List.take_prefix _ _) (by rw [List.length_take, Nat.min_eq_left g]; exact hn)
  · rw [List.take_of_length_le g]; exact h
/-- The final block moves up its best line: the best one stays. -/
theorem settle_is {L : List BlD} (h : BlsOk L) {r x : Nat} (hr : r < L.length) (hx : x < (path L (bestN L r L.length)).length) (lo : L[r].h ≤ x) :
    ∃ (l : (path L (bestN L r L.length))[x] < L.length), bestN L (path L (bestN L r L.length))[x] L.length = bestN L r L.length ∧ path L r <+: path L (path L (bestN L r L.length))[x] := by
  have bl := bestN_lt hr L.length (Nat.le_refl _)
  have ib := bestN_best h hr bl
  obtain ⟨a, e⟩ := path_at h _ (bestN L r L.length) bl (Nat.le_refl _) x hx
  revert a e
  generalize (path L (bestN L r L.length))[x] = s
  intro a e
  have pr : path L r <+: path L s := by
    rw [e]
    exact prefix_take ((abv_iff h hr bl).1 ib.abv) (by rw [path_len h r r hr (Nat.le_refl _)]; omega)
  refine ⟨a, ?_, pr⟩
  have bl2 := bestN_lt a L.length (Nat.le_refl _)
  refine (best_unique (bestN_best h a bl2) (?_ : IsBest L s (bestN L r L.length) bl))
  refine ⟨(abv_iff h a bl).2 (by rw [e]; exact List.take_prefix _ _), fun i hi ai => ib.high i hi ?_⟩
  exact abv_trans h hr a hi ((abv_iff h hr a).2 pr) ai
theorem grow_len {L : List BlD} {k : Nat} (hk : k < L.length) : (growL L k hk).length = L.length + 1 := by unfold growL; rw [List.length_append, List.length_singleton]
theorem grow_get {L : List BlD} {k i : Nat} (hk : k < L.length) (hi : i < L.length) (hi' : i < (growL L k hk).length) : (growL L k hk)[i] = L[i] := List.getElem_append_left hi
theorem grow_top {L : List BlD} {k : Nat} (hk : k < L.length) (hi' : L.length < (growL L k hk).length) : (growL L k hk)[L.length] = ⟨k, L[k].h + 1⟩ := List.getElem_concat_length rfl _
theorem grow_par {L : List BlD} {k i : Nat} (hk : k < L.length) (hi : i < L.length) : parN (growL L k hk) i = parN L i := by
  rw [parN_eq hi, parN_eq (show i < (growL L k hk).length by rw [grow_len]; omega), grow_get hk hi]
theorem grow_path {L : List BlD} {k : Nat} (h : BlsOk L) (hk : k < L.length) (h40 : L.length < 40) : ∀ (n b : Nat), b < L.length → b ≤ n → path (growL L k hk) b = path L b
  | n, 0, _, _ => by rw [path_zero h, path_zero (growL_ok h hk h40)]
  | 0, b + 1, _, hn => by omega
  | n + 1, b + 1, hb, hn => by
    have q := parN_lt h hb (by omega)
    rw [path_succ h hb (by omega), path_succ (growL_ok h hk h40) (by rw [grow_len]; omega) (by omega), grow_par hk hb, grow_path h hk h40 n _ (by omega) (by omega)]
theorem grow_anc {L : List BlD} {k : Nat} (h : BlsOk L) (hk : k < L.length) (h40 : L.length < 40) {r b : Nat} (hr : r < L.length) (hb : b < L.length) : Abv (growL L k hk) r b ↔ Abv L r b := by
  rw [abv_iff h hr hb, abv_iff (growL_ok h hk h40) (by rw [grow_len]; omega) (by rw [grow_len]; omega), grow_path h hk h40 _ _ hr (Nat.le_refl _), grow_path h hk h40 _ _ hb (Nat.le_refl _)]
theorem grow_best {L : List BlD} {k : Nat} (h : BlsOk L) (hk : k < L.length) (h40 : L.length < 40) {r : Nat} (hr : r < L.length) (bl : bestN L r L.length < L.length) (a : anc L r k = r) :
    bestN (growL L k hk) r (growL L k hk).length = if L[bestN L r L.length].h < L[k].h + 1 then L.length else bestN L r L.length := by
  have g := growL_ok h hk h40
  have gl := grow_len hk
  have hr' : r < (growL L k hk).length := by omega
  have bl2 := bestN_lt hr' _ (Nat.le_refl _)
  have ib := bestN_best h hr bl
  refine best_unique (bestN_best g hr' bl2) (?_ : IsBest _ r _ (by split <;> omega))
  have tp := grow_top hk (by omega)
  have up : Abv (growL L k hk) r L.length := by
    rw [Abv, anc_step g (by omega) hr, show parN (growL L k hk) L.length = k from by rw [parN_eq (by omega), tp]; rfl]
    exact (grow_anc h hk h40 hr hk).2 a
  by_cases q : L[bestN L r L.length].h < L[k].h + 1
  · refine ⟨by rw [if_pos q]; exact up, fun i hi ai => ?_⟩
    have e : (growL L k hk)[if L[bestN L r L.length].h < L[k].h + 1 then L.length else bestN L r L.length]'(by split <;> omega) = ⟨k, L[k].h + 1⟩ := by simp only [if_pos q]; exact tp
    rw [e]
    by_cases il : i = L.length
    · subst il; rw [tp]; exact .inr ⟨rfl, by rw [if_pos q]; exact Nat.le_refl _⟩
    · have il : i < L.length := by omega
      rw [grow_get hk il]
      have := ib.high i il ((grow_anc h hk h40 hr il).1 ai)
      dsimp only
      omega
  · refine ⟨by rw [if_neg q]; exact (grow_anc h hk h40 hr bl).2 ib.abv, fun i hi ai => ?_⟩
    have e : (growL L k hk)[if L[bestN L r L.length].h < L[k].h + 1 then L.length else bestN L r L.length]'(by split <;> omega) = L[bestN L r L.length] := by simp only [if_neg q]; exact grow_get hk bl _
    rw [e, if_neg q]
    by_cases il : i = L.length
    · subst il; rw [tp]; dsimp only; omega
    · have il : i < L.length := by omega
      rw [grow_get hk il]
      exact ib.high i il ((grow_anc h hk h40 hr il).1 ai)
theorem path_head {L : List BlD} (h : BlsOk L) {b : Nat} (hb : b < L.length) (hi : 0 < (path L b).length) : (path L b)[0] = 0 := by
  obtain ⟨a, e⟩ := path_at h _ b hb (Nat.le_refl _) 0 hi
  revert a e
  generalize (path L b)[0] = c
  intro a e
  rcases Nat.eq_zero_or_pos c with h0 | h0
  · exact h0
  · have q := parN_lt h a h0
    have l := congrArg List.length e
    rw [path_succ h a h0, List.length_append, path_len h _ _ (show parN L c < L.length by omega) (Nat.le_refl _), List.length_take] at l
    simp at l
    omega
theorem path_end {L : List BlD} (h : BlsOk L) {b i : Nat} (hb : b < L.length) (hi : i < (path L b).length) (e : i + 1 = (path L b).length) : (path L b)[i] = b := by
  obtain ⟨l, el⟩ := path_last h hb
  have e2 : i = l.length := by rw [el] at e; simp at e; exact e
  simp only [el]
  exact List.getElem_concat_length e2 _
theorem path_high {L : List BlD} (h : BlsOk L) {b i : Nat} (hb : b < L.length) (hi : i < (path L b).length) (hx : (path L b)[i] < L.length) : L[(path L b)[i]].h = i := by
  obtain ⟨a, e⟩ := path_at h _ b hb (Nat.le_refl _) i hi
  have l := congrArg List.length e
  rw [path_len h _ _ a (Nat.le_refl _), List.length_take] at l
  omega
theorem path_step' {L : List BlD} (h : BlsOk L) {c d i : Nat} {Q : List Nat} (a : c < L.length) (a' : d < L.length) (hi : i + 1 < Q.length) (e : path L c = Q.take (i + 1 + 1)) (e' : path L d = Q.take (i + 1)) (hh : L[c].h = i + 1) : L[c].par = ((d : Nat) : Int) := by
  have c0 : 0 < c := by
    rcases Nat.eq_zero_or_pos c with g | g
    · subst g; rw [(h.first a).2] at hh; omega
    · exact g
  have q := parN_lt h a c0
  have p := h.par c a c0
  have g := path_succ h a c0
  rw [e, List.take_add_one, List.getElem?_eq_getElem hi] at g
  have := (List.append_inj' g rfl).1
  have := path_inj h a' (show parN L c < L.length by omega) (e'.trans this)
  rw [this, parN_eq a]
  omega
theorem path_step {L : List BlD} (h : BlsOk L) {b i : Nat} (hb : b < L.length) (hi : i + 1 < (path L b).length) (hx : (path L b)[i + 1] < L.length) : L[(path L b)[i + 1]].par = (((path L b)[i] : Nat) : Int) := by
  obtain ⟨a, e⟩ := path_at h _ b hb (Nat.le_refl _) (i + 1) hi
  obtain ⟨a', e'⟩ := path_at h _ b hb (Nat.le_refl _) i (by omega)
  exact path_step' h a a' hi e e' (path_high h hb hi hx)
end Go.Proofs.Ytlecdiopokalgaa
namespace Go.Proofs.Ytlecdiopokalgaa
set_option linter.unusedVariables false
set_option linter.unusedSimpArgs false
set_option linter.unusedSectionVars false
open Go.ChangeShapes Go.WideShapes Go.ChangeAt Go.RowKit Go.Joins
set_option maxRecDepth 10000
theorem natsC_ix {A : List Nat} {i j : Nat} (hj : j = i) (h : i < A.length) : (natsC A)[j]? = some (nI .i64 ((A[i] : Nat) : Int)) := by
  subst hj
  unfold natsC
  rw [List.getElem?_map, List.getElem?_eq_getElem h]
  rfl
theorem ffresh_fn {f : Bool} {L : List BlD} {b r : Nat} (hL : L.length ≤ 100) : FnV Try.prog G0 59 [treeV f L b r] (treeV false L b r) := by
  have nB' : noHs (rows BlD.cells L) = true := rows_noHs blD_noHs L
  have nT : noHs [VV.ds f L.length (rows BlD.cells L), nI .i64 b, nI .i64 r] = true := by simp only [noHs, noH, nI, nB', Bool.and_self]
  unfold treeV
  refine fn_of_vwp Γok Try.func59 (by kernel_rfl) rfl (by simp [Try.ntmps59]) (wpv_ok Γok (by kernel_rfl) _ _ _ ?_); conv => whnf
  refine vloop_invK G0ok [(0, some 0), (1, some 1), (2, none)] 3 (X := Nat) (fun i => [(12, nI .i64 i), (11, nI .i64 L.length), (10, .ds f L.length (rows BlD.cells L)), (3, .sl 2 0 i 3), (2, .ptr 1 0), (1, .ptr 0 0)]) (fun i => [(0, some [.ds f L.length (rows BlD.cells L), nI .i64 b, nI .i64 r]), (1, some [.ds true 0 [], nI .i64 0, nI .i64 0]), (2, some (rows BlD.cells (L.take i)))]) (fun i => i ≤ L.length) (fun i => L.length - i) 0 rfl
    ⟨⟨_, rfl, conv_nI (rfl)⟩, ⟨_, rfl, conv_nI (rfl)⟩, ⟨_, rfl, conv_eq rfl (nB')⟩, ⟨_, rfl, .null rfl⟩, ⟨_, rfl, .ptr rfl⟩, ⟨_, rfl, .ptr rfl⟩, trivial⟩ ⟨.inr ⟨_, _, rfl, rfl, .same (nT)⟩, .inr ⟨_, _, rfl, rfl, .same rfl⟩, .inl ⟨rfl, rfl⟩, trivial⟩ (Nat.zero_le _) ?_
  intro i hi
  dsimp only at hi ⊢
  refine wpv_ok Γok (by kernel_rfl) _ _ _ ?_; conv => whnf
  have rl : (rows BlD.cells (L.take i)).length = i * 3 := by rw [rows_length (w := 3) fun a _ => blD_len a, List.length_take, Nat.min_eq_left hi]
  refine bool_cases (fun hc => ?_) (fun hc => ?_)
  · have hc := of_decide_eq_true hc
    have hc : i < L.length := by omega
    have st : L.take (i + 1) = L.take i ++ [L[i]] := by rw [List.take_add_one, List.getElem?_eq_getElem hc]; rfl
    conv => whnf
    try (refine ⟨by kernel_rfl, ?_⟩; conv => whnf)
    refine bindP_intro (if_pos (inB_ok (by omega) (by omega))) ?_; conv => whnf
    refine bindP_intro (row_load (i := i) (w := 3) rfl rfl rfl (fun a _ => blD_len a) (by dsimp only; omega) hc) ?_
    refine gen_ex L[i] fun s es => ?_
    rw [← es] at st ⊢
    clear es
    have sc : s.cells = [nI .i64 s.par, nI .i64 s.h, .ds true 0 []] := rfl
    rw [sc]
    conv => whnf
    try (refine ⟨by kernel_rfl, ?_⟩; conv => whnf)
    refine vloop_unroll ?_
    refine wpv_ok Γok (by kernel_rfl) _ _ _ ?_; conv => whnf
    conv => whnf
    try (refine ⟨by kernel_rfl, ?_⟩; conv => whnf)
    refine .ownAs 1 s.cells rfl (by rw [sc]; rfl) ?_
    conv => whnf
    try (refine ⟨by kernel_rfl, ?_⟩; conv => whnf)
    refine onlyIf_intro (by show (Nat.beq (rows BlD.cells (L.take i)).length _ && _) = true; rw [rl]; simp [maxLen]; omega) ?_
    refine .ownAs (i + 1) (rows BlD.cells (L.take (i + 1))) rfl (by rw [st, rows_app, rows_one]) ?_
    conv => whnf
    try (refine ⟨by kernel_rfl, ?_⟩; conv => whnf)
    refine next_round (y := i) G0ok (i + 1) [(0, some 0), (1, some 1), (2, some 5)] rfl ⟨⟨_, rfl, conv_nI (ws_i64 (by omega) (by omega))⟩, ⟨_, rfl, conv_nI (rfl)⟩, ⟨_, rfl, conv_eq rfl (nB')⟩, ⟨_, rfl, .sl rfl⟩, ⟨_, rfl, .ptr rfl⟩, ⟨_, rfl, .ptr rfl⟩, trivial⟩ ⟨.inr ⟨_, _, rfl, rfl, .same (nT)⟩, .inr ⟨_, _, rfl, rfl, .same rfl⟩, .inr ⟨_, _, rfl, rfl, .same (rows_noHs blD_noHs _)⟩, trivial⟩ (by omega) (by omega)
  · have hc := of_decide_eq_false hc
    have e : i = L.length := by omega
    subst e
    rw [List.take_length]
    conv => whnf
    try (refine ⟨by kernel_rfl, ?_⟩; conv => whnf)
    have gc : (rows BlD.cells L).length = L.length * 3 := rows_length (w := 3) fun a _ => blD_len a
    exact ⟨_, rfl, deep_agg rfl (mapO_cons (deep_row rfl gc (rows_noHs blD_noHs _)) (mapO_cons (deepV_noH _ _ rfl) (mapO_cons (deepV_noH _ _ rfl) mapO_nil)))⟩
theorem fline_fn {f o : Bool} {L : List BlD} {b r : Nat} (h : BlsOk L) (hr : r < L.length) (hb : b = bestN L r L.length) : FnV Try.prog G0 24 [treeV f L b r, bI o] (.tup [.ds false (path L (bif o then r else b)).length (natsC (path L (bif o then r else b))), nI .i64 0]) := by
  have nB' : noHs (rows BlD.cells L) = true := rows_noHs blD_noHs L
  have ck := fcheck_fn (f := f) h hr hb
  have bl : b < L.length := by rw [hb]; exact bestN_lt hr _ (Nat.le_refl _)
  cases o with
  | true =>
    have ln := line_fn (f := f) (b := b) (r := r) h hr
    unfold treeV at ck ln ⊢
    rw [cond_true]
    refine fn_of_vwp Γok Try.func24 (by kernel_rfl) rfl (by simp [Try.ntmps24]) (wpv_ok Γok (by kernel_rfl) _ _ _ ?_); conv => whnf
    refine ⟨_, ret_of_fn G0ok (ck) (by first | rfl | simp only [noHs, noH, nI, bI, Bool.and_self, Bool.and_true, Bool.true_and, nB']) (by first | rfl | simp only [noHs, noH, nI, bI, Bool.and_self, Bool.and_true, Bool.true_and, nB']), ?_⟩; (conv => whnf); (try (refine ⟨by kernel_rfl, ?_⟩; conv => whnf))
    refine ⟨_, ret_of_fn G0ok (ln) (by first | rfl | simp only [noHs, noH, nI, bI, Bool.and_self, Bool.and_true, Bool.true_and, nB', natsC_noHs]) (by first | rfl | simp only [noHs, noH, nI, bI, Bool.and_self, Bool.and_true, Bool.true_and, nB', natsC_noHs]), ?_⟩; (conv => whnf); (try (refine ⟨by kernel_rfl, ?_⟩; conv => whnf))
    exact ⟨_, rfl, deepV_noH _ _ (by simp only [noHs, noH, nI, natsC_noHs, Bool.and_self])⟩
  | false =>
    have ln := line_fn (f := f) (b := b) (r := r) h bl
    unfold treeV at ck ln ⊢
    rw [cond_false]
    refine fn_of_vwp Γok Try.func24 (by kernel_rfl) rfl (by simp [Try.ntmps24]) (wpv_ok Γok (by kernel_rfl) _ _ _ ?_); conv => whnf
    refine ⟨_, ret_of_fn G0ok (ck) (by first | rfl | simp only [noHs, noH, nI, bI, Bool.and_self, Bool.and_true, Bool.true_and, nB']) (by first | rfl | simp only [noHs, noH, nI, bI, Bool.and_self, Bool.and_true, Bool.true_and, nB']), ?_⟩; (conv => whnf); (try (refine ⟨by kernel_rfl, ?_⟩; conv => whnf))
    refine ⟨_, ret_of_fn G0ok (ln) (by first | rfl | simp only [noHs, noH, nI, bI, Bool.and_self, Bool.and_true, Bool.true_and, nB', natsC_noHs]) (by first | rfl | simp only [noHs, noH, nI, bI, Bool.and_self, Bool.and_true, Bool.true_and, nB', natsC_noHs]), ?_⟩; (conv => whnf); (try (refine ⟨by kernel_rfl, ?_⟩; conv => whnf))
    exact ⟨_, rfl, deepV_noH _ _ (by simp only [noHs, noH, nI, natsC_noHs, Bool.and_self])⟩
theorem fsettle_bad {f : Bool} {L : List BlD} {b r x : Nat} (h : BlsOk L) (hr : r < L.length) (hb : b = bestN L r L.length) (bl : b < L.length) (hx : x < L[r].h ∨ L[b].h < x) : FnV Try.prog G0 26 [treeV f L b r, nI .i64 x] (.tup [.agg [.ds true 0 [], nI .i64 0, nI .i64 0], nI .i64 6]) := by
  have nB' : noHs (rows BlD.cells L) = true := rows_noHs blD_noHs L
  have ck := fcheck_fn (f := f) h hr hb
  unfold treeV at ck ⊢
  refine fn_of_vwp Γok Try.func26 (by kernel_rfl) rfl (by simp [Try.ntmps26]) (wpv_ok Γok (by kernel_rfl) _ _ _ ?_); conv => whnf
  refine ⟨_, ret_of_fn G0ok (ck) (by first | rfl | simp only [noHs, noH, nI, bI, Bool.and_self, Bool.and_true, Bool.true_and, nB']) (by first | rfl | simp only [noHs, noH, nI, bI, Bool.and_self, Bool.and_true, Bool.true_and, nB']), ?_⟩; (conv => whnf); (try (refine ⟨by kernel_rfl, ?_⟩; conv => whnf))
  refine bindP_intro (if_pos (inB_ok (by omega) (by omega))) ?_; conv => whnf
  refine bindP_intro (bl_h (M := L) (i := r) (by dsimp only; omega) hr) ?_
  conv => whnf
  try (refine ⟨by kernel_rfl, ?_⟩; conv => whnf)
  by_cases hc : (x : Int) < ((L[r].h : Nat) : Int)
  · rw [decide_eq_true hc]
    conv => whnf
    try (refine ⟨by kernel_rfl, ?_⟩; conv => whnf)
    exact ⟨_, rfl, rfl⟩
  · rw [decide_eq_false hc]
    conv => whnf
    try (refine ⟨by kernel_rfl, ?_⟩; conv => whnf)
    refine bindP_intro (if_pos (inB_ok (by omega) (by omega))) ?_; conv => whnf
    refine bindP_intro (bl_h (M := L) (i := b) (by dsimp only; omega) bl) ?_
    conv => whnf
    try (refine ⟨by kernel_rfl, ?_⟩; conv => whnf)
    rw [decide_eq_true (show (x : Int) > ((L[b].h : Nat) : Int) by omega)]
    conv => whnf
    try (refine ⟨by kernel_rfl, ?_⟩; conv => whnf)
    exact ⟨_, rfl, rfl⟩
theorem fsettle_ok {f : Bool} {L : List BlD} {b r x : Nat} (h : BlsOk L) (hr : r < L.length) (hb : b = bestN L r L.length) (bl : b < L.length) (lo : L[r].h ≤ x) (hi : x ≤ L[b].h) (hx : x < (path L b).length) : FnV Try.prog G0 26 [treeV f L b r, nI .i64 x] (.tup [treeV false L b (path L b)[x], nI .i64 0]) := by
  have nB' : noHs (rows BlD.cells L) = true := rows_noHs blD_noHs L
  have ck := fcheck_fn (f := f) h hr hb
  have ln := line_fn (f := false) (b := b) (r := r) h bl
  have h40 := h.most
  have fr := ffresh_fn (f := f) (L := L) (b := b) (r := r) (by omega)
  have gc : (rows BlD.cells L).length = L.length * 3 := rows_length (w := 3) fun a _ => blD_len a
  have nl : (natsC (path L b)).length = (path L b).length := by unfold natsC; rw [List.length_map]
  have hle := bl_hle h _ b bl (Nat.le_refl _)
  unfold treeV at *
  refine fn_of_vwp Γok Try.func26 (by kernel_rfl) rfl (by simp [Try.ntmps26]) (wpv_ok Γok (by kernel_rfl) _ _ _ ?_); conv => whnf
  refine ⟨_, ret_of_fn G0ok (ck) (by first | rfl | simp only [noHs, noH, nI, bI, Bool.and_self, Bool.and_true, Bool.true_and, nB']) (by first | rfl | simp only [noHs, noH, nI, bI, Bool.and_self, Bool.and_true, Bool.true_and, nB']), ?_⟩; (conv => whnf); (try (refine ⟨by kernel_rfl, ?_⟩; conv => whnf))
  refine bindP_intro (if_pos (inB_ok (by omega) (by omega))) ?_; conv => whnf
  refine bindP_intro (bl_h (M := L) (i := r) (by dsimp only; omega) hr) ?_
  conv => whnf
  try (refine ⟨by kernel_rfl, ?_⟩; conv => whnf)
  rw [decide_eq_false (show ¬ (x : Int) < ((L[r].h : Nat) : Int) by omega)]
  conv => whnf
  try (refine ⟨by kernel_rfl, ?_⟩; conv => whnf)
  refine bindP_intro (if_pos (inB_ok (by omega) (by omega))) ?_; conv => whnf
  refine bindP_intro (bl_h (M := L) (i := b) (by dsimp only; omega) bl) ?_
  conv => whnf
  try (refine ⟨by kernel_rfl, ?_⟩; conv => whnf)
  rw [decide_eq_false (show ¬ (x : Int) > ((L[b].h : Nat) : Int) by omega)]
  conv => whnf
  try (refine ⟨by kernel_rfl, ?_⟩; conv => whnf)
  refine ⟨_, ret_of_fn G0ok (fr) (by first | rfl | simp only [noHs, noH, nI, bI, Bool.and_self, Bool.and_true, Bool.true_and, nB']) (by first | rfl | simp only [noHs, noH, nI, bI, Bool.and_self, Bool.and_true, Bool.true_and, nB']), ?_⟩; (conv => whnf); (try (refine ⟨by kernel_rfl, ?_⟩; conv => whnf))
  refine ⟨_, ret_of_fn G0ok (ln) (by first | rfl | simp only [noHs, noH, nI, bI, Bool.and_self, Bool.and_true, Bool.true_and, nB', natsC_noHs]) (by first | rfl | simp only [noHs, noH, nI, bI, Bool.and_self, Bool.and_true, Bool.true_and, nB', natsC_noHs]), ?_⟩; (conv => whnf); (try (refine ⟨by kernel_rfl, ?_⟩; conv => whnf))
  refine bindP_intro (if_pos (inB_ok (by omega) (by omega))) ?_; conv => whnf
  refine bindP_intro (natsC_ix (i := x) (by dsimp only; omega) hx) ?_
  conv => whnf
  try (refine ⟨by kernel_rfl, ?_⟩; conv => whnf)
  exact ⟨_, rfl, deepV_noH _ _ (show noHs [treeV false L b (path L b)[x], nI .i64 0] = true from by unfold treeV; simp only [noHs, noH, nI, nB', Bool.and_self])⟩
end Go.Proofs.Ytlecdiopokalgaa
namespace Go.Proofs.Ytlecdiopokalgaa
set_option linter.unusedVariables false
set_option linter.unusedSimpArgs false
set_option linter.unusedSectionVars false
open Go.ChangeShapes Go.WideShapes Go.ChangeAt Go.RowKit Go.Joins
structure TreS where
  L : List BlD
  r : Nat
def TreS.b (p : TreS) : Nat := bestN p.L p.r p.L.length
def TreS.v (p : TreS) : VV := treeV false p.L p.b p.r
structure TreOk (p : TreS) : Prop where
  bls : BlsOk p.L
  fin : p.r < p.L.length
def TreS.grow (p : TreS) (k : Nat) : TreS := if h : k < p.L.length ∧ anc p.L p.r k = p.r then ⟨growL p.L k h.1, p.r⟩ else p
def hgt (L : List BlD) (b : Nat) : Nat := (L.getD b ⟨-1, 0⟩).h
def TreS.settle (p : TreS) (x : Nat) : TreS := if hgt p.L p.r ≤ x ∧ x ≤ hgt p.L p.b then ⟨p.L, (path p.L p.b).getD x 0⟩ else p
def treG (m q : Int) (p : TreS) (r : RawD) : TreS := if r.k % m = 0 then p.settle (r.b % q).toNat else p.grow (r.a % (p.L.length : Int)).toNat
def treF (m q : Int) (p : TreS) (l : List RawD) : Nat → TreS
  | 0 => p
  | i + 1 => match l[i]? with
    | some r => treG m q (treF m q p l i) r
    | none => treF m q p l i
theorem treF_next {m q : Int} {p : TreS} {l : List RawD} {i : Nat} (h : i < l.length) : treF m q p l (i + 1) = treG m q (treF m q p l i) l[i] := by
  rw [treF, List.getElem?_eq_getElem h]
theorem hgt_eq {L : List BlD} {b : Nat} (h : b < L.length) : hgt L b = L[b].h := by
  unfold hgt
  rw [List.getD_eq_getElem?_getD, List.getElem?_eq_getElem h]
  rfl
theorem TreOk.best {p : TreS} (h : TreOk p) : p.b < p.L.length := bestN_lt h.fin _ (Nat.le_refl _)
/-- What may come of a tree: the blocks stay, and what stands for good. -/
structure TreTo (p q : TreS) : Prop where
  ok : TreOk q
  len : q.L.length ≤ p.L.length + 1
  more : p.L.length ≤ q.L.length
  line : path p.L p.r <+: path q.L q.r
theorem grow_to {p : TreS} (h : TreOk p) (h40 : p.L.length < 40) (k : Nat) : TreTo p (p.grow k) := by
  unfold TreS.grow
  split
  · rename_i g
    have gl := grow_len g.1
    have hf := h.fin
    refine ⟨⟨growL_ok h.bls g.1 h40, by dsimp only; omega⟩, by dsimp only; omega, by dsimp only; omega, ?_⟩
    dsimp only
    rw [grow_path h.bls g.1 h40 _ _ h.fin (Nat.le_refl _)]
    exact List.prefix_refl _
  · exact ⟨h, by omega, by omega, List.prefix_refl _⟩
theorem settle_to {p : TreS} (h : TreOk p) (x : Nat) : TreTo p (p.settle x) ∧ (hgt p.L p.r ≤ x ∧ x ≤ hgt p.L p.b → ∃ hx : x < (path p.L p.b).length, (p.settle x).v = treeV false p.L p.b ((path p.L p.b)[x])) := by
  unfold TreS.settle
  split
  · rename_i g
    have hb := h.best
    have hf := h.fin
    rw [hgt_eq hf, hgt_eq hb] at g
    have pl := path_len h.bls _ p.b hb (Nat.le_refl _)
    have hx : x < (path p.L p.b).length := by omega
    obtain ⟨l, e, pr⟩ := settle_is h.bls hf (x := x) hx g.1
    have eg : (path p.L p.b).getD x 0 = (path p.L p.b)[x] := by rw [List.getD_eq_getElem?_getD, List.getElem?_eq_getElem hx]; rfl
    refine ⟨⟨⟨h.bls, by dsimp only; rw [eg]; exact l⟩, by dsimp only; omega, Nat.le_refl _, by dsimp only; rw [eg]; exact pr⟩, fun _ => ⟨hx, ?_⟩⟩
    unfold TreS.v TreS.b
    dsimp only
    rw [show (path p.L (bestN p.L p.r p.L.length)).getD x 0 = (path p.L (bestN p.L p.r p.L.length))[x]'hx from eg, e]
    rfl
  · rename_i g
    exact ⟨⟨h, by omega, by omega, List.prefix_refl _⟩, fun g' => absurd g' g⟩
theorem treG_to {m q : Int} {p : TreS} (h : TreOk p) (h40 : p.L.length < 40) (r : RawD) : TreTo p (treG m q p r) := by
  unfold treG
  split
  · exact (settle_to h _).1
  · exact grow_to h h40 _
theorem treF_to {m q : Int} {p : TreS} (h : TreOk p) (l : List RawD) (hl : p.L.length + l.length ≤ 40) : ∀ i, i ≤ l.length → TreOk (treF m q p l i) ∧ (treF m q p l i).L.length ≤ p.L.length + i ∧ path p.L p.r <+: path (treF m q p l i).L (treF m q p l i).r
  | 0, _ => ⟨h, Nat.le_refl _, List.prefix_refl _⟩
  | i + 1, hi => by
    obtain ⟨a, b, c⟩ := treF_to h l hl i (by omega)
    rw [treF_next (show i < l.length by omega)]
    have t := treG_to (m := m) (q := q) a (by omega) l[i]
    have := t.len
    exact ⟨t.ok, by omega, c.trans t.line⟩
def tre0 : TreS := ⟨bl0, 0⟩
theorem tre0_ok : TreOk tre0 := ⟨bl0_ok, Nat.zero_lt_one⟩
/-- The tree that comes of raw things. -/
def treL (l : List RawD) : TreS := treF 5 6 tre0 l l.length
theorem treL_ok {l : List RawD} (hl : l.length ≤ 25) : TreOk (treL l) ∧ (treL l).L.length ≤ 1 + l.length := by
  obtain ⟨a, b, _⟩ := treF_to (m := 5) (q := 6) tre0_ok l (by show 1 + _ ≤ _; omega) l.length (Nat.le_refl _)
  exact ⟨a, b⟩
end Go.Proofs.Ytlecdiopokalgaa
namespace Go.Proofs.Ytlecdiopokalgaa
set_option linter.unusedVariables false
set_option linter.unusedSimpArgs false
set_option linter.unusedSectionVars false
open Go.ChangeShapes Go.WideShapes Go.ChangeAt Go.RowKit Go.Joins
set_option maxRecDepth 10000
theorem treV_noH (p : TreS) : noH p.v = true := by
  unfold TreS.v treeV
  simp only [noHs, noH, nI, rows_noHs blD_noHs, Bool.and_self]
/-- Grow on a tree that may be: it grows, or is told that it can't. -/
theorem fgrow_all {p : TreS} (h : TreOk p) (h40 : p.L.length < 40) {k : Nat} (hk : k < p.L.length) : ∃ (f : Bool) (q : TreS) (b e : Nat), FnV Try.prog G0 23 [p.v, nI .i64 k, .ds true 0 []] (.tup [treeV f q.L b q.r, nI .i64 e]) ∧ e ≤ 15 ∧ (e = 0 → f = false ∧ q = p.grow k ∧ b = q.b ∧ anc p.L p.r k = p.r) ∧ (e ≠ 0 → p.grow k = p ∧ e = 15 ∧ ¬ anc p.L p.r k = p.r) := by
  by_cases a : anc p.L p.r k = p.r
  · have eg : p.grow k = ⟨growL p.L k hk, p.r⟩ := by unfold TreS.grow; rw [dif_pos ⟨hk, a⟩]
    refine ⟨false, p.grow k, _, 0, ?_, by decide, fun _ => ⟨rfl, rfl, rfl, a⟩, fun g => absurd rfl g⟩
    rw [eg]
    exact fgrow_ok h.bls h.fin rfl hk a h40
  · refine ⟨true, ⟨[], 0⟩, 0, 15, fgrow_late h.bls h.fin rfl hk a, by decide, fun g => absurd g (by decide), fun _ => ⟨?_, rfl, a⟩⟩
    unfold TreS.grow
    rw [dif_neg (fun g => a g.2)]
theorem fsettle_all {p : TreS} (h : TreOk p) (x : Nat) : ∃ (f : Bool) (q : TreS) (b e : Nat), FnV Try.prog G0 26 [p.v, nI .i64 x] (.tup [treeV f q.L b q.r, nI .i64 e]) ∧ e ≤ 15 ∧ (e = 0 → f = false ∧ q = p.settle x ∧ b = q.b) ∧ (e ≠ 0 → p.settle x = p) := by
  have hb := h.best
  have hf := h.fin
  have pl := path_len h.bls _ p.b hb (Nat.le_refl _)
  by_cases g : hgt p.L p.r ≤ x ∧ x ≤ hgt p.L p.b
  · obtain ⟨hx, ev⟩ := (settle_to h x).2 g
    rw [hgt_eq hf, hgt_eq hb] at g
    refine ⟨false, p.settle x, _, 0, ?_, by decide, fun _ => ⟨rfl, rfl, rfl⟩, fun g => absurd rfl g⟩
    have := fsettle_ok (f := false) h.bls hf rfl hb g.1 g.2 hx
    have ev2 := ev
    unfold TreS.v at ev2
    rw [ev2]
    exact this
  · refine ⟨true, ⟨[], 0⟩, 0, 6, fsettle_bad h.bls hf rfl hb (by rw [hgt_eq hf, hgt_eq hb] at g; omega), by decide, fun g => absurd g (by decide), fun _ => ?_⟩
    unfold TreS.settle
    rw [if_neg g]
theorem grown_fn {l : List RawD} {most : Nat} (hm : most ≤ 25) (hl : l.length ≤ maxLen) (hok : ∀ r ∈ l, r.ok) (l' : List RawD) (e' : l' = l.take most) : FnV Try.prog G0 22 [.ds false l.length (rawsC l), nI .i64 most] (treL l').v := by
  obtain ⟨f', so⟩ := some_fn false l most hl (by omega)
  rw [← e'] at so
  have hl' : l'.length ≤ 25 := by rw [e', List.length_take]; omega
  have hok' : ∀ r ∈ l', r.ok := fun r hr => hok r (List.mem_of_mem_take (e' ▸ hr))
  clear e'
  have bg : FnV Try.prog G0 57 [] tre0.v := fbegin_fn
  have nR : noHs (rawsC l) = true := rawsC_noHs _
  have nR' : noHs (rawsC l') = true := rawsC_noHs _
  have n0 := treV_noH tre0
  unfold TreS.v treeV at bg n0 ⊢
  refine fn_of_vwp Γok Try.func22 (by kernel_rfl) rfl (by simp [Try.ntmps22]) (wpv_ok Γok (by kernel_rfl) _ _ _ ?_); conv => whnf
  refine ⟨_, ret_of_fn G0ok (bg) (by first | rfl | simp only [noHs, noH, nI, bI, Bool.and_self, Bool.and_true, Bool.true_and, rows_noHs blD_noHs]) (by first | rfl | simp only [noHs, noH, nI, bI, Bool.and_self, Bool.and_true, Bool.true_and, rows_noHs blD_noHs]), ?_⟩; (conv => whnf); (try (refine ⟨by kernel_rfl, ?_⟩; conv => whnf))
  refine ⟨_, ret_of_fn G0ok (so) (by first | rfl | simp only [noHs, noH, nI, bI, Bool.and_self, Bool.and_true, Bool.true_and, nR, nR']) (by first | rfl | simp only [noHs, noH, nI, bI, Bool.and_self, Bool.and_true, Bool.true_and, nR, nR']), ?_⟩; (conv => whnf); (try (refine ⟨by kernel_rfl, ?_⟩; conv => whnf))
  refine vloop_invK G0ok [(0, some 0), (1, some 1)] 2 (X := Nat) (fun i => [(15, nI .i64 i), (14, nI .i64 l'.length), (13, .ds f' l'.length (rawsC l')), (5, .ptr 1 0), (4, .ptr 0 0)]) (fun i => [(0, some [.ds true 0 [], nI .i64 0, nI .i64 0]), (1, some [.ds false (treF 5 6 tre0 l' i).L.length (rows BlD.cells (treF 5 6 tre0 l' i).L), nI .i64 (treF 5 6 tre0 l' i).b, nI .i64 (treF 5 6 tre0 l' i).r])])
    (fun i => i ≤ l'.length) (fun i => l'.length - i) 0 rfl ⟨⟨_, rfl, conv_nI (rfl)⟩, ⟨_, rfl, conv_nI (rfl)⟩, ⟨_, rfl, conv_eq rfl (nR')⟩, ⟨_, rfl, .ptr rfl⟩, ⟨_, rfl, .ptr rfl⟩, trivial⟩ ⟨.inr ⟨_, _, rfl, rfl, .same rfl⟩, .inr ⟨_, _, rfl, rfl, .same (n0)⟩, trivial⟩ (Nat.zero_le _) ?_
  intro i hi
  dsimp only at hi ⊢
  refine wpv_ok Γok (by kernel_rfl) _ _ _ ?_; conv => whnf
  obtain ⟨ok, ln, _⟩ := treF_to (m := 5) (q := 6) tre0_ok l' (by show 1 + _ ≤ _; omega) i hi
  refine bool_cases (fun hc => ?_) (fun hc => ?_)
  · have hc := of_decide_eq_true hc
    have hc : i < l'.length := by omega
    have nx := treF_next (m := 5) (q := 6) (p := tre0) hc
    have rok := hok' _ (List.getElem_mem hc)
    conv => whnf
    try (refine ⟨by kernel_rfl, ?_⟩; conv => whnf)
    refine bindP_intro (if_pos (inB_ok (by omega) (by omega))) ?_; conv => whnf
    refine bindP_intro (raw_load (i := i) rfl rfl rfl (by dsimp only; omega) hc) ?_
    refine gen_ex l'[i] fun r er => ?_
    rw [← er] at nx rok ⊢
    clear er
    refine gen_ex (treF 5 6 tre0 l' (i + 1)) fun q eq => ?_
    rw [← eq] at nx
    refine gen_ex (treF 5 6 tre0 l' i) fun p ep => ?_
    rw [← ep] at nx ok ln ⊢
    have n1 := treV_noH p
    have lp := ok.bls.some
    have l0 : tre0.L.length = 1 := rfl
    unfold TreS.v treeV at n1
    unfold RawD.v RawD.cells
    conv => whnf
    try (refine ⟨by kernel_rfl, ?_⟩; conv => whnf)
    rw [if_neg (show ¬ (1 : Int) > (p.L.length : Int) by omega)]
    refine ⟨_, ret_of_fn G0ok (picked_fn r.a p.L.length (by omega) (by omega)) (by first | rfl | simp only [noHs, noH, nI, bI, Bool.and_self, Bool.and_true, Bool.true_and, ]) (by first | rfl | simp only [noHs, noH, nI, bI, Bool.and_self, Bool.and_true, Bool.true_and, ]), ?_⟩; (conv => whnf); (try (refine ⟨by kernel_rfl, ?_⟩; conv => whnf))
    obtain ⟨k, hk⟩ : ∃ k : Nat, r.a % (p.L.length : Int) = (k : Int) := ⟨(r.a % (p.L.length : Int)).toNat, by have := Int.emod_nonneg r.a (show (p.L.length : Int) ≠ 0 by omega); omega⟩
    have hk2 : k < p.L.length := by have := Int.emod_lt_of_pos r.a (show (0 : Int) < (p.L.length : Int) by omega); omega
    obtain ⟨x, hx⟩ : ∃ x : Nat, r.b % (6 : Int) = (x : Int) := ⟨(r.b % (6 : Int)).toNat, by have := Int.emod_nonneg r.b (show (6 : Int) ≠ 0 by omega); omega⟩
    obtain ⟨f1, q1, b1, e, gf, eb, g1, g2⟩ := fgrow_all ok (show p.L.length < 40 by omega) hk2
    obtain ⟨f2, q2, b2, e', sf, eb', s1, s2⟩ := fsettle_all ok x
    have hk3 : (r.a % (p.L.length : Int)).toNat = k := by omega
    have hx3 : (r.b % (6 : Int)).toNat = x := by omega
    unfold treG at nx
    rw [hk3, hx3] at nx
    rw [hk]
    have nq := @rows_noHs _ _ blD_noHs
    unfold TreS.v treeV at gf sf
    refine ⟨_, ret_of_fn G0ok (gf) (by first | rfl | simp only [noHs, noH, nI, bI, Bool.and_self, Bool.and_true, Bool.true_and, nq]) (by first | rfl | simp only [noHs, noH, nI, bI, Bool.and_self, Bool.and_true, Bool.true_and, nq]), ?_⟩; (conv => whnf); (try (refine ⟨by kernel_rfl, ?_⟩; conv => whnf))
    refine ⟨_, ret_of_fn G0ok (picked_fn r.k 5 (by decide) (by decide)) (by first | rfl | simp only [noHs, noH, nI, bI, Bool.and_self, Bool.and_true, Bool.true_and, ]) (by first | rfl | simp only [noHs, noH, nI, bI, Bool.and_self, Bool.and_true, Bool.true_and, ]), ?_⟩; (conv => whnf); (try (refine ⟨by kernel_rfl, ?_⟩; conv => whnf))
    by_cases hz : r.k % 5 = 0
    · rw [show (r.k % 5 == 0) = true from by rw [hz]; rfl]
      rw [if_pos hz] at nx
      conv => whnf
      try (refine ⟨by kernel_rfl, ?_⟩; conv => whnf)
      refine ⟨_, ret_of_fn G0ok (picked_fn r.b 6 (by decide) (by decide)) (by first | rfl | simp only [noHs, noH, nI, bI, Bool.and_self, Bool.and_true, Bool.true_and, ]) (by first | rfl | simp only [noHs, noH, nI, bI, Bool.and_self, Bool.and_true, Bool.true_and, ]), ?_⟩; (conv => whnf); (try (refine ⟨by kernel_rfl, ?_⟩; conv => whnf))
      rw [hx]
      refine ⟨_, ret_of_fn G0ok (sf) (by first | rfl | simp only [noHs, noH, nI, bI, Bool.and_self, Bool.and_true, Bool.true_and, nq]) (by first | rfl | simp only [noHs, noH, nI, bI, Bool.and_self, Bool.and_true, Bool.true_and, nq]), ?_⟩; (conv => whnf); (try (refine ⟨by kernel_rfl, ?_⟩; conv => whnf))
      by_cases h0 : e' = 0
      · rw [show (((e' : Nat) : Int) == 0) = true from by rw [h0]; rfl]
        obtain ⟨ef, e2, e3⟩ := s1 h0
        rw [← e2] at nx
        subst eq nx
        subst ef e3
        conv => whnf
        try (refine ⟨by kernel_rfl, ?_⟩; conv => whnf)
        refine next_round (y := i) G0ok (i + 1) [(0, some 0), (1, some 1)] rfl ⟨⟨_, rfl, conv_nI (ws_i64 (by omega) (by omega))⟩, ⟨_, rfl, conv_nI (rfl)⟩, ⟨_, rfl, conv_eq rfl (nR')⟩, ⟨_, rfl, .ptr rfl⟩, ⟨_, rfl, .ptr rfl⟩, trivial⟩ ⟨.inr ⟨_, _, rfl, rfl, .same rfl⟩, .inr ⟨_, _, rfl, rfl, .same (treV_noH _)⟩, trivial⟩ (by omega) (by omega)
      · rw [show (((e' : Nat) : Int) == 0) = false from (beq_lit e' 0).trans (decide_eq_false h0)]
        rw [s2 h0] at nx
        subst eq nx
        conv => whnf
        try (refine ⟨by kernel_rfl, ?_⟩; conv => whnf)
        refine next_round (y := i) G0ok (i + 1) [(0, some 0), (1, some 1)] rfl ⟨⟨_, rfl, conv_nI (ws_i64 (by omega) (by omega))⟩, ⟨_, rfl, conv_nI (rfl)⟩, ⟨_, rfl, conv_eq rfl (nR')⟩, ⟨_, rfl, .ptr rfl⟩, ⟨_, rfl, .ptr rfl⟩, trivial⟩ ⟨.inr ⟨_, _, rfl, rfl, .same rfl⟩, .inr ⟨_, _, rfl, rfl, .same (treV_noH _)⟩, trivial⟩ (by omega) (by omega)
    · rw [show (r.k % 5 == 0) = false from beq_false_of_ne hz]
      rw [if_neg hz] at nx
      conv => whnf
      try (refine ⟨by kernel_rfl, ?_⟩; conv => whnf)
      by_cases h0 : e = 0
      · rw [show (((e : Nat) : Int) == 0) = true from by rw [h0]; rfl]
        obtain ⟨ef, e2, e3, _⟩ := g1 h0
        rw [← e2] at nx
        subst eq nx
        subst ef e3
        conv => whnf
        try (refine ⟨by kernel_rfl, ?_⟩; conv => whnf)
        refine next_round (y := i) G0ok (i + 1) [(0, some 0), (1, some 1)] rfl ⟨⟨_, rfl, conv_nI (ws_i64 (by omega) (by omega))⟩, ⟨_, rfl, conv_nI (rfl)⟩, ⟨_, rfl, conv_eq rfl (nR')⟩, ⟨_, rfl, .ptr rfl⟩, ⟨_, rfl, .ptr rfl⟩, trivial⟩ ⟨.inr ⟨_, _, rfl, rfl, .same rfl⟩, .inr ⟨_, _, rfl, rfl, .same (treV_noH _)⟩, trivial⟩ (by omega) (by omega)
      · rw [show (((e : Nat) : Int) == 0) = false from (beq_lit e 0).trans (decide_eq_false h0)]
        rw [(g2 h0).1] at nx
        subst eq nx
        conv => whnf
        try (refine ⟨by kernel_rfl, ?_⟩; conv => whnf)
        refine next_round (y := i) G0ok (i + 1) [(0, some 0), (1, some 1)] rfl ⟨⟨_, rfl, conv_nI (ws_i64 (by omega) (by omega))⟩, ⟨_, rfl, conv_nI (rfl)⟩, ⟨_, rfl, conv_eq rfl (nR')⟩, ⟨_, rfl, .ptr rfl⟩, ⟨_, rfl, .ptr rfl⟩, trivial⟩ ⟨.inr ⟨_, _, rfl, rfl, .same rfl⟩, .inr ⟨_, _, rfl, rfl, .same (treV_noH _)⟩, trivial⟩ (by omega) (by omega)
  · have hc := of_decide_eq_false hc
    have e : i = l'.length := by omega
    subst e
    conv => whnf
    try (refine ⟨by kernel_rfl, ?_⟩; conv => whnf)
    exact ⟨_, rfl, deepV_noH _ _ (treV_noH _)⟩
end Go.Proofs.Ytlecdiopokalgaa
