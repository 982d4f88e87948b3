/- sets.Check, fresh, by the engine. -/
import Derived.Test.YtlecdiopokalgaaVSets
import Derived.Test.YtlecdiopokalgaaBUa
namespace Go.Proofs.Ytlecdiopokalgaa
set_option linter.unusedVariables false
set_option linter.unusedSimpArgs false
set_option linter.unusedSectionVars false
open Go.ChangeShapes Go.WideShapes Go.ChangeAt Go.RowKit Go.Joins
set_option maxRecDepth 10000
/-- A set of keys. -/
structure SetD where
  index : Nat
  keys : List (List Nat)
  till : Nat
def SetD.cells (s : SetD) : List VV := [nI .i64 s.index, .ds false s.keys.length (rows bts s.keys), nI .i64 s.till]
theorem setD_len (s : SetD) : s.cells.length = 3 := rfl
theorem setD_noHs (s : SetD) : noHs s.cells = true := by
  unfold SetD.cells
  simp only [noHs, noH, nI, rows_noHs bts_noHs, Bool.and_self]
/-- Sets that may be. -/
structure SetsOk (L : List SetD) : Prop where
  some : 1 ≤ L.length
  most : L.length ≤ 8
  index : ∀ (i : Nat) (h : i < L.length), L[i].index = i
  keys : ∀ s ∈ L, KeysOk s.keys
  last : ∀ (i : Nat) (h : i < L.length), L[i].till = 0 ↔ i + 1 = L.length
  le : ∀ s ∈ L, s.till ≤ 1099511627776
  up : ∀ (i : Nat) (h : i + 1 < L.length), i + 2 < L.length → L[i].till ≤ L[i + 1].till
def lastT (L : List SetD) (i : Nat) : Nat := if i = 0 then 0 else (L.getD (i - 1) ⟨0, [], 0⟩).till
theorem scheck_fn {f : Bool} {L : List SetD} (h : SetsOk L) : FnV Try.prog G0 21 [.ds f L.length (rows SetD.cells L)] (nI .i64 0) := by
  have h1 := h.some
  have h8 := h.most
  have nB' : noHs (rows SetD.cells L) = true := rows_noHs setD_noHs L
  refine fn_of_vwp Γok Try.func21 (by kernel_rfl) rfl (by simp [Try.ntmps21]) (wpv_ok Γok (by kernel_rfl) _ _ _ ?_); conv => whnf
  rw [decide_eq_false (show ¬ ((L.length : Nat) : Int) < 1 by omega)]
  conv => whnf
  try (refine ⟨by kernel_rfl, ?_⟩; conv => whnf)
  rw [decide_eq_false (show ¬ ((L.length : Nat) : Int) > 8 by omega)]
  conv => whnf
  try (refine ⟨by kernel_rfl, ?_⟩; conv => whnf)
  refine vloop_invK G0ok [] 0 (X := Nat × Nat) (fun y => [(17, nI .i64 y.1), (16, nI .i64 L.length), (15, .ds f L.length (rows SetD.cells L)), (3, nI .i64 y.2), (2, nI .i64 0), (0, .ds f L.length (rows SetD.cells L))]) (fun _ => [])
    (fun y => y.1 ≤ L.length ∧ (∀ (hi : y.1 < L.length), y.1 + 1 < L.length → y.2 ≤ L[y.1].till)) (fun y => L.length - y.1) (0, 0) rfl ⟨⟨_, rfl, conv_nI (rfl)⟩, ⟨_, rfl, conv_nI (rfl)⟩, ⟨_, rfl, conv_eq rfl (nB')⟩, ⟨_, rfl, conv_nI (rfl)⟩, ⟨_, rfl, conv_nI (rfl)⟩, ⟨_, rfl, conv_eq rfl (nB')⟩, trivial⟩ trivial ⟨Nat.zero_le _, fun _ _ => Nat.zero_le _⟩ ?_
  rintro ⟨i, last⟩ ⟨hi, hl⟩
  dsimp only at hi hl ⊢
  refine wpv_ok Γok (by kernel_rfl) _ _ _ ?_; conv => whnf
  refine bool_cases (fun hc => ?_) (fun hc => ?_)
  · have hc := of_decide_eq_true hc
    have hc : i < L.length := by omega
    have hl := hl hc
    have ix := h.index i hc
    have kf := keys_fn (f := false) (h.keys _ (List.getElem_mem hc))
    have la := h.last i hc
    have le := h.le _ (List.getElem_mem hc)
    have up : ∀ (h2 : i + 1 < L.length), i + 1 + 1 < L.length → L[i].till ≤ L[i + 1].till := fun h2 h3 => h.up i h2 h3
    conv => whnf
    try (refine ⟨by kernel_rfl, ?_⟩; conv => whnf)
    refine bindP_intro (if_pos (inB_ok (by omega) (by omega))) ?_; conv => whnf
    refine bindP_intro (row_load (i := i) (w := 3) rfl rfl rfl (fun a _ => setD_len a) (by dsimp only; omega) hc) ?_
    refine gen_ex L[i] fun s es => ?_
    rw [← es] at ix kf la le up hl ⊢
    clear es
    have nk : noHs (rows bts s.keys) = true := rows_noHs bts_noHs _
    unfold SetD.cells
    conv => whnf
    try (refine ⟨by kernel_rfl, ?_⟩; conv => whnf)
    refine ⟨_, ret_of_fn G0ok (kf) (by first | rfl | simp only [noHs, noH, nI, bI, Bool.and_self, Bool.and_true, Bool.true_and, nk]) (by first | rfl | simp only [noHs, noH, nI, bI, Bool.and_self, Bool.and_true, Bool.true_and, nk]), ?_⟩; (conv => whnf); (try (refine ⟨by kernel_rfl, ?_⟩; conv => whnf))
    rw [show (((s.index : Nat) : Int) != ((i : Nat) : Int)) = !decide (s.index = i) from bne_lit _ _, decide_eq_true ix]
    conv => whnf
    try (refine ⟨by kernel_rfl, ?_⟩; conv => whnf)
    rw [ws_i64 (x := (L.length : Int) - 1) (by omega) (by omega)]
    rw [show (L.length : Int) - 1 = ((L.length - 1 : Nat) : Int) from by omega, show (((i : Nat) : Int) == ((L.length - 1 : Nat) : Int)) = decide (i = L.length - 1) from beq_lit _ _, show (((s.till : Nat) : Int) == 0) = decide (s.till = 0) from beq_lit _ 0]
    by_cases hq : i + 1 = L.length
    · have h0 := la.2 hq
      rw [decide_eq_true (show i = L.length - 1 by omega), decide_eq_true h0]
      conv => whnf
      try (refine ⟨by kernel_rfl, ?_⟩; conv => whnf)
      rw [show (((s.till : Nat) : Int) != 0) = !decide (s.till = 0) from bne_lit _ 0, decide_eq_true h0]
      conv => whnf
      try (refine ⟨by kernel_rfl, ?_⟩; conv => whnf)
      rw [decide_eq_false (show ¬ ((s.till : Nat) : Int) > 1099511627800 by omega)]
      conv => whnf
      try (refine ⟨by kernel_rfl, ?_⟩; conv => whnf)
      refine next_round (y := (i, last)) G0ok (i + 1, s.till) [] rfl ⟨⟨_, rfl, conv_nI (ws_i64 (by omega) (by omega))⟩, ⟨_, rfl, conv_nI (rfl)⟩, ⟨_, rfl, conv_eq rfl (nB')⟩, ⟨_, rfl, conv_nI (rfl)⟩, ⟨_, rfl, conv_nI (rfl)⟩, ⟨_, rfl, conv_eq rfl (nB')⟩, trivial⟩ trivial ⟨hc, fun h2 h3 => up h2 h3⟩ (by dsimp only; omega)
    · have h0 : ¬ s.till = 0 := fun e => hq (la.1 e)
      have hl := hl (by omega)
      rw [decide_eq_false (show ¬ i = L.length - 1 by omega), decide_eq_false h0]
      conv => whnf
      try (refine ⟨by kernel_rfl, ?_⟩; conv => whnf)
      rw [show (((s.till : Nat) : Int) != 0) = !decide (s.till = 0) from bne_lit _ 0, decide_eq_false h0]
      conv => whnf
      try (refine ⟨by kernel_rfl, ?_⟩; conv => whnf)
      rw [decide_eq_false (show ¬ ((s.till : Nat) : Int) < (last : Nat) by omega)]
      conv => whnf
      try (refine ⟨by kernel_rfl, ?_⟩; conv => whnf)
      rw [decide_eq_false (show ¬ ((s.till : Nat) : Int) > 1099511627800 by omega)]
      conv => whnf
      try (refine ⟨by kernel_rfl, ?_⟩; conv => whnf)
      refine next_round (y := (i, last)) G0ok (i + 1, s.till) [] rfl ⟨⟨_, rfl, conv_nI (ws_i64 (by omega) (by omega))⟩, ⟨_, rfl, conv_nI (rfl)⟩, ⟨_, rfl, conv_eq rfl (nB')⟩, ⟨_, rfl, conv_nI (rfl)⟩, ⟨_, rfl, conv_nI (rfl)⟩, ⟨_, rfl, conv_eq rfl (nB')⟩, trivial⟩ trivial ⟨hc, fun h2 h3 => up h2 h3⟩ (by dsimp only; omega)
  · conv => whnf
    try (refine ⟨by kernel_rfl, ?_⟩; conv => whnf)
    exact ⟨_, rfl, rfl⟩
theorem fresh_fnH {f : Bool} {L : List SetD} (hL : L.length ≤ 100) (hk : ∀ s ∈ L, s.keys.length ≤ 100 ∧ ∀ k ∈ s.keys, k.length = 20) : FnH Try.prog G0 55 [.ds f L.length (rows SetD.cells L)] [] 0 (.sl 0 0 L.length 3) [(0, some (rows SetD.cells L))] 1 := by
  have nB' : noHs (rows SetD.cells L) = true := rows_noHs setD_noHs L
  refine fnH_of_vwp Γok G0ok Try.func55 (by kernel_rfl) rfl (by simp [Try.ntmps55]) (wpv_ok Γok (by kernel_rfl) _ _ _ ?_); conv => whnf
  refine vloop_invK G0ok [(0, none)] 1 (X := Nat) (fun i => [(8, nI .i64 i), (7, nI .i64 L.length), (6, .ds f L.length (rows SetD.cells L)), (3, .sl 0 0 i 3), (2, .ds true 0 [])]) (fun i => [(0, some (rows SetD.cells (L.take i)))]) (fun i => i ≤ L.length) (fun i => L.length - i) 0 rfl
    ⟨⟨_, rfl, conv_nI (rfl)⟩, ⟨_, rfl, conv_nI (rfl)⟩, ⟨_, rfl, conv_eq rfl (nB')⟩, ⟨_, rfl, .null rfl⟩, ⟨_, rfl, .same rfl⟩, trivial⟩ ⟨.inl ⟨rfl, rfl⟩, trivial⟩ (Nat.zero_le _) ?_
  intro i hi
  try dsimp only at hi
  try dsimp only
  refine wpv_ok Γok (by kernel_rfl) _ _ _ ?_; conv => whnf
  have rl : (rows SetD.cells (L.take i)).length = i * 3 := by rw [rows_length (w := 3) fun a _ => setD_len a, List.length_take, Nat.min_eq_left hi]
  refine bool_cases (fun hc => ?_) (fun hc => ?_)
  · have hc := of_decide_eq_true hc
    have hc : i < L.length := by omega
    obtain ⟨k1, k2⟩ := hk _ (List.getElem_mem hc)
    have st : L.take (i + 1) = L.take i ++ [L[i]] := by rw [List.take_add_one, List.getElem?_eq_getElem hc]; rfl
    conv => whnf
    try (refine ⟨by kernel_rfl, ?_⟩; conv => whnf)
    refine bindP_intro (if_pos (inB_ok (by omega) (by omega))) ?_; conv => whnf
    refine bindP_intro (row_load (i := i) (w := 3) rfl rfl rfl (fun a _ => setD_len a) (by dsimp only; omega) hc) ?_
    refine gen_ex L[i] fun s es => ?_
    rw [← es] at k1 k2 st ⊢
    clear es
    have kl : (rows bts s.keys).length = s.keys.length * 20 := rows_length (w := 20) fun a ha => by rw [bts_length, k2 a ha]
    have nk : noHs (rows bts s.keys) = true := rows_noHs bts_noHs _
    have sc : s.cells = [nI .i64 s.index, .ds false s.keys.length (rows bts s.keys), nI .i64 s.till] := rfl
    rw [sc]
    conv => whnf
    try (refine ⟨by kernel_rfl, ?_⟩; conv => whnf)
    refine .ownAs 0 [] rfl rfl ?_
    conv => whnf
    try (refine ⟨by kernel_rfl, ?_⟩; conv => whnf)
    refine onlyIf_intro (by show (_ && (_ && Nat.beq (rows bts s.keys).length _)) = true; rw [kl]; simp) ?_
    conv => whnf
    try (refine ⟨by kernel_rfl, ?_⟩; conv => whnf)
    refine onlyIf_intro (by simp [maxLen]; omega) ?_
    refine .read s.keys.length (rows bts s.keys) (by simp) (by simp) (by rw [kl]) nk ?_
    conv => whnf
    try (refine ⟨by kernel_rfl, ?_⟩; conv => whnf)
    refine .ownAs 1 s.cells rfl (by rw [sc]; rfl) ?_
    conv => whnf
    try (refine ⟨by kernel_rfl, ?_⟩; conv => whnf)
    refine onlyIf_intro (by show (Nat.beq (rows SetD.cells (L.take i)).length _ && _) = true; rw [rl]; simp [maxLen]; omega) ?_
    refine .ownAs (i + 1) (rows SetD.cells (L.take (i + 1))) rfl (by rw [st, rows_app, rows_one]) ?_
    conv => whnf
    try (refine ⟨by kernel_rfl, ?_⟩; conv => whnf)
    refine next_round (y := i) G0ok (i + 1) [(0, some 5)] rfl ⟨⟨_, rfl, conv_nI (ws_i64 (by omega) (by omega))⟩, ⟨_, rfl, conv_nI (rfl)⟩, ⟨_, rfl, conv_eq rfl (nB')⟩, ⟨_, rfl, .sl rfl⟩, ⟨_, rfl, .same rfl⟩, trivial⟩ ⟨.inr ⟨_, _, rfl, rfl, .same (rows_noHs setD_noHs _)⟩, trivial⟩ (by omega) (by omega)
  · have hc := of_decide_eq_false hc
    have e : i = L.length := by omega
    subst e
    rw [List.take_length]
    conv => whnf
    try (refine ⟨by kernel_rfl, ?_⟩; conv => whnf)
    exact ⟨_, rfl, [(0, some 0)], rfl, rfl, .sl rfl, ⟨.inr ⟨_, _, rfl, rfl, .same (nB')⟩, trivial⟩⟩
theorem lowVs_no {k : Nat} {cs : List VV} (h : noHs cs = true) : lowVs k cs = true := lowVs_noHs h
theorem ret_new {g : FuncId} {args : List VV} {n c w : Nat} {cs : List VV} {lkf : Nat → Option (List VV)} (h : FnH Try.prog G0 g args [] 0 (.sl 0 0 c w) [(0, some cs)] 1) (na : noHs args = true) (nc : noHs cs = true) :
    Ret Try.prog G0 g args lkf n ⟨.sl n 0 c w, [], [(n, some cs)], 1⟩ :=
  ret_fnH G0ok h [] rfl rfl rfl (lowVs_noHs na) rfl trivial ⟨trivial, fun ds e => (Option.some.inj (show some cs = some ds from e)) ▸ lowVs_noHs nc⟩ (rnVs_no _ _ na) rfl (by show [(n + 0, some (rnVs _ cs))] = _; rw [rnVs_no _ _ nc]; rfl)
theorem sbegin_fn {K : List (List Nat)} (h : KeysOk K) : FnV Try.prog G0 53 [.ds false K.length (rows bts K)] (.tup [.ds false 1 (rows SetD.cells [⟨0, K, 0⟩]), nI .i64 0]) := by
  have kf := keys_fn (f := false) h
  have nk : noHs (rows bts K) = true := rows_noHs bts_noHs _
  have fr := fresh_fnH (f := false) (L := [⟨0, K, 0⟩]) (by show 1 ≤ 100; decide) (fun s hs => by rw [List.mem_singleton.1 hs]; exact ⟨by show K.length ≤ 100; have := h.most; omega, h.len⟩)
  refine fn_of_vwp Γok Try.func53 (by kernel_rfl) rfl (by simp [Try.ntmps53]) (wpv_ok Γok (by kernel_rfl) _ _ _ ?_); conv => whnf
  refine ⟨_, ret_of_fn G0ok (kf) (by first | rfl | simp only [noHs, noH, nI, bI, Bool.and_self, Bool.and_true, Bool.true_and, nk]) (by first | rfl | simp only [noHs, noH, nI, bI, Bool.and_self, Bool.and_true, Bool.true_and, nk]), ?_⟩; (conv => whnf); (try (refine ⟨by kernel_rfl, ?_⟩; conv => whnf))
  refine .read 1 (rows SetD.cells [⟨0, K, 0⟩]) rfl rfl rfl (rows_noHs setD_noHs _) ?_
  conv => whnf
  try (refine ⟨by kernel_rfl, ?_⟩; conv => whnf)
  refine ⟨_, ret_new fr (show noHs [VV.ds false 1 (rows SetD.cells [⟨0, K, 0⟩])] = true from by simp only [noHs, noH, rows_noHs setD_noHs, Bool.and_self]) (rows_noHs setD_noHs _), ?_⟩
  conv => whnf
  try (refine ⟨by kernel_rfl, ?_⟩; conv => whnf)
  exact ⟨_, rfl, deep_tup (mapO_cons (deep_row rfl rfl (rows_noHs setD_noHs _)) (mapO_cons (deepV_noH _ _ rfl) mapO_nil))⟩
end Go.Proofs.Ytlecdiopokalgaa
