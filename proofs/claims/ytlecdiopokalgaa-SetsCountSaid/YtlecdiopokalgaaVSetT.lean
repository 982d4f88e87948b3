/- sets.Turn, Live, by the engine. -/
import Derived.Test.YtlecdiopokalgaaVSetC
namespace Go.Proofs.Ytlecdiopokalgaa
set_option linter.unusedVariables false
set_option linter.unusedSimpArgs false
set_option linter.unusedSectionVars false
open Go.ChangeShapes Go.WideShapes Go.ChangeAt Go.RowKit Go.Joins
set_option maxRecDepth 10000
def SetD.to (s : SetD) (t : Nat) : SetD := ⟨s.index, s.keys, t⟩
theorem rows_set {t : Nat} : ∀ (M : List SetD) (i j : Nat) (_ : j = i * 3 + 2) (hi : i < M.length), (rows SetD.cells M).set j (VV.v (.int .i64 (t : Int))) = rows SetD.cells (M.set i (M[i].to t))
  | [], i, j, _, hi => by cases hi
  | s :: M, 0, j, hj, _ => by subst hj; rfl
  | s :: M, i + 1, j, hj, hi => by
    subst hj
    rw [rows_cons, List.set_append_right _ _ (by rw [setD_len]; omega), setD_len, List.set_cons_succ, rows_cons, rows_set M i _ (by omega) (by simpa using hi)]
    rfl
theorem vslice_rowsm {α : Type} {f : α → List VV} {w : Nat} {t e : TypeId} {r : TR} (ht : sliceOf Γ t = some (e, r)) (hr : r.size = w) {g : Bool} {n : Nat} {bs : List α} (hb : ∀ a ∈ bs, (f a).length = w) {lo : Option VV} {hi mx : VV} {l h : Nat} (hn : n = bs.length) (b1 : vb lo 0 = some l) (b2 : vb (some hi) n = some h) (b3 : vb (some mx) n = some h) (c1 : l ≤ h) (c2 : h ≤ n) :
    vslice Γ t (.ds g n (rows f bs)) lo (some hi) (some mx) = some (.ds (fullOf (some mx) g h h n) ((bs.drop l).take (h - l)).length (rows f ((bs.drop l).take (h - l)))) := by
  subst hn
  unfold vslice
  rw [ht]
  simp only [b1, b2, b3]
  rw [if_pos ⟨c1, Nat.le_refl _, c2, by simp⟩, hr, rows_drop l hb, rows_take _ fun a ha => hb a (List.mem_of_mem_drop ha)]
  rw [show ((bs.drop l).take (h - l)).length = h - l by simp; omega]
theorem rows_ix : ∀ (M : List SetD) (i j : Nat) (_ : j = i * 3 + 2) (hi : i < M.length), (rows SetD.cells M)[j]? = some (nI .i64 M[i].till)
  | [], i, j, _, hi => by cases hi
  | s :: M, 0, j, hj, _ => by subst hj; rfl
  | s :: M, i + 1, j, hj, hi => by
    subst hj
    rw [rows_cons, List.getElem?_append_right (by rw [setD_len]; omega), setD_len]
    exact rows_ix M i _ (by omega) (by simpa using hi)
def turnL (L : List SetD) (K : List (List Nat)) (now : Nat) : List SetD := (L ++ [(⟨L.length, K, 0⟩ : SetD)]).set (L.length - 1) (((L ++ [(⟨L.length, K, 0⟩ : SetD)]).getD (L.length - 1) (⟨0, [], 0⟩ : SetD)).to (now + 24))
theorem turn_set (L : List SetD) (K : List (List Nat)) (now : Nat) (h1 : 1 ≤ L.length) : (rows SetD.cells (L ++ [(⟨L.length, K, 0⟩ : SetD)])).set (0 + (↑(L.length - 1) : Int).toNat * 3 + 2) (nI .i64 ((now + 24 : Nat) : Int)) = rows SetD.cells (turnL L K now) := by
  have hi : L.length - 1 < (L ++ [(⟨L.length, K, 0⟩ : SetD)]).length := by rw [List.length_append, List.length_singleton]; omega
  refine (rows_set (t := now + 24) (L ++ [(⟨L.length, K, 0⟩ : SetD)]) (L.length - 1) _ (by rw [Int.toNat_natCast]; omega) hi).trans ?_
  unfold turnL
  rw [List.getD_eq_getElem?_getD, List.getElem?_eq_getElem hi]
  rfl
theorem turn_len (L : List SetD) (K : List (List Nat)) (now : Nat) : (turnL L K now).length = L.length + 1 := by
  unfold turnL
  rw [List.length_set, List.length_append, List.length_singleton]
theorem sturn_fn {f : Bool} {L : List SetD} {K : List (List Nat)} {now : Nat} (h : SetsOk L) (hK : KeysOk K) (n1 : 1 ≤ now) (n2 : now ≤ 1000000) (h7 : L.length < 8) (hp : ∀ (hh : 1 < L.length), L[L.length - 2].till ≤ now + 24) :
    FnV Try.prog G0 54 [.ds f L.length (rows SetD.cells L), .ds false K.length (rows bts K), nI .i64 now] (.tup [.ds false (L.length + 1) (rows SetD.cells (turnL L K now)), nI .i64 0]) := by
  have h1 := h.some
  have ck := scheck_fn (f := f) h
  have kf := keys_fn (f := false) hK
  have nk : noHs (rows bts K) = true := rows_noHs bts_noHs _
  have nB' : noHs (rows SetD.cells L) = true := rows_noHs setD_noHs L
  have fr := fresh_fnH (f := false) (L := L ++ [⟨L.length, K, 0⟩]) (by rw [List.length_append, List.length_singleton]; omega) (fun s hs => by
    rcases List.mem_append.1 hs with hs | hs
    · have := h.keys s hs
      exact ⟨by have := this.most; omega, this.len⟩
    · rw [List.mem_singleton.1 hs]
      exact ⟨by show K.length ≤ 100; have := hK.most; omega, hK.len⟩)
  have ll : (L ++ [(⟨L.length, K, 0⟩ : SetD)]).length = L.length + 1 := by rw [List.length_append, List.length_singleton]
  rw [ll] at fr
  have tl : (rows SetD.cells (turnL L K now)).length = (L.length + 1) * 3 := by rw [rows_length (w := 3) fun a _ => setD_len a, turn_len]
  have rl : (rows SetD.cells L).length = L.length * 3 := rows_length (w := 3) fun a _ => setD_len a
  have eT : (L.drop 0).take (L.length - 0) = L := List.take_length
  by_cases h2 : 1 < L.length
  · have hp := hp h2
    refine fn_of_vwp Γok Try.func54 (by kernel_rfl) rfl (by simp [Try.ntmps54]) (wpv_ok Γok (by kernel_rfl) _ _ _ ?_); conv => whnf
    refine ⟨_, ret_of_fn G0ok (ck) (by first | rfl | simp only [noHs, noH, nI, bI, Bool.and_self, Bool.and_true, Bool.true_and, nB']) (by first | rfl | simp only [noHs, noH, nI, bI, Bool.and_self, Bool.and_true, Bool.true_and, nB']), ?_⟩; (conv => whnf); (try (refine ⟨by kernel_rfl, ?_⟩; conv => whnf))
    refine ⟨_, ret_of_fn G0ok (kf) (by first | rfl | simp only [noHs, noH, nI, bI, Bool.and_self, Bool.and_true, Bool.true_and, nk]) (by first | rfl | simp only [noHs, noH, nI, bI, Bool.and_self, Bool.and_true, Bool.true_and, nk]), ?_⟩; (conv => whnf); (try (refine ⟨by kernel_rfl, ?_⟩; conv => whnf))
    rw [decide_eq_false (show ¬ (now : Int) < 1 by omega)]
    conv => whnf
    try (refine ⟨by kernel_rfl, ?_⟩; conv => whnf)
    rw [decide_eq_false (show ¬ (now : Int) > 1099511627776 by omega)]
    conv => whnf
    try (refine ⟨by kernel_rfl, ?_⟩; conv => whnf)
    rw [decide_eq_true (show ((L.length : Nat) : Int) > 1 by omega)]
    conv => whnf
    try (refine ⟨by kernel_rfl, ?_⟩; conv => whnf)
    rw [ws_i64 (x := (now : Int) + 24) (by omega) (by omega), ws_i64 (x := (L.length : Int) - 2) (by omega) (by omega)]
    conv => whnf
    try (refine ⟨by kernel_rfl, ?_⟩; conv => whnf)
    rw [show (L.length : Int) - 2 = ((L.length - 2 : Nat) : Int) from by omega]
    refine bindP_intro (if_pos (inB_ok (by omega) (by omega))) ?_; conv => whnf
    refine bindP_intro (rows_ix L (L.length - 2) _ (by dsimp only; omega) (by omega)) ?_
    conv => whnf
    try (refine ⟨by kernel_rfl, ?_⟩; conv => whnf)
    rw [decide_eq_false (show ¬ (now : Int) + 24 < ((L[L.length - 2].till : Nat) : Int) by omega)]
    conv => whnf
    try (refine ⟨by kernel_rfl, ?_⟩; conv => whnf)
    rw [show (((L.length : Nat) : Int) == 8) = decide (L.length = 8) from beq_lit _ 8, decide_eq_false (show ¬ L.length = 8 by omega)]
    conv => whnf
    try (refine ⟨by kernel_rfl, ?_⟩; conv => whnf)
    refine bindP_intro (vpure_slice (vslice_rowsm (f := SetD.cells) (w := 3) rfl rfl (fun a _ => setD_len a) rfl (by rfl) vb_nat vb_nat (Nat.zero_le _) (Nat.le_refl _))) ?_
    rw [eT]
    conv => whnf
    try (refine ⟨by kernel_rfl, ?_⟩; conv => whnf)
    refine .ownAs 1 (rows SetD.cells [⟨L.length, K, 0⟩]) rfl rfl ?_
    conv => whnf
    try (refine ⟨by kernel_rfl, ?_⟩; conv => whnf)
    refine onlyIf_intro (by simp [maxLen, rl, fullOf]; omega) ?_
    refine condP_t (by simp) ?_
    refine .read (L.length + 1) (rows SetD.cells (L ++ [⟨L.length, K, 0⟩])) rfl (by rw [rows_app]) (by rw [rows_length (w := 3) fun a _ => setD_len a, ll]) (rows_noHs setD_noHs _) ?_
    conv => whnf
    try (refine ⟨by kernel_rfl, ?_⟩; conv => whnf)
    refine ⟨_, ret_new fr (show noHs [VV.ds false (L.length + 1) (rows SetD.cells (L ++ [⟨L.length, K, 0⟩]))] = true from by simp only [noHs, noH, rows_noHs setD_noHs, Bool.and_self]) (rows_noHs setD_noHs _), ?_⟩
    conv => whnf
    try (refine ⟨by kernel_rfl, ?_⟩; conv => whnf)
    rw [ws_i64 (x := (L.length : Int) - 1) (by omega) (by omega), show (L.length : Int) - 1 = ((L.length - 1 : Nat) : Int) from by omega]
    conv => whnf
    try (refine ⟨by kernel_rfl, ?_⟩; conv => whnf)
    refine bindP_intro (if_pos (inB_ok (by omega) (by omega))) ?_; conv => whnf
    rw [ws_i64 (x := (now : Int) + 24) (by omega) (by omega), show (now : Int) + 24 = ((now + 24 : Nat) : Int) from by omega]
    refine onlyIf_intro (by simp [rows_length (w := 3) fun (a : SetD) (_ : a ∈ L ++ [⟨L.length, K, 0⟩]) => setD_len a, ll]; omega) ?_
    conv => whnf
    try (refine ⟨by kernel_rfl, ?_⟩; conv => whnf)
    exact ⟨_, rfl, deep_tup (mapO_cons (deep_row (cs := rows SetD.cells (turnL L K now)) (congrArg some (turn_set L K now h1)) (tl) (rows_noHs setD_noHs _)) (mapO_cons (deepV_noH _ _ rfl) mapO_nil))⟩
  · refine fn_of_vwp Γok Try.func54 (by kernel_rfl) rfl (by simp [Try.ntmps54]) (wpv_ok Γok (by kernel_rfl) _ _ _ ?_); conv => whnf
    refine ⟨_, ret_of_fn G0ok (ck) (by first | rfl | simp only [noHs, noH, nI, bI, Bool.and_self, Bool.and_true, Bool.true_and, nB']) (by first | rfl | simp only [noHs, noH, nI, bI, Bool.and_self, Bool.and_true, Bool.true_and, nB']), ?_⟩; (conv => whnf); (try (refine ⟨by kernel_rfl, ?_⟩; conv => whnf))
    refine ⟨_, ret_of_fn G0ok (kf) (by first | rfl | simp only [noHs, noH, nI, bI, Bool.and_self, Bool.and_true, Bool.true_and, nk]) (by first | rfl | simp only [noHs, noH, nI, bI, Bool.and_self, Bool.and_true, Bool.true_and, nk]), ?_⟩; (conv => whnf); (try (refine ⟨by kernel_rfl, ?_⟩; conv => whnf))
    rw [decide_eq_false (show ¬ (now : Int) < 1 by omega)]
    conv => whnf
    try (refine ⟨by kernel_rfl, ?_⟩; conv => whnf)
    rw [decide_eq_false (show ¬ (now : Int) > 1099511627776 by omega)]
    conv => whnf
    try (refine ⟨by kernel_rfl, ?_⟩; conv => whnf)
    rw [decide_eq_false (show ¬ ((L.length : Nat) : Int) > 1 by omega)]
    conv => whnf
    try (refine ⟨by kernel_rfl, ?_⟩; conv => whnf)
    rw [show (((L.length : Nat) : Int) == 8) = decide (L.length = 8) from beq_lit _ 8, decide_eq_false (show ¬ L.length = 8 by omega)]
    conv => whnf
    try (refine ⟨by kernel_rfl, ?_⟩; conv => whnf)
    refine bindP_intro (vpure_slice (vslice_rowsm (f := SetD.cells) (w := 3) rfl rfl (fun a _ => setD_len a) rfl (by rfl) vb_nat vb_nat (Nat.zero_le _) (Nat.le_refl _))) ?_
    rw [eT]
    conv => whnf
    try (refine ⟨by kernel_rfl, ?_⟩; conv => whnf)
    refine .ownAs 1 (rows SetD.cells [⟨L.length, K, 0⟩]) rfl rfl ?_
    conv => whnf
    try (refine ⟨by kernel_rfl, ?_⟩; conv => whnf)
    refine onlyIf_intro (by simp [maxLen, rl, fullOf]; omega) ?_
    refine condP_t (by simp) ?_
    refine .read (L.length + 1) (rows SetD.cells (L ++ [⟨L.length, K, 0⟩])) rfl (by rw [rows_app]) (by rw [rows_length (w := 3) fun a _ => setD_len a, ll]) (rows_noHs setD_noHs _) ?_
    conv => whnf
    try (refine ⟨by kernel_rfl, ?_⟩; conv => whnf)
    refine ⟨_, ret_new fr (show noHs [VV.ds false (L.length + 1) (rows SetD.cells (L ++ [⟨L.length, K, 0⟩]))] = true from by simp only [noHs, noH, rows_noHs setD_noHs, Bool.and_self]) (rows_noHs setD_noHs _), ?_⟩
    conv => whnf
    try (refine ⟨by kernel_rfl, ?_⟩; conv => whnf)
    rw [ws_i64 (x := (L.length : Int) - 1) (by omega) (by omega), show (L.length : Int) - 1 = ((L.length - 1 : Nat) : Int) from by omega]
    conv => whnf
    try (refine ⟨by kernel_rfl, ?_⟩; conv => whnf)
    refine bindP_intro (if_pos (inB_ok (by omega) (by omega))) ?_; conv => whnf
    rw [ws_i64 (x := (now : Int) + 24) (by omega) (by omega), show (now : Int) + 24 = ((now + 24 : Nat) : Int) from by omega]
    refine onlyIf_intro (by simp [rows_length (w := 3) fun (a : SetD) (_ : a ∈ L ++ [⟨L.length, K, 0⟩]) => setD_len a, ll]; omega) ?_
    conv => whnf
    try (refine ⟨by kernel_rfl, ?_⟩; conv => whnf)
    exact ⟨_, rfl, deep_tup (mapO_cons (deep_row (cs := rows SetD.cells (turnL L K now)) (congrArg some (turn_set L K now h1)) (tl) (rows_noHs setD_noHs _)) (mapO_cons (deepV_noH _ _ rfl) mapO_nil))⟩
end Go.Proofs.Ytlecdiopokalgaa
