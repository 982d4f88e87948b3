/- sets.Live, by the engine. -/
import Derived.Test.YtlecdiopokalgaaVSetT
namespace Go.Proofs.Ytlecdiopokalgaa
set_option linter.unusedVariables false
set_option linter.unusedSimpArgs false
set_option linter.unusedSectionVars false
open Go.ChangeShapes Go.WideShapes Go.ChangeAt Go.RowKit Go.Joins
set_option maxRecDepth 10000
def setNone : VV := .agg [nI .i64 0, .ds true 0 [], nI .i64 0]
theorem slive_none {f : Bool} {L : List SetD} {n now : Nat} (h : SetsOk L) (hn : L.length ≤ n) (hb : n ≤ 1000) (hw : now ≤ 1000) : FnV Try.prog G0 20 [.ds f L.length (rows SetD.cells L), nI .i64 n, nI .i64 now] (.tup [setNone, nI .i64 5]) := by
  have ck := scheck_fn (f := f) h
  have nB' : noHs (rows SetD.cells L) = true := rows_noHs setD_noHs L
  refine fn_of_vwp Γok Try.func20 (by kernel_rfl) rfl (by simp [Try.ntmps20]) (wpv_ok Γok (by kernel_rfl) _ _ _ ?_); conv => whnf
  refine ⟨_, ret_of_fn G0ok (ck) (by first | rfl | simp only [noHs, noH, nI, bI, Bool.and_self, Bool.and_true, Bool.true_and, nB']) (by first | rfl | simp only [noHs, noH, nI, bI, Bool.and_self, Bool.and_true, Bool.true_and, nB']), ?_⟩; (conv => whnf); (try (refine ⟨by kernel_rfl, ?_⟩; conv => whnf))
  rw [decide_eq_false (show ¬ (n : Int) < 0 by omega)]
  conv => whnf
  try (refine ⟨by kernel_rfl, ?_⟩; conv => whnf)
  rw [decide_eq_true (show (n : Int) ≥ ((L.length : Nat) : Int) by omega)]
  conv => whnf
  try (refine ⟨by kernel_rfl, ?_⟩; conv => whnf)
  exact ⟨_, rfl, rfl⟩
theorem slive_fn {f : Bool} {L : List SetD} {i now : Nat} (h : SetsOk L) (hi : i < L.length) (hw : now ≤ 1000) : FnV Try.prog G0 20 [.ds f L.length (rows SetD.cells L), nI .i64 i, nI .i64 now] (.tup (if L[i].till ≠ 0 ∧ L[i].till ≤ now then [setNone, nI .i64 15] else [.agg L[i].cells, nI .i64 0])) := by
  have ck := scheck_fn (f := f) h
  have nB' : noHs (rows SetD.cells L) = true := rows_noHs setD_noHs L
  have h8 := h.most
  have kk := h.keys _ (List.getElem_mem hi)
  have le := h.le _ (List.getElem_mem hi)
  have fr := fresh_fnH (f := f && decide (i + 1 = L.length)) (L := [L[i]]) (by show 1 ≤ 100; decide) (fun s hs => by rw [List.mem_singleton.1 hs]; exact ⟨by have := kk.most; omega, kk.len⟩)
  have ei : (L.drop i).take (i + 1 - i) = [L[i]] := by
    rw [Nat.add_sub_cancel_left, List.drop_eq_getElem_cons hi]
    rfl
  have kl : (rows bts L[i].keys).length = L[i].keys.length * 20 := rows_length (w := 20) fun a ha => by rw [bts_length, kk.len a ha]
  have nk : noHs (rows bts L[i].keys) = true := rows_noHs bts_noHs _
  refine gen_ex L[i] fun s es => ?_
  rw [← es] at kk le fr ei kl nk ⊢
  clear es
  refine fn_of_vwp Γok Try.func20 (by kernel_rfl) rfl (by simp [Try.ntmps20]) (wpv_ok Γok (by kernel_rfl) _ _ _ ?_); conv => whnf
  refine ⟨_, ret_of_fn G0ok (ck) (by first | rfl | simp only [noHs, noH, nI, bI, Bool.and_self, Bool.and_true, Bool.true_and, nB']) (by first | rfl | simp only [noHs, noH, nI, bI, Bool.and_self, Bool.and_true, Bool.true_and, nB']), ?_⟩; (conv => whnf); (try (refine ⟨by kernel_rfl, ?_⟩; conv => whnf))
  rw [decide_eq_false (show ¬ (i : Int) < 0 by omega)]
  conv => whnf
  try (refine ⟨by kernel_rfl, ?_⟩; conv => whnf)
  rw [decide_eq_false (show ¬ (i : Int) ≥ ((L.length : Nat) : Int) by omega)]
  conv => whnf
  try (refine ⟨by kernel_rfl, ?_⟩; conv => whnf)
  rw [ws_i64 (x := (i : Int) + 1) (by omega) (by omega), show (i : Int) + 1 = ((i + 1 : Nat) : Int) from rfl]
  refine bindP_intro (vpure_slice (vslice_rows (f := SetD.cells) (w := 3) rfl rfl (fun a _ => setD_len a) rfl vb_nat vb_nat (by omega) (by omega))) ?_
  rw [ei]
  conv => whnf
  try (refine ⟨by kernel_rfl, ?_⟩; conv => whnf)
  refine ⟨_, ret_new fr (show noHs [VV.ds (f && decide (i + 1 = L.length)) [s].length (rows SetD.cells [s])] = true from by simp only [noHs, noH, rows_noHs setD_noHs, Bool.and_self]) (rows_noHs setD_noHs _), ?_⟩
  conv => whnf
  try (refine ⟨by kernel_rfl, ?_⟩; conv => whnf)
  rw [show (((s.till : Nat) : Int) != 0) = !decide (s.till = 0) from bne_lit _ 0]
  by_cases h0 : s.till = 0
  · rw [decide_eq_true h0, if_neg (fun hh => hh.1 h0)]
    conv => whnf
    try (refine ⟨by kernel_rfl, ?_⟩; conv => whnf)
    exact ⟨_, rfl, deep_tup (mapO_cons (deepV_noH _ _ (by show noHs s.cells = true; exact setD_noHs s)) (mapO_cons (deepV_noH _ _ rfl) mapO_nil))⟩
  · rw [decide_eq_false h0]
    conv => whnf
    try (refine ⟨by kernel_rfl, ?_⟩; conv => whnf)
    by_cases h2 : s.till ≤ now
    · rw [decide_eq_true (show (now : Int) ≥ ((s.till : Nat) : Int) by omega), if_pos ⟨h0, h2⟩]
      conv => whnf
      try (refine ⟨by kernel_rfl, ?_⟩; conv => whnf)
      exact ⟨_, rfl, rfl⟩
    · rw [decide_eq_false (show ¬ (now : Int) ≥ ((s.till : Nat) : Int) by omega), if_neg (fun hh => h2 hh.2)]
      conv => whnf
      try (refine ⟨by kernel_rfl, ?_⟩; conv => whnf)
      exact ⟨_, rfl, deep_tup (mapO_cons (deepV_noH _ _ (by show noHs s.cells = true; exact setD_noHs s)) (mapO_cons (deepV_noH _ _ rfl) mapO_nil))⟩
end Go.Proofs.Ytlecdiopokalgaa
