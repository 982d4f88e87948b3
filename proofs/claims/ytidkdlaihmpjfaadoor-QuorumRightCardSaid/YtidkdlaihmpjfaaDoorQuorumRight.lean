/- QuorumRight: enough signatures are enough, and fewer are not; out of order they count for nothing. -/
import Derived.Test.YtidkdlaihmpjfaaDoorVQuor
import Derived.Test.YtidkdlaihmpjfaaDoorVGlob
import Derived.Test.YtidkdlaihmpjfaaDoorCards
import Derived.Test.YtidkdlaihmpjfaaDoorTie
import Derived.SevenTiedAt
import Derived.OpenShut
namespace Go.Proofs.YtidkdlaihmpjfaaDoor
set_option linter.unusedVariables false
set_option linter.unusedSimpArgs false
set_option linter.unusedSectionVars false
open Go.ChangeShapes Go.WideShapes Go.ChangeAt Go.RowKit Go.Joins
set_option maxRecDepth 10000
theorem fnQuorumRight (n many mask : Int) (q : RawD) (_ : I64 n) (_ : I64 many) (_ : I64 mask) (_ : q.ok) : FnV Tryd.prog G0 11 [nI .i64 n, nI .i64 many, nI .i64 mask, q.v] (bI true) := by
  obtain ⟨k, h, cv⟩ := law_curve n
  have sm := rsum_fn q
  have pk1 := picked_fn many 5 (by decide) (by decide)
  obtain ⟨a, ha, la⟩ : ∃ a : Nat, many % 5 = (a : Int) ∧ a < 5 := ⟨(many % 5).toNat, by omega, by omega⟩
  rw [ha] at pk1
  have hm : 1 + a ≤ 5 := by omega
  obtain ⟨m, em⟩ : ∃ m, m = 1 + a := ⟨_, rfl⟩
  have mb := members_fn h (m := m) (by omega)
  have p2 : (2 : Nat) ^ m ≤ 2 ^ 5 := Nat.pow_le_pow_right (by decide) (by omega)
  have p3 : 0 < (2 : Nat) ^ m := Nat.pow_pos (by decide)
  have pk2 := picked_fn mask ((2 ^ m : Nat) : Int) (by omega) (by omega)
  obtain ⟨M, hM, lM⟩ : ∃ M : Nat, mask % ((2 ^ m : Nat) : Int) = (M : Int) ∧ M < 2 ^ 20 := ⟨(mask % ((2 ^ m : Nat) : Int)).toNat, by have := Int.emod_nonneg mask (show ((2 ^ m : Nat) : Int) ≠ 0 by omega); omega, by have := Int.emod_nonneg mask (show ((2 ^ m : Nat) : Int) ≠ 0 by omega); have := Int.emod_lt_of_pos mask (show 0 < ((2 ^ m : Nat) : Int) by omega); omega⟩
  rw [hM] at pk2
  have lx := rsumN_length q
  have bx := rsumN_lt q
  obtain ⟨S, hS⟩ := Classical.axiomOfChoice fun i => make_gk h (secM_lt h i).1 (secM_lt h i).2 lx bx
  have mk : ∀ i, i < m → FnV Tryd.prog G0 29 [(crv k).v, uV (secM k i), .agg (bts (rsumN q))] (.tup [(S i).v, nI .i64 0]) := fun i _ => by obtain ⟨_, _, _, e⟩ := hS i; exact e
  have rc : ∀ i, FnV Tryd.prog G0 33 [(crv k).v, .agg (bts (rsumN q)), (S i).v] (.tup [(gk k (secM k i)).v, nI .i64 0]) := fun i => by
    obtain ⟨_, _, sg, _⟩ := hS i
    exact sg.recover h (secM_lt h i).2 (secM_lt h i).1 lx bx rfl
  have sf := signed_fn (k := k) (m := m) (M := M) (by omega) lM lx mk
  have nd := need_fn m (by omega)
  have sl := sel_len M m
  have lkq : ∀ i, (keyB (gk k (secM k i))).length = 20 := fun i => keyB_len _
  have g := good_crv h
  have nKs : noHs (rows (membK k) (List.range m)) = true := rows_noHs (membK_noHs k) _
  have nDs : noHs (rows (membD k) (List.range m)) = true := rows_noHs (membD_noHs k) _
  have nSs : noHs (rows (sgC S) (sel M m)) = true := rows_noHs (sgC_noHs S) _
  have eK : (fun i => bts (keyB (gk k (secM k i)))) = membK k := rfl
  have eS : ∀ l : List Nat, rows QE.cells (l.map fun w => (⟨w, S w, 0, gk k (secM k w)⟩ : QE)) = rows (sgC S) l := fun l => rows_map _ _ l
  have few := fun hn => qcheck_few g (n := m) (b := rsumN q) (f1 := false) (f2 := false) (m := (sel M m).length) (by omega) (by omega) nKs nSs (by omega) hn
  have emp := qcheck_empty g (b := rsumN q) (f2 := false) (m := (sel M m).length) (ls := rows (sgC S) (sel M m))
  have all : ∀ l : List Nat, l.length ≤ 1000 → (∀ w ∈ l, w < m) → 2 * m / 3 + 1 ≤ l.length → FnV Tryd.prog G0 41 [(crv k).v, .agg [nI .i64 0, .ds false m (rows (membK k) (List.range m)), nI .i64 0], .agg (bts (rsumN q)), .ds false l.length (rows (sgC S) l)] (nI .i64 (ckQ m (fun i => keyB (gk k (secM k i))) (-1) (l.map fun w => (⟨w, S w, 0, gk k (secM k w)⟩ : QE)) : Nat)) := fun l h1 h2 h3 => by
    have := qcheck_fn g (n := m) (by omega) (by omega) (key := fun i => keyB (gk k (secM k i))) lkq lx (f1 := false) (f2 := false) (L := l.map fun w => (⟨w, S w, 0, gk k (secM k w)⟩ : QE)) (by rw [List.length_map]; exact h1)
      (fun x hx => by obtain ⟨w, hw, rfl⟩ := List.mem_map.1 hx; have := h2 w hw; show w < 1000; omega)
      (fun x hx => by obtain ⟨w, hw, rfl⟩ := List.mem_map.1 hx; exact rc w) (by rw [List.length_map]; exact h3)
    rw [eS, List.length_map, eK] at this
    exact this
  have ok : ∀ B, ckQ m (fun i => keyB (gk k (secM k i))) (-1) ((sel M m).map (fun w => (⟨w, S w, 0, gk k (secM k w)⟩ : QE)) ++ B) = ckQ m (fun i => keyB (gk k (secM k i))) (((sel M m).getLast?.map (fun (w : Nat) => (w : Int))).getD (-1)) B :=
    fun B => ck_app B _ _ (sel_pw M m) fun w hw => ⟨by omega, sel_lt hw, rfl⟩
  have hall : ∀ w ∈ sel M m, w < m := fun w hw => sel_lt hw
  have w1 : wS .i64 (1 + (a : Int)) = (m : Int) := by rw [ws_i64 (by omega) (by omega)]; omega
  have w2 : wS .i64 (1 * 2 ^ min (m : Int).toNat IntKind.i64.bits) = ((2 ^ m : Nat) : Int) := shl_one (by omega)
  have mB : (bts (rsumN q)).length = 32 := by rw [bts_length, lx]
  have rl := rows_length (f := sgC S) (w := 10) (l := sel M m) fun a _ => sgC_len S a
  clear hS rc
  unfold SgD.v SgD.cells CvD.v CvD.cells RawD.v RawD.cells at *
  refine gen_ex (rsumN q) fun X eX => ?_
  rw [← eX] at sm mk sf few emp all mB
  clear eX lx bx
  refine gen_ex (crv k) fun C eC => ?_
  rw [← eC] at cv mb sf few emp all
  clear eC
  have hmx : (if (1 : Int) > ((2 * m / 3 + 1 : Nat) : Int) then (1 : Int) else ((2 * m / 3 + 1 : Nat) : Int)) = ((2 * m / 3 + 1 : Nat) : Int) := by split <;> omega
  by_cases hn : (sel M m).length < 2 * m / 3 + 1
  · have fw := few hn
    refine fn_of_vwp Γok Tryd.func11 (by kernel_rfl) rfl (by simp [Tryd.ntmps11]) (wpv_ok Γok (by kernel_rfl) _ _ _ ?_); conv => whnf
    refine ⟨_, ret_of_fn G0ok (cv) (by first | rfl | simp only [noHs, noH, nI, bI, Bool.and_self, Bool.and_true, Bool.true_and, ]) (by first | rfl | simp only [noHs, noH, nI, bI, Bool.and_self, Bool.and_true, Bool.true_and, ]), ?_⟩; (conv => whnf); (try (refine ⟨by kernel_rfl, ?_⟩; conv => whnf))
    refine ⟨_, ret_of_fn G0ok (pk1) (by first | rfl | simp only [noHs, noH, nI, bI, Bool.and_self, Bool.and_true, Bool.true_and, ]) (by first | rfl | simp only [noHs, noH, nI, bI, Bool.and_self, Bool.and_true, Bool.true_and, ]), ?_⟩; (conv => whnf); (try (refine ⟨by kernel_rfl, ?_⟩; conv => whnf))
    rw [w1]
    conv => whnf
    try (refine ⟨by kernel_rfl, ?_⟩; conv => whnf)
    refine ⟨_, ret_of_fn G0ok (mb) (by first | rfl | simp only [noHs, noH, nI, bI, Bool.and_self, Bool.and_true, Bool.true_and, nKs, nDs]) (by first | rfl | simp only [noHs, noH, nI, bI, Bool.and_self, Bool.and_true, Bool.true_and, nKs, nDs]), ?_⟩; (conv => whnf); (try (refine ⟨by kernel_rfl, ?_⟩; conv => whnf))
    rw [w2]
    conv => whnf
    try (refine ⟨by kernel_rfl, ?_⟩; conv => whnf)
    refine ⟨_, ret_of_fn G0ok (pk2) (by first | rfl | simp only [noHs, noH, nI, bI, Bool.and_self, Bool.and_true, Bool.true_and, ]) (by first | rfl | simp only [noHs, noH, nI, bI, Bool.and_self, Bool.and_true, Bool.true_and, ]), ?_⟩; (conv => whnf); (try (refine ⟨by kernel_rfl, ?_⟩; conv => whnf))
    refine ⟨_, ret_of_fn G0ok (sm) (by first | rfl | simp only [noHs, noH, nI, bI, Bool.and_self, Bool.and_true, Bool.true_and, bts_noHs]) (by first | rfl | simp only [noHs, noH, nI, bI, Bool.and_self, Bool.and_true, Bool.true_and, bts_noHs]), ?_⟩; (conv => whnf); (try (refine ⟨by kernel_rfl, ?_⟩; conv => whnf))
    refine ⟨_, ret_of_fn G0ok (sf) (by first | rfl | simp only [noHs, noH, nI, bI, Bool.and_self, Bool.and_true, Bool.true_and, nKs, nDs, bts_noHs, nSs, noHs_append, words_noHs, uC]) (by first | rfl | simp only [noHs, noH, nI, bI, Bool.and_self, Bool.and_true, Bool.true_and, nKs, nDs, bts_noHs, nSs, noHs_append, words_noHs, uC]), ?_⟩; (conv => whnf); (try (refine ⟨by kernel_rfl, ?_⟩; conv => whnf))
    refine ⟨_, ret_of_fn G0ok (nd) (by first | rfl | simp only [noHs, noH, nI, bI, Bool.and_self, Bool.and_true, Bool.true_and, ]) (by first | rfl | simp only [noHs, noH, nI, bI, Bool.and_self, Bool.and_true, Bool.true_and, ]), ?_⟩; (conv => whnf); (try (refine ⟨by kernel_rfl, ?_⟩; conv => whnf))
    refine ⟨_, ret_of_fn G0ok (sm) (by first | rfl | simp only [noHs, noH, nI, bI, Bool.and_self, Bool.and_true, Bool.true_and, bts_noHs]) (by first | rfl | simp only [noHs, noH, nI, bI, Bool.and_self, Bool.and_true, Bool.true_and, bts_noHs]), ?_⟩; (conv => whnf); (try (refine ⟨by kernel_rfl, ?_⟩; conv => whnf))
    refine ⟨_, ret_of_fn G0ok (fw) (by first | rfl | simp only [noHs, noH, nI, bI, Bool.and_self, Bool.and_true, Bool.true_and, nKs, nSs, bts_noHs, noHs_append, words_noHs, uC]) (by first | rfl | simp only [noHs, noH, nI, bI, Bool.and_self, Bool.and_true, Bool.true_and, nKs, nSs, bts_noHs, noHs_append, words_noHs, uC]), ?_⟩; (conv => whnf); (try (refine ⟨by kernel_rfl, ?_⟩; conv => whnf))
    rw [decide_eq_true (show ((sel M m).length : Int) < (match true with | true => if (1 : Int) > ((2 * m / 3 + 1 : Nat) : Int) then (1 : Int) else ((2 * m / 3 + 1 : Nat) : Int) | false => if (1 : Int) < ((2 * m / 3 + 1 : Nat) : Int) then (1 : Int) else ((2 * m / 3 + 1 : Nat) : Int)) from by show _ < (if _ then _ else _); rw [hmx]; omega)]
    conv => whnf
    try (refine ⟨by kernel_rfl, ?_⟩; conv => whnf)
    exact ⟨_, rfl, rfl⟩
  · have fy := all (sel M m) (by omega) hall (by omega)
    have k0 := ok []
    rw [List.append_nil] at k0
    rw [k0] at fy
    obtain ⟨w, ew, hw⟩ : ∃ w, (sel M m)[(sel M m).length - 1]'(by omega) = w ∧ w ∈ sel M m := ⟨_, rfl, List.getElem_mem _⟩
    have elw : (sel M m).getLast? = some w := by rw [List.getLast?_eq_getElem?, List.getElem?_eq_getElem (by omega), ew]
    have ft := all (sel M m ++ [w]) (by rw [List.length_append, List.length_singleton]; omega) (fun v hv => (List.mem_append.1 hv).elim (hall v) fun e => by rw [List.mem_singleton.1 e]; exact hall w hw) (by rw [List.length_append, List.length_singleton]; omega)
    rw [List.map_append, ok, elw, List.map_cons, List.map_nil, ckQ_cons] at ft
    dsimp only [Option.map_some, Option.getD_some] at ft
    rw [if_neg (by have := hall w hw; omega), if_pos (Int.le_refl _)] at ft
    rw [show ckQ m (fun i => keyB (gk k (secM k i))) (((sel M m).getLast?.map (fun (w : Nat) => (w : Int))).getD (-1)) [] = 0 from rfl] at fy
    refine fn_of_vwp Γok Tryd.func11 (by kernel_rfl) rfl (by simp [Tryd.ntmps11]) (wpv_ok Γok (by kernel_rfl) _ _ _ ?_); conv => whnf
    refine ⟨_, ret_of_fn G0ok (cv) (by first | rfl | simp only [noHs, noH, nI, bI, Bool.and_self, Bool.and_true, Bool.true_and, ]) (by first | rfl | simp only [noHs, noH, nI, bI, Bool.and_self, Bool.and_true, Bool.true_and, ]), ?_⟩; (conv => whnf); (try (refine ⟨by kernel_rfl, ?_⟩; conv => whnf))
    refine ⟨_, ret_of_fn G0ok (pk1) (by first | rfl | simp only [noHs, noH, nI, bI, Bool.and_self, Bool.and_true, Bool.true_and, ]) (by first | rfl | simp only [noHs, noH, nI, bI, Bool.and_self, Bool.and_true, Bool.true_and, ]), ?_⟩; (conv => whnf); (try (refine ⟨by kernel_rfl, ?_⟩; conv => whnf))
    rw [w1]
    conv => whnf
    try (refine ⟨by kernel_rfl, ?_⟩; conv => whnf)
    refine ⟨_, ret_of_fn G0ok (mb) (by first | rfl | simp only [noHs, noH, nI, bI, Bool.and_self, Bool.and_true, Bool.true_and, nKs, nDs]) (by first | rfl | simp only [noHs, noH, nI, bI, Bool.and_self, Bool.and_true, Bool.true_and, nKs, nDs]), ?_⟩; (conv => whnf); (try (refine ⟨by kernel_rfl, ?_⟩; conv => whnf))
    rw [w2]
    conv => whnf
    try (refine ⟨by kernel_rfl, ?_⟩; conv => whnf)
    refine ⟨_, ret_of_fn G0ok (pk2) (by first | rfl | simp only [noHs, noH, nI, bI, Bool.and_self, Bool.and_true, Bool.true_and, ]) (by first | rfl | simp only [noHs, noH, nI, bI, Bool.and_self, Bool.and_true, Bool.true_and, ]), ?_⟩; (conv => whnf); (try (refine ⟨by kernel_rfl, ?_⟩; conv => whnf))
    refine ⟨_, ret_of_fn G0ok (sm) (by first | rfl | simp only [noHs, noH, nI, bI, Bool.and_self, Bool.and_true, Bool.true_and, bts_noHs]) (by first | rfl | simp only [noHs, noH, nI, bI, Bool.and_self, Bool.and_true, Bool.true_and, bts_noHs]), ?_⟩; (conv => whnf); (try (refine ⟨by kernel_rfl, ?_⟩; conv => whnf))
    refine ⟨_, ret_of_fn G0ok (sf) (by first | rfl | simp only [noHs, noH, nI, bI, Bool.and_self, Bool.and_true, Bool.true_and, nKs, nDs, bts_noHs, nSs, noHs_append, words_noHs, uC]) (by first | rfl | simp only [noHs, noH, nI, bI, Bool.and_self, Bool.and_true, Bool.true_and, nKs, nDs, bts_noHs, nSs, noHs_append, words_noHs, uC]), ?_⟩; (conv => whnf); (try (refine ⟨by kernel_rfl, ?_⟩; conv => whnf))
    refine ⟨_, ret_of_fn G0ok (nd) (by first | rfl | simp only [noHs, noH, nI, bI, Bool.and_self, Bool.and_true, Bool.true_and, ]) (by first | rfl | simp only [noHs, noH, nI, bI, Bool.and_self, Bool.and_true, Bool.true_and, ]), ?_⟩; (conv => whnf); (try (refine ⟨by kernel_rfl, ?_⟩; conv => whnf))
    refine ⟨_, ret_of_fn G0ok (sm) (by first | rfl | simp only [noHs, noH, nI, bI, Bool.and_self, Bool.and_true, Bool.true_and, bts_noHs]) (by first | rfl | simp only [noHs, noH, nI, bI, Bool.and_self, Bool.and_true, Bool.true_and, bts_noHs]), ?_⟩; (conv => whnf); (try (refine ⟨by kernel_rfl, ?_⟩; conv => whnf))
    refine ⟨_, ret_of_fn G0ok (fy) (by first | rfl | simp only [noHs, noH, nI, bI, Bool.and_self, Bool.and_true, Bool.true_and, nKs, nSs, bts_noHs, noHs_append, words_noHs, uC]) (by first | rfl | simp only [noHs, noH, nI, bI, Bool.and_self, Bool.and_true, Bool.true_and, nKs, nSs, bts_noHs, noHs_append, words_noHs, uC]), ?_⟩; (conv => whnf); (try (refine ⟨by kernel_rfl, ?_⟩; conv => whnf))
    rw [decide_eq_false (show ¬ ((sel M m).length : Int) < (match true with | true => if (1 : Int) > ((2 * m / 3 + 1 : Nat) : Int) then (1 : Int) else ((2 * m / 3 + 1 : Nat) : Int) | false => if (1 : Int) < ((2 * m / 3 + 1 : Nat) : Int) then (1 : Int) else ((2 * m / 3 + 1 : Nat) : Int)) from by show ¬ _ < (if _ then _ else _); rw [hmx]; omega)]
    conv => whnf
    try (refine ⟨by kernel_rfl, ?_⟩; conv => whnf)
    rw [ws_i64 (x := ((sel M m).length : Int) - 1) (by omega) (by omega)]
    conv => whnf
    try (refine ⟨by kernel_rfl, ?_⟩; conv => whnf)
    refine .ownAs 0 [] rfl rfl ?_
    conv => whnf
    try (refine ⟨by kernel_rfl, ?_⟩; conv => whnf)
    refine onlyIf_intro (by show (_ && (_ && Nat.beq (rows (sgC S) (sel M m)).length _)) = true; rw [rl]; simp) ?_
    conv => whnf
    try (refine ⟨by kernel_rfl, ?_⟩; conv => whnf)
    refine onlyIf_intro (by simp [maxLen]; omega) ?_
    refine .ownAs (sel M m).length (rows (sgC S) (sel M m)) (by simp) (by simp) ?_
    conv => whnf
    try (refine ⟨by kernel_rfl, ?_⟩; conv => whnf)
    refine bindP_intro (if_pos (inB_ok (by omega) (by omega))) ?_; conv => whnf
    refine bindP_intro (row_load (i := (sel M m).length - 1) (w := 10) rfl rfl rfl (fun a _ => sgC_len S a) (by dsimp only; omega) (by omega)) ?_
    rw [ew]
    conv => whnf
    try (refine ⟨by kernel_rfl, ?_⟩; conv => whnf)
    refine .ownAs 1 (sgC S w) rfl rfl ?_
    conv => whnf
    try (refine ⟨by kernel_rfl, ?_⟩; conv => whnf)
    refine onlyIf_intro (by show (Nat.beq (rows (sgC S) (sel M m)).length _ && _) = true; rw [rl]; simp [maxLen]; omega) ?_
    refine .read (sel M m ++ [w]).length (rows (sgC S) (sel M m ++ [w])) (by rw [List.length_append]; rfl) (by rw [rows_app, rows_one]) (by rw [rows_length (w := 10) fun a _ => sgC_len S a]) (rows_noHs (sgC_noHs S) _) ?_
    conv => whnf
    try (refine ⟨by kernel_rfl, ?_⟩; conv => whnf)
    refine ⟨_, ret_of_fn G0ok (sm) (by first | rfl | simp only [noHs, noH, nI, bI, Bool.and_self, Bool.and_true, Bool.true_and, bts_noHs]) (by first | rfl | simp only [noHs, noH, nI, bI, Bool.and_self, Bool.and_true, Bool.true_and, bts_noHs]), ?_⟩; (conv => whnf); (try (refine ⟨by kernel_rfl, ?_⟩; conv => whnf))
    have nTs : noHs (rows (sgC S) (sel M m ++ [w])) = true := rows_noHs (sgC_noHs S) _
    refine ⟨_, ret_of_fn G0ok (ft) (by first | rfl | simp only [noHs, noH, nI, bI, Bool.and_self, Bool.and_true, Bool.true_and, nKs, nTs, bts_noHs, noHs_append, words_noHs, uC]) (by first | rfl | simp only [noHs, noH, nI, bI, Bool.and_self, Bool.and_true, Bool.true_and, nKs, nTs, bts_noHs, noHs_append, words_noHs, uC]), ?_⟩; (conv => whnf); (try (refine ⟨by kernel_rfl, ?_⟩; conv => whnf))
    refine ⟨_, ret_of_fn G0ok (sm) (by first | rfl | simp only [noHs, noH, nI, bI, Bool.and_self, Bool.and_true, Bool.true_and, bts_noHs]) (by first | rfl | simp only [noHs, noH, nI, bI, Bool.and_self, Bool.and_true, Bool.true_and, bts_noHs]), ?_⟩; (conv => whnf); (try (refine ⟨by kernel_rfl, ?_⟩; conv => whnf))
    refine ⟨_, ret_of_fn G0ok (emp) (by first | rfl | simp only [noHs, noH, nI, bI, Bool.and_self, Bool.and_true, Bool.true_and, nKs, nSs, bts_noHs, noHs_append, words_noHs, uC]) (by first | rfl | simp only [noHs, noH, nI, bI, Bool.and_self, Bool.and_true, Bool.true_and, nKs, nSs, bts_noHs, noHs_append, words_noHs, uC]), ?_⟩; (conv => whnf); (try (refine ⟨by kernel_rfl, ?_⟩; conv => whnf))
    exact ⟨_, rfl, rfl⟩
namespace lawQuorumRight
set_option linter.unusedVariables false
set_option maxRecDepth 100000 in
theorem lifted (os : Os) (started : os.Started) (H : Type) (enc : TypeId × Value → H) :
    ReturnsInHanded {} Tryd.checked os 11 .any (fun w args => (Rows.quorumRightSpec.pre enc Tryd.prog Tryd.f11 [] false w args ∧ laidMetH Tryd.prog laidL w) ∧ sizedMet enc Tryd.prog Tryd.f11 (OpenSpec.ofChange Rows.quorumRightSpec) false w args)
      (Rows.quorumRightSpec.post enc Tryd.prog Tryd.f11 false true false false) := by
  refine returnsInHanded_of_change_and (C := Tryd.checked) (X := fun w _ => laidMetH Tryd.prog laidL w) (fun _ _ _ hh h => h.of_heap hh) rowOwn started (by kernel_rfl) Tryd.func11
    (ChangeSpec.witness_shaped (enc := enc) (C := Tryd.checked) (os := os) (X := fun w _ => laidMetH Tryd.prog laidL w) false (World.doorLaid Tryd.prog 400 os) #[.int .i64 0, .int .i64 0, .int .i64 0, .agg #[.int .i64 0, .int .i64 0, .int .i64 0, .string ByteArray.empty]] 8 rfl (World.shaped_of_RefB (by kernel_rfl) (by kernel_rfl)) (by kernel_rfl) (by kernel_rfl) (by kernel_rfl) (door_met os _)) ?_
  intro W base args ds gs before hval0 hW _ _ hL _
  have hval : ∀ (j : Nat) t v, Tryd.f11.params[j]? = some t → args[j]? = some v → Value.okWide Tryd.prog W .any base t v := hval0
  have hW' := hW
  obtain ⟨p, q, hA0, hV, rfl, hfz, hnd⟩ := hW
  have hA : DataW.TrodAll enc Tryd.prog W 0 (fun _ => true) true Tryd.f11.params.toList args.toList ds p := hA0
  rw [Tryd.params11] at hA hval
  obtain ⟨v0, vs0, d0, ds0, p0, q0, hargs, rfl, rfl, h0, r0⟩ := trodAll_cons hA
  obtain ⟨v1, vs1, d1, ds1, p1, q1, rfl, rfl, rfl, h1, r1⟩ := trodAll_cons r0
  obtain ⟨v2, vs2, d2, ds2, p2, q2, rfl, rfl, rfl, h2, r2⟩ := trodAll_cons r1
  obtain ⟨v3, vs3, d3, ds3, p3, q3, rfl, rfl, rfl, h3, r3⟩ := trodAll_cons r2
  obtain ⟨rfl, rfl, rfl⟩ := trodAll_nil r3
  obtain rfl : args = #[v0, v1, v2, v3] := by cases args; simp_all
  obtain ⟨rfl, rfl⟩ := trodVars_none hV
  obtain ⟨a0, rfl, rfl, rfl, w0⟩ := open_int Tryd.underlying3 (hval 0 3 v0 rfl rfl) h0
  obtain ⟨a1, rfl, rfl, rfl, w1⟩ := open_int Tryd.underlying3 (hval 1 3 v1 rfl rfl) h1
  obtain ⟨a2, rfl, rfl, rfl, w2⟩ := open_int Tryd.underlying3 (hval 2 3 v2 rfl rfl) h2
  have k3 := h3
  have lt3 : ∀ x ∈ p3, x.block < W.heap.size := by obtain ⟨m, hm⟩ := k3; exact DataW.trod_lt m _ _ _ hm
  obtain ⟨a3, w3, u3⟩ := raw_open (hval 3 45 v3 rfl rfl) h3
  clear hA0 hval0
  refine (calls_of_fn Tryd.func11 (by kernel_rfl) rfl (fnQuorumRight a0 a1 a2 a3 (bounds_i64 w0) (bounds_i64 w1) (bounds_i64 w2) w3) (hG_laid hL) (VRs.cons rfl (VRs.cons rfl (VRs.cons rfl (VRs.cons (u3 _) VRs.snoc_nil))))).mono fun e W' ⟨he, bel⟩ => ?_
  subst he
  exact ⟨_, rfl, _, _, _, [], _, [], hW', trodAll_mk1 (shut_bool Tryd.underlying4 _), (trodAll_cons_mk (shut_int Tryd.underlying3 w0) (trodAll_cons_mk (shut_int Tryd.underlying3 w1) (trodAll_cons_mk (shut_int Tryd.underlying3 w2) (trodAll_cons_mk (Below.trod rowLaid (by kernel_rfl) (of_decide_eq_true (by kernel_rfl)) k3 bel lt3) trodAll_mk0)))), rfl, bel.frame _, fun h => by cases h⟩
theorem over : Rows.quorumRightRow.holds Tryd.pinned (OpenSpec.ofChange Rows.quorumRightSpec) :=
  OpenClaim.holds_of_wide 11 Tryd.f11 rfl rfl rfl rfl rfl rfl rfl ⟨rfl, rfl, rfl, rfl, rfl⟩ rfl rfl rfl rfl rfl (by kernel_rfl) Tryd.func11 (by kernel_rfl)
    (of_decide_eq_true (by kernel_rfl)) (by unfold Func.isWrapper; first | (rw [if_pos (by decide +kernel)]; kernel_rfl) | (rw [if_neg (by decide +kernel)]; exact ⟨rfl, rfl⟩))
    (fun os started H enc _ => lifted os started H enc)
theorem proved : Rows.QuorumRightCardSaid :=
  Claim7.holds_tied_plain_at .later [] [.data, .data] true _ _
    over (fun _ h => by cases h) (by kernel_rfl) (fun _ h => by cases h) quorumRight_row_tie rfl ⟨rfl, rfl⟩ (by kernel_rfl) rfl
    (fun f fn hf hfn => by
      obtain rfl : f = 11 := Option.some.inj ((show Tryd.prog.funcNamed "bascule/basculekeep.QuorumRight" = some 11 by kernel_rfl).symm.trans hf) |>.symm
      obtain rfl : fn = Tryd.f11 := (Option.some.inj (Tryd.func11.symm.trans hfn)).symm
      exact ⟨by kernel_rfl, fun j t ht => by
        rw [Tryd.params11] at ht
        have hm : t ∈ [3, 3, 3, 45] := by simpa using Array.mem_of_getElem? ht
        have hall : ([3, 3, 3, 45].all fun u => !Tryd.prog.wantsStandIn u) = true := by kernel_rfl
        exact (show Tryd.prog.wantsStandIn t = false by simpa using List.all_eq_true.1 hall t hm)⟩)
    (by kernel_rfl)
end lawQuorumRight

end Go.Proofs.YtidkdlaihmpjfaaDoor
