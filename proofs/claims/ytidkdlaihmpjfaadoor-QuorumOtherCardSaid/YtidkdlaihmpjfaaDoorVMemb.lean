/- members, signed, by the engine. -/
import Derived.Test.YtidkdlaihmpjfaaDoorVRows
import Derived.Test.YtidkdlaihmpjfaaDoorBUd
namespace Go.Proofs.YtidkdlaihmpjfaaDoor
set_option linter.unusedVariables false
set_option linter.unusedSimpArgs false
set_option linter.unusedSectionVars false
open Go.ChangeShapes Go.WideShapes Go.ChangeAt Go.RowKit Go.Joins
set_option maxRecDepth 10000
/-- The secret of member i. -/
def secM (k i : Nat) : Nat := 1 + (3 * i + 1) % ((crv k).N - 1)
noncomputable def membK (k i : Nat) : List VV := bts (keyB (gk k (secM k i)))
noncomputable def membD (k i : Nat) : List VV := uC (secM k i)
theorem membK_noHs (k i : Nat) : noHs (membK k i) = true := bts_noHs _
theorem membD_noHs (k i : Nat) : noHs (membD k i) = true := words_noHs _
theorem secM_lt {k : Nat} (h : k < 8) (i : Nat) : 0 < secM k i ∧ secM k i < (crv k).N := by
  obtain ⟨_, _, b3, _⟩ := crv_bounds h
  have := Nat.mod_lt (3 * i + 1) (show 0 < (crv k).N - 1 by omega)
  unfold secM
  omega
theorem secM_fn {k : Nat} (h : k < 8) (i : Nat) : FnV Tryd.prog G0 28 [(crv k).v, nI .i64 (3 * (i : Int) + 1)] (uV (secM k i)) := by
  obtain ⟨_, _, b3, _⟩ := crv_bounds h
  have := bsecret_fn h (3 * (i : Int) + 1)
  rw [show 1 + ((3 * (i : Int) + 1) % ((crv k).N - 1 : Int)).toNat = secM k i from by
    unfold secM
    rw [show (3 * (i : Int) + 1) = ((3 * i + 1 : Nat) : Int) from by omega, show ((crv k).N - 1 : Int) = (((crv k).N - 1 : Nat) : Int) from by omega, ← Int.natCast_emod, Int.toNat_natCast]] at this
  exact this
theorem members_fn {k : Nat} (h : k < 8) {m : Nat} (hm : m ≤ 5) : FnV Tryd.prog G0 38 [(crv k).v, nI .i64 m] (.tup [.agg [nI .i64 0, .ds false m (rows (membK k) (List.range m)), nI .i64 0], .ds false m (rows (membD k) (List.range m))]) := by
  have sc := fun i => secM_fn h i
  have pt := fun i => spoint_gk h (secM_lt h i).1 (secM_lt h i).2
  have ky := fun i => keyOf_fn (gk k (secM k i))
  have lk := fun i => keyB_len (gk k (secM k i))
  unfold CvD.v CvD.cells PtD.v PtD.cells at *
  refine gen_ex (crv k) fun C eC => ?_
  rw [← eC] at sc pt ⊢
  clear eC
  refine fn_of_vwp Γok Tryd.func38 (by kernel_rfl) rfl (by simp [Tryd.ntmps38]) (wpv_ok Γok (by kernel_rfl) _ _ _ ?_); conv => whnf
  refine vloop_invK G0ok [(0, some 0), (1, some 1), (2, some 2), (3, none), (4, none)] 5 (X := Nat)
    (fun i => [(13, nI .i64 i), (12, nI .i64 m), (7, .sl 4 0 i 4), (6, .ptr 2 0), (5, .ds true 0 []), (4, .ptr 1 0), (2, .ptr 0 0)])
    (fun i => [(0, some (uC C.P ++ (uC C.A ++ (uC C.B ++ (uC C.N ++ (uC C.X ++ (uC C.Y ++ [bI false]))))))), (1, some [nI .i64 0, .ds true 0 [], nI .i64 0]), (2, some [nI .i64 0, .sl 3 0 i 20, nI .i64 0]), (3, some (rows (membK k) (List.range i))), (4, some (rows (membD k) (List.range i)))])
    (fun i => i ≤ m) (fun i => m - i) 0 rfl ⟨⟨_, rfl, conv_nI (rfl)⟩, ⟨_, rfl, conv_nI (rfl)⟩, ⟨_, rfl, .null rfl⟩, ⟨_, rfl, .ptr rfl⟩, ⟨_, rfl, .same rfl⟩, ⟨_, rfl, .ptr rfl⟩, ⟨_, rfl, .ptr rfl⟩, trivial⟩ ⟨.inr ⟨_, _, rfl, rfl, .same rfl⟩, .inr ⟨_, _, rfl, rfl, .same rfl⟩, .inr ⟨_, _, rfl, rfl, .cons (.same rfl) (.cons (.null rfl) (.cons (.same rfl) .nil))⟩, .inl ⟨rfl, rfl⟩, .inl ⟨rfl, rfl⟩, trivial⟩ (Nat.zero_le _) ?_
  intro i hi
  dsimp only at hi ⊢
  refine wpv_ok Γok (by kernel_rfl) _ _ _ ?_; conv => whnf
  refine bool_cases (fun hc => ?_) (fun hc => ?_)
  · have hc := of_decide_eq_true hc
    have sci := sc i
    have pti := pt i
    have kyi := ky i
    have m1 : (rows (membK k) (List.range i)).length = i * 20 := by rw [rows_length (w := 20) fun a _ => by unfold membK; rw [bts_length, lk], List.length_range]
    have m2 : (rows (membD k) (List.range i)).length = i * 4 := by rw [rows_length (w := 4) fun a _ => rfl, List.length_range]
    conv => whnf
    try (refine ⟨by kernel_rfl, ?_⟩; conv => whnf)
    rw [ws_i64 (x := 3 * (i : Int)) (by omega) (by omega), ws_i64 (x := 3 * (i : Int) + 1) (by omega) (by omega)]
    conv => whnf
    try (refine ⟨by kernel_rfl, ?_⟩; conv => whnf)
    refine ⟨_, ret_of_fn G0ok (sci) (by first | rfl | simp only [noHs, noH, nI, bI, Bool.and_self, Bool.and_true, Bool.true_and, ]) (by first | rfl | simp only [noHs, noH, nI, bI, Bool.and_self, Bool.and_true, Bool.true_and, ]), ?_⟩; (conv => whnf); (try (refine ⟨by kernel_rfl, ?_⟩; conv => whnf))
    refine ⟨_, ret_of_fn G0ok (pti) (by first | rfl | simp only [noHs, noH, nI, bI, Bool.and_self, Bool.and_true, Bool.true_and, ]) (by first | rfl | simp only [noHs, noH, nI, bI, Bool.and_self, Bool.and_true, Bool.true_and, ]), ?_⟩; (conv => whnf); (try (refine ⟨by kernel_rfl, ?_⟩; conv => whnf))
    refine ⟨_, ret_of_fn G0ok (kyi) (by first | rfl | simp only [noHs, noH, nI, bI, Bool.and_self, Bool.and_true, Bool.true_and, bts_noHs]) (by first | rfl | simp only [noHs, noH, nI, bI, Bool.and_self, Bool.and_true, Bool.true_and, bts_noHs]), ?_⟩; (conv => whnf); (try (refine ⟨by kernel_rfl, ?_⟩; conv => whnf))
    have e1 : (bts (keyB (gk k (secM k i)))).length = 20 := by rw [bts_length, lk]
    refine bindP_intro (vfill_one (cs := bts (keyB (gk k (secM k i)))) rfl e1 (by rfl)) ?_
    conv => whnf
    try (refine ⟨by kernel_rfl, ?_⟩; conv => whnf)
    refine onlyIf_intro (by rw [e1]; rfl) ?_
    refine .ownAs 1 (membK k i) rfl rfl ?_
    conv => whnf
    try (refine ⟨by kernel_rfl, ?_⟩; conv => whnf)
    have e2 : (membK k i).length = 20 := e1
    refine bindP_intro (view_whole rfl e2.symm) ?_
    conv => whnf
    try (refine ⟨by kernel_rfl, ?_⟩; conv => whnf)
    refine onlyIf_intro (by show (_ && (_ && Nat.beq (membK k i).length _)) = true; rw [e2]; rfl) ?_
    conv => whnf
    try (refine ⟨by kernel_rfl, ?_⟩; conv => whnf)
    refine onlyIf_intro (by show (Nat.beq (rows (membK k) (List.range i)).length _ && _) = true; rw [m1]; simp [maxLen]; omega) ?_
    refine .ownAs (i + 1) (rows (membK k) (List.range (i + 1))) rfl (by rw [List.range_succ, rows_app, rows_one]) ?_
    conv => whnf
    try (refine ⟨by kernel_rfl, ?_⟩; conv => whnf)
    have e3 : (membD k i).length = 4 := rfl
    refine .ownAs 1 (membD k i) rfl rfl ?_
    conv => whnf
    try (refine ⟨by kernel_rfl, ?_⟩; conv => whnf)
    refine onlyIf_intro (by show (Nat.beq (rows (membD k) (List.range i)).length _ && _) = true; rw [m2]; simp [maxLen]; omega) ?_
    refine .ownAs (i + 1) (rows (membD k) (List.range (i + 1))) rfl (by rw [List.range_succ, rows_app, rows_one]) ?_
    conv => whnf
    try (refine ⟨by kernel_rfl, ?_⟩; conv => whnf)
    refine next_round (y := i) G0ok (i + 1) [(0, some 0), (1, some 1), (2, some 2), (3, some 8), (4, some 10)] rfl ⟨⟨_, rfl, conv_nI (ws_i64 (by omega) (by omega))⟩, ⟨_, rfl, conv_nI (rfl)⟩, ⟨_, rfl, .sl rfl⟩, ⟨_, rfl, .ptr rfl⟩, ⟨_, rfl, .same rfl⟩, ⟨_, rfl, .ptr rfl⟩, ⟨_, rfl, .ptr rfl⟩, trivial⟩ ⟨.inr ⟨_, _, rfl, rfl, .same rfl⟩, .inr ⟨_, _, rfl, rfl, .same rfl⟩, .inr ⟨_, _, rfl, rfl, .cons (.same rfl) (.cons (.sl rfl) (.cons (.same rfl) .nil))⟩, .inr ⟨_, _, rfl, rfl, .same (rows_noHs (membK_noHs k) _)⟩, .inr ⟨_, _, rfl, rfl, .same (rows_noHs (membD_noHs k) _)⟩, trivial⟩ (by omega) (by omega)
  · have hc := of_decide_eq_false hc
    have e : i = m := by omega
    subst e
    have m1 : (rows (membK k) (List.range i)).length = i * 20 := by rw [rows_length (w := 20) fun a _ => by unfold membK; rw [bts_length, lk], List.length_range]
    have m2 : (rows (membD k) (List.range i)).length = i * 4 := by rw [rows_length (w := 4) fun a _ => rfl, List.length_range]
    conv => whnf
    try (refine ⟨by kernel_rfl, ?_⟩; conv => whnf)
    exact ⟨_, rfl, deep_tup (mapO_cons (deep_agg rfl (mapO_cons (deepV_noH _ _ rfl) (mapO_cons (deep_row rfl m1 (rows_noHs (membK_noHs k) _)) (mapO_cons (deepV_noH _ _ rfl) mapO_nil)))) (mapO_cons (deep_row rfl m2 (rows_noHs (membD_noHs k) _)) mapO_nil))⟩
/-- Who signs, and how. -/
noncomputable def sgC (S : Nat → SgD) (i : Nat) : List VV := nI .i64 i :: (S i).cells
theorem sgD_noHs (s : SgD) : noHs s.cells = true := by
  unfold SgD.cells uC
  simp only [noHs_append, words_noHs, noHs, noH, nI, Bool.and_self]
theorem sgC_noHs (S : Nat → SgD) (i : Nat) : noHs (sgC S i) = true := by
  unfold sgC
  simp only [noHs, noH, nI, sgD_noHs, Bool.and_self]
theorem sgC_len (S : Nat → SgD) (i : Nat) : (sgC S i).length = 10 := rfl
def sel (M n : Nat) : List Nat := (List.range n).filter fun i => decide (M / 2 ^ i % 2 = 1)
theorem sel_succ (M n : Nat) : sel M (n + 1) = if M / 2 ^ n % 2 = 1 then sel M n ++ [n] else sel M n := by
  unfold sel
  rw [List.range_succ, List.filter_append]
  by_cases h : M / 2 ^ n % 2 = 1
  · rw [if_pos h, List.filter_cons_of_pos (by simpa using h), List.filter_nil]
  · rw [if_neg h, List.filter_cons_of_neg (by simpa using h), List.filter_nil, List.append_nil]
theorem sel_len (M n : Nat) : (sel M n).length ≤ n := by
  unfold sel
  exact Nat.le_trans (List.length_filter_le _ _) (by rw [List.length_range]; exact Nat.le_refl _)
theorem i64_and1 {x : Nat} (h : x < 2 ^ 63) : bitS .and .i64 (x : Int) 1 = ((x % 2 : Nat) : Int) := by
  have := bitS_and (k := .i64) (x := x) (y := 1) (by simp only [IntKind.bits]; omega) (by decide)
  rw [show ((1 : Nat) : Int) = 1 from rfl] at this
  rw [this, Nat.and_one_is_mod, wrap_i64 (by omega) (by omega)]
theorem signed_fn {k : Nat} {m M : Nat} (hm : m ≤ 5) (hM : M < 2 ^ 20) {b : List Nat} (lb : b.length = 32) {S : Nat → SgD} (mk : ∀ i, i < m → FnV Tryd.prog G0 29 [(crv k).v, uV (secM k i), .agg (bts b)] (.tup [(S i).v, nI .i64 0])) :
    FnV Tryd.prog G0 39 [(crv k).v, .ds false m (rows (membD k) (List.range m)), nI .i64 M, .agg (bts b)] (.ds false (sel M m).length (rows (sgC S) (sel M m))) := by
  have lB : (bts b).length = 32 := by rw [bts_length, lb]
  unfold CvD.v CvD.cells SgD.v SgD.cells at *
  refine gen_ex (crv k) fun C eC => ?_
  rw [← eC] at mk ⊢
  clear eC
  refine fn_of_vwp Γok Tryd.func39 (by kernel_rfl) rfl (by simp [Tryd.ntmps39]) (wpv_ok Γok (by kernel_rfl) _ _ _ ?_); conv => whnf
  refine vloop_invK G0ok [(0, some 0), (1, some 1), (2, none)] 3 (X := Nat)
    (fun i => [(16, nI .i64 i), (15, nI .i64 m), (14, .ds false m (rows (membD k) (List.range m))), (9, .sl 2 0 (sel M i).length 10), (8, .ds true 0 []), (7, .ptr 1 0), (4, .ptr 0 0), (2, nI .i64 M)])
    (fun i => [(0, some (uC C.P ++ (uC C.A ++ (uC C.B ++ (uC C.N ++ (uC C.X ++ (uC C.Y ++ [bI false]))))))), (1, some (bts b)), (2, some (rows (sgC S) (sel M i)))])
    (fun i => i ≤ m) (fun i => m - i) 0 rfl ⟨⟨_, rfl, conv_nI (rfl)⟩, ⟨_, rfl, conv_nI (rfl)⟩, ⟨_, rfl, conv_eq rfl (rows_noHs (membD_noHs k) _)⟩, ⟨_, rfl, .null rfl⟩, ⟨_, rfl, .same rfl⟩, ⟨_, rfl, .ptr rfl⟩, ⟨_, rfl, .ptr rfl⟩, ⟨_, rfl, conv_nI (rfl)⟩, trivial⟩ ⟨.inr ⟨_, _, rfl, rfl, .same rfl⟩, .inr ⟨_, _, rfl, rfl, convs_eq rfl (bts_noHs _)⟩, .inl ⟨rfl, rfl⟩, trivial⟩ (Nat.zero_le _) ?_
  intro i hi
  dsimp only at hi ⊢
  refine wpv_ok Γok (by kernel_rfl) _ _ _ ?_; conv => whnf
  have m1 : (rows (sgC S) (sel M i)).length = (sel M i).length * 10 := rows_length (w := 10) fun a _ => sgC_len S a
  refine bool_cases (fun hc => ?_) (fun hc => ?_)
  · have hc := of_decide_eq_true hc
    have hq : M / 2 ^ i < 2 ^ 63 := Nat.lt_of_le_of_lt (Nat.div_le_self _ _) (Nat.lt_trans hM (by decide))
    have hs := sel_succ M i
    have hl := sel_len M i
    have mi := mk i (by omega)
    conv => whnf
    try (refine ⟨by kernel_rfl, ?_⟩; conv => whnf)
    refine bindP_intro (if_pos (inB_ok (by omega) (by omega))) ?_; conv => whnf
    refine bindP_intro (row_load (i := i) (w := 4) rfl rfl rfl (fun a _ => rfl) (by dsimp only; omega) (by rw [List.length_range]; omega)) ?_
    rw [List.getElem_range]
    conv => whnf
    try (refine ⟨by kernel_rfl, ?_⟩; conv => whnf)
    rw [shr_val (k := .i64) (x := M) (n := i) (by simp only [IntKind.bits]; omega), i64_and1 hq, show (((M / 2 ^ i % 2 : Nat) : Int) == 1) = decide (M / 2 ^ i % 2 = 1) from beq_lit _ 1]
    by_cases h1 : M / 2 ^ i % 2 = 1
    · rw [decide_eq_true h1]
      rw [if_pos h1] at hs
      conv => whnf
      try (refine ⟨by kernel_rfl, ?_⟩; conv => whnf)
      refine bindP_intro (load_agg rfl rfl lB) ?_
      conv => whnf
      try (refine ⟨by kernel_rfl, ?_⟩; conv => whnf)
      refine ⟨_, ret_of_fn G0ok (mi) (by first | rfl | simp only [noHs, noH, nI, bI, Bool.and_self, Bool.and_true, Bool.true_and, noHs_append, words_noHs, bts_noHs, uC, uV, membD, noHs, noH]) (by first | rfl | simp only [noHs, noH, nI, bI, Bool.and_self, Bool.and_true, Bool.true_and, noHs_append, words_noHs, bts_noHs, uC, uV, membD, noHs, noH]), ?_⟩; (conv => whnf); (try (refine ⟨by kernel_rfl, ?_⟩; conv => whnf))
      refine .ownAs 1 (sgC S i) rfl rfl ?_
      conv => whnf
      try (refine ⟨by kernel_rfl, ?_⟩; conv => whnf)
      refine onlyIf_intro (by show (Nat.beq (rows (sgC S) (sel M i)).length _ && _) = true; rw [m1]; simp [maxLen]; omega) ?_
      refine .ownAs (sel M (i + 1)).length (rows (sgC S) (sel M (i + 1))) (by rw [hs, List.length_append]; rfl) (by rw [hs, rows_app, rows_one]) ?_
      conv => whnf
      try (refine ⟨by kernel_rfl, ?_⟩; conv => whnf)
      refine next_round (y := i) G0ok (i + 1) [(0, some 0), (1, some 1), (2, some 6)] rfl ⟨⟨_, rfl, conv_nI (ws_i64 (by omega) (by omega))⟩, ⟨_, rfl, conv_nI (rfl)⟩, ⟨_, rfl, conv_eq rfl (rows_noHs (membD_noHs k) _)⟩, ⟨_, rfl, .sl rfl⟩, ⟨_, rfl, .same rfl⟩, ⟨_, rfl, .ptr rfl⟩, ⟨_, rfl, .ptr rfl⟩, ⟨_, rfl, conv_nI (rfl)⟩, trivial⟩ ⟨.inr ⟨_, _, rfl, rfl, .same rfl⟩, .inr ⟨_, _, rfl, rfl, convs_eq rfl (bts_noHs _)⟩, .inr ⟨_, _, rfl, rfl, .same (rows_noHs (sgC_noHs S) _)⟩, trivial⟩ (by omega) (by omega)
    · rw [decide_eq_false h1]
      rw [if_neg h1] at hs
      conv => whnf
      try (refine ⟨by kernel_rfl, ?_⟩; conv => whnf)
      refine next_round (y := i) G0ok (i + 1) [(0, some 0), (1, some 1), (2, some 2)] rfl ⟨⟨_, rfl, conv_nI (ws_i64 (by omega) (by omega))⟩, ⟨_, rfl, conv_nI (rfl)⟩, ⟨_, rfl, conv_eq rfl (rows_noHs (membD_noHs k) _)⟩, ⟨_, rfl, conv_slE rfl rfl (by rw [hs]) rfl⟩, ⟨_, rfl, .same rfl⟩, ⟨_, rfl, .ptr rfl⟩, ⟨_, rfl, .ptr rfl⟩, ⟨_, rfl, conv_nI (rfl)⟩, trivial⟩ ⟨.inr ⟨_, _, rfl, rfl, .same rfl⟩, .inr ⟨_, _, rfl, rfl, convs_eq rfl (bts_noHs _)⟩, .inr ⟨_, _, rfl, rfl, convs_eq (by rw [hs]) (rows_noHs (sgC_noHs S) _)⟩, trivial⟩ (by omega) (by omega)
  · have hc := of_decide_eq_false hc
    have e : i = m := by omega
    subst e
    conv => whnf
    try (refine ⟨by kernel_rfl, ?_⟩; conv => whnf)
    exact ⟨_, rfl, deep_row rfl m1 (rows_noHs (sgC_noHs S) _)⟩
end Go.Proofs.YtidkdlaihmpjfaaDoor
