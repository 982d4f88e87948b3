/- keccak.Add, End, Sum by the engine. -/
import Derived.Test.YtidkdlaihmpjfaaDoorVSpon
namespace Go.Proofs.YtidkdlaihmpjfaaDoor
set_option linter.unusedVariables false
set_option linter.unusedSimpArgs false
set_option linter.unusedSectionVars false
open Go.ChangeShapes Go.WideShapes Go.ChangeAt Go.RowKit Go.Joins
set_option maxRecDepth 10000
theorem condP_t {b : Bool} {A B : Prop} (h : b = true) (k : A) : condP b A B := by subst h; exact k
theorem n_set {l h : List Nat} {x y : VV} {j : Nat} (hl : l.length = 25) (hh : h.length = 136) (hj : j = 161) : (words l ++ (bts h ++ [x])).set j y = words l ++ (bts h ++ [y]) := by
  rw [set_r (cs := words l) (i := 136) (by rw [words_length, hl]; exact hj), set_r (cs := bts h) (i := 0) (by rw [bts_length, hh])]
  rfl
noncomputable def spStep (s : SpD) (c : Nat) : SpD := if s.n + 1 = 136 then soakS s.l (s.h.set s.n c) else ⟨s.l, s.h.set s.n c, s.n + 1⟩
noncomputable def spAdd (s : SpD) (l : List Nat) : SpD := l.foldl spStep s
theorem zB_ok (n : Nat) : B8 (zB n) n := ⟨by simp [zB], fun x hx => by rw [List.eq_of_mem_replicate hx]; decide⟩
theorem zB_get (n i : Nat) : (zB n).getD i 0 = 0 := by
  unfold zB
  rw [List.getD_eq_getElem?_getD, List.getElem?_replicate]
  split <;> rfl
theorem soakS_ok {l h : List Nat} (hl : L64 l 25) (hh : B8 h 136) : SpOk (soakS l h) :=
  ⟨turnS_ok (soF_ok hl hh), zB_ok 136, by show 0 < 136; decide, fun i _ _ => zB_get 136 i⟩
theorem spStep_ok {s : SpD} (h : SpOk s) {c : Nat} (hc : c < 256) : SpOk (spStep s c) := by
  obtain ⟨h1, h2, h3, h4⟩ := h
  unfold spStep
  split
  · exact soakS_ok h1 (B8_set h2 _ hc)
  · refine ⟨h1, B8_set h2 _ hc, by show s.n + 1 < 136; omega, fun i hi hi2 => ?_⟩
    have hi : s.n + 1 ≤ i := hi
    have hg := h4 i (by omega) hi2
    show (s.h.set s.n c).getD i 0 = 0
    rw [List.getD_eq_getElem?_getD, List.getElem?_set_ne (by omega), ← List.getD_eq_getElem?_getD, hg]
theorem spAdd_ok {s : SpD} (h : SpOk s) : ∀ (l : List Nat), (∀ x ∈ l, x < 256) → SpOk (spAdd s l) := by
  intro l
  induction l generalizing s with
  | nil => intro _; exact h
  | cons c l ih => intro hl; exact ih (spStep_ok h (hl c (by simp))) (fun x hx => hl x (by simp [hx]))
theorem spAdd_snoc (s : SpD) (l : List Nat) (c : Nat) : spAdd s (l ++ [c]) = spStep (spAdd s l) c := by unfold spAdd; rw [List.foldl_append]; rfl
theorem spAdd_take {s : SpD} {l : List Nat} {j : Nat} (hj : j < l.length) : spAdd s (l.take (j + 1)) = spStep (spAdd s (l.take j)) (l.getD j 0) := by
  rw [List.take_succ_eq_append_getElem hj, spAdd_snoc]
  simp [List.getD, List.getElem?_eq_getElem hj]
set_option maxHeartbeats 4000000 in
theorem sadd_fn {s : SpD} (h : SpOk s) {l : List Nat} (hl : ∀ x ∈ l, x < 256) (hL : l.length ≤ 140737488355328) (f : Bool) : FnV Tryd.prog G0 16 [s.v, .ds f l.length (bts l)] (.tup [(spAdd s l).v, nI .i64 0]) := by
  have ck := check_fn h
  have hlen := s.len h
  have hz := s.noHs
  unfold SpD.v at *
  refine fn_of_vwp Γok Tryd.func16 (by kernel_rfl) rfl (by simp [Tryd.ntmps16]) (wpv_ok Γok (by kernel_rfl) _ _ _ ?_); conv => whnf
  refine bindP_intro (load_agg rfl rfl hlen) ?_
  conv => whnf
  try (refine ⟨by kernel_rfl, ?_⟩; conv => whnf)
  refine ⟨_, ret_of_fn G0ok (ck) (by first | rfl | simp only [noHs, noH, nI, bI, Bool.and_self, Bool.and_true, Bool.true_and, hz]) (by first | rfl | simp only [noHs, noH, nI, bI, Bool.and_self, Bool.and_true, Bool.true_and, hz]), ?_⟩; (conv => whnf); (try (refine ⟨by kernel_rfl, ?_⟩; conv => whnf))
  refine vloop_invK G0ok [(0, some 0), (1, some 1)] 2 (X := Nat) (fun j => [(17, nI .i64 j), (16, nI .i64 l.length), (15, .ds f l.length (bts l)), (5, nI .i64 0), (4, .ptr 1 0), (2, .ptr 0 0)])
    (fun j => [(0, some (spAdd s (l.take j)).cells), (1, some (words (zB 25) ++ (bts (zB 136) ++ [nI .i64 0])))]) (fun j => j ≤ l.length) (fun j => l.length - j) 0 rfl ⟨⟨_, rfl, conv_nI (rfl)⟩, ⟨_, rfl, conv_nI (rfl)⟩, ⟨_, rfl, .same (bts_noHs _)⟩, ⟨_, rfl, conv_nI (rfl)⟩, ⟨_, rfl, .ptr rfl⟩, ⟨_, rfl, .ptr rfl⟩, trivial⟩ ⟨.inr ⟨_, _, rfl, rfl, convs_eq rfl (hz)⟩, .inr ⟨_, _, rfl, rfl, convs_eq rfl (SpD.noHs ⟨zB 25, zB 136, 0⟩)⟩, trivial⟩ (Nat.zero_le _) ?_
  intro j hj
  (try dsimp only at hj); (try dsimp only)
  have hS := spAdd_ok h (l.take j) (fun x hx => hl x (List.mem_of_mem_take hx))
  refine wpv_ok Γok (by kernel_rfl) _ _ _ ?_; conv => whnf
  refine bool_cases (fun hc => ?_) (fun hc => ?_)
  · have hc := of_decide_eq_true hc
    have hstep := spAdd_take (s := s) (l := l) (j := j) (by omega)
    have hc8 : l.getD j 0 < 256 := getD_lt (by decide) hl j
    refine gen_ex (spAdd s (l.take j)) fun S eS => ?_
    rw [← eS] at hS hstep ⊢
    clear eS
    have hSn := SpD.noHs S
    have hSl := S.len hS
    obtain ⟨g1, g2, g3, g4⟩ := hS
    unfold SpD.cells at hSn hSl ⊢
    conv => whnf
    try (refine ⟨by kernel_rfl, ?_⟩; conv => whnf)
    refine bindP_intro (if_pos (inB_ok (by omega) (by omega))) ?_; conv => whnf
    refine bindP_intro (bts_ix (i := j) (by dsimp only; omega) (by omega)) ?_
    conv => whnf
    try (refine ⟨by kernel_rfl, ?_⟩; conv => whnf)
    refine bindP_intro (n_ix g1.1 g2.1 (by rfl)) ?_
    conv => whnf
    try (refine ⟨by kernel_rfl, ?_⟩; conv => whnf)
    refine bindP_intro (if_pos (inB_ok (by omega) (by omega))) ?_; conv => whnf
    refine onlyIf_intro (by simp [words_length, bts_length, g1.1, g2.1] <;> omega) ?_
    conv => whnf
    try (refine ⟨by kernel_rfl, ?_⟩; conv => whnf)
    rw [held_set (i := S.n) g1.1 (by dsimp only; omega) (by rw [g2.1]; omega)]
    have g5 := B8_set g2 S.n hc8
    refine bindP_intro (n_ix g1.1 g5.1 (by rfl)) ?_
    conv => whnf
    try (refine ⟨by kernel_rfl, ?_⟩; conv => whnf)
    rw [ws_i64 (x := (S.n : Int) + 1) (by omega) (by omega)]
    refine onlyIf_intro (by simp [words_length, bts_length, g1.1, g2.1] <;> omega) ?_
    conv => whnf
    try (refine ⟨by kernel_rfl, ?_⟩; conv => whnf)
    rw [n_set g1.1 g5.1 (by rfl)]
    refine bindP_intro (n_ix g1.1 g5.1 (by rfl)) ?_
    conv => whnf
    try (refine ⟨by kernel_rfl, ?_⟩; conv => whnf)
    unfold spStep at hstep
    by_cases hN : S.n + 1 = 136
    · rw [if_pos hN] at hstep
      rw [show ((S.n : Int) + 1 == 136) = true from by rw [show (S.n : Int) + 1 = 136 by omega]; rfl]
      conv => whnf
      try (refine ⟨by kernel_rfl, ?_⟩; conv => whnf)
      have lS2 : (words S.l ++ (bts (S.h.set S.n (l.getD j 0)) ++ [nI .i64 ((S.n : Int) + 1)])).length = 162 := by rw [List.length_append, List.length_append, words_length, bts_length, g1.1, g5.1]; rfl
      refine bindP_intro (load_agg rfl rfl lS2) ?_
      conv => whnf
      try (refine ⟨by kernel_rfl, ?_⟩; conv => whnf)
      have sk := soak_fn (n := S.n + 1) g1 g5
      unfold SpD.v SpD.cells at sk
      dsimp only at sk
      rw [show ((S.n + 1 : Nat) : Int) = (S.n : Int) + 1 from by omega] at sk
      refine ⟨_, ret_of_fn G0ok (sk) (by first | rfl | simp only [noHs, noH, nI, bI, Bool.and_self, Bool.and_true, Bool.true_and, noHs_app, words_noHs, bts_noHs]) (by first | rfl | simp only [noHs, noH, nI, bI, Bool.and_self, Bool.and_true, Bool.true_and, noHs_app, words_noHs, bts_noHs]), ?_⟩; (conv => whnf); (try (refine ⟨by kernel_rfl, ?_⟩; conv => whnf))
      have lK := (soakS S.l (S.h.set S.n (l.getD j 0))).len (soakS_ok g1 g5)
      unfold SpD.cells at lK
      refine onlyIf_intro (by rw [lK]; exact (congrArg (fun n => Nat.beq 162 162 && Nat.ble (0 + 162) n) lS2).trans rfl) ?_
      conv => whnf
      try (refine ⟨by kernel_rfl, ?_⟩; conv => whnf)
      refine condP_t ((congrArg (fun n => Nat.beq 0 0 && Nat.beq 162 n) lS2).trans rfl) ?_
      conv => whnf
      try (refine ⟨by kernel_rfl, ?_⟩; conv => whnf)
      refine next_round (y := j) G0ok (j + 1) [(0, some 0), (1, some 1)] rfl ⟨⟨_, rfl, conv_nI (ws_i64 (by omega) (by omega))⟩, ⟨_, rfl, conv_nI (rfl)⟩, ⟨_, rfl, .same (bts_noHs _)⟩, ⟨_, rfl, conv_nI (rfl)⟩, ⟨_, rfl, .ptr rfl⟩, ⟨_, rfl, .ptr rfl⟩, trivial⟩ ⟨.inr ⟨_, _, rfl, rfl, convs_eq (by rw [hstep] <;> rfl) (SpD.noHs _)⟩, .inr ⟨_, _, rfl, rfl, convs_eq rfl (SpD.noHs ⟨zB 25, zB 136, 0⟩)⟩, trivial⟩ (by omega) (by omega)
    · rw [if_neg hN] at hstep
      rw [show ((S.n : Int) + 1 == 136) = false from by simp; omega]
      conv => whnf
      try (refine ⟨by kernel_rfl, ?_⟩; conv => whnf)
      refine next_round (y := j) G0ok (j + 1) [(0, some 0), (1, some 1)] rfl ⟨⟨_, rfl, conv_nI (ws_i64 (by omega) (by omega))⟩, ⟨_, rfl, conv_nI (rfl)⟩, ⟨_, rfl, .same (bts_noHs _)⟩, ⟨_, rfl, conv_nI (rfl)⟩, ⟨_, rfl, .ptr rfl⟩, ⟨_, rfl, .ptr rfl⟩, trivial⟩ ⟨.inr ⟨_, _, rfl, rfl, convs_eq (by rw [hstep] <;> rfl) (SpD.noHs _)⟩, .inr ⟨_, _, rfl, rfl, convs_eq rfl (SpD.noHs ⟨zB 25, zB 136, 0⟩)⟩, trivial⟩ (by omega) (by omega)
  · rw [show l.take j = l from List.take_of_length_le (by have := of_decide_eq_false hc; omega)] at hS ⊢
    conv => whnf
    try (refine ⟨by kernel_rfl, ?_⟩; conv => whnf)
    refine bindP_intro (load_agg rfl rfl ((spAdd s l).len hS)) ?_
    conv => whnf
    try (refine ⟨by kernel_rfl, ?_⟩; conv => whnf)
    refine onlyIf_intro (by rw [(spAdd s l).len hS]; rfl) ?_
    conv => whnf
    try (refine ⟨by kernel_rfl, ?_⟩; conv => whnf)
    exact ⟨_, vres_two rfl (vres_cell rfl rfl (load_agg rfl rfl ((spAdd s l).len hS))) rfl, deepV_noH _ _ (by simp only [noH, Go.Proofs.YtidkdlaihmpjfaaDoor.noHs, SpD.noHs, Bool.and_true])⟩
/-- The sum's bytes out of the lanes. -/
def outB (l : List Nat) (i : Nat) : List Nat := (List.range 32).map fun j => if j < i then l.getD (j / 8) 0 / 2 ^ (8 * (j % 8)) % 256 else 0
theorem outB_len (l : List Nat) (i : Nat) : (outB l i).length = 32 := by simp [outB]
theorem outB_zero (l : List Nat) : bts (outB l 0) = List.replicate 32 (nI .u8 0) := by
  refine List.ext_getElem (by rw [bts_length, outB_len, List.length_replicate]) fun j h1 h2 => ?_
  rw [List.getElem_replicate]
  simp only [bts, outB, List.getElem_map, List.getElem_range]
  rw [if_neg (by omega)]
  rfl
theorem outB_step (l : List Nat) {i : Nat} (hi : i < 32) : (outB l i).set i (l.getD (i / 8) 0 / 2 ^ (8 * (i % 8)) % 256) = outB l (i + 1) := by
  refine List.ext_getElem (by simp [outB]) fun j h1 h2 => ?_
  have hj : j < 32 := by simpa [outB] using h2
  simp only [outB, List.getElem_set, List.getElem_map, List.getElem_range]
  by_cases e : i = j
  · subst e; rw [if_pos rfl, if_pos (by omega)]
  · rw [if_neg e]
    by_cases e2 : j < i
    · rw [if_pos e2, if_pos (by omega)]
    · rw [if_neg e2, if_neg (by omega)]
theorem outB_lt (l : List Nat) (i : Nat) : ∀ x ∈ outB l i, x < 256 := by
  intro x hx
  obtain ⟨j, _, rfl⟩ := List.mem_map.1 hx
  split <;> omega
/-- What is held at the end. -/
noncomputable def endH (s : SpD) : List Nat := (s.h.set s.n 1).set 135 (hid ((s.h.set s.n 1).getD 135 0 ||| 128))
noncomputable def spEnd (s : SpD) : List Nat := hid (outB (turnS (soF s.l (endH s))) 32)
/-- The sum of bytes. -/
noncomputable def kSum (l : List Nat) : List Nat := spEnd (spAdd ⟨zB 25, zB 136, 0⟩ l)
theorem endH_ok {s : SpD} (h : SpOk s) : B8 (endH s) 136 := by
  have h1 := B8_set h.h s.n (x := 1) (by decide)
  refine B8_set h1 _ ?_
  rw [hid_eq]
  exact Nat.or_lt_two_pow (n := 8) (getD_b h1 135) (by decide)
set_option maxHeartbeats 4000000 in
theorem send_fn {s : SpD} (h : SpOk s) : FnV Tryd.prog G0 17 [s.v] (.tup [.agg (bts (spEnd s)), nI .i64 0]) := by
  have ck := check_fn h
  have hlen := s.len h
  have hz := s.noHs
  have hE := endH_ok h
  obtain ⟨g1, g2, g3, g4⟩ := h
  have g5 := B8_set g2 s.n (x := 1) (by decide)
  unfold SpD.v at *
  refine fn_of_vwp Γok Tryd.func17 (by kernel_rfl) rfl (by simp [Tryd.ntmps17]) (wpv_ok Γok (by kernel_rfl) _ _ _ ?_); conv => whnf
  refine bindP_intro (load_agg rfl rfl hlen) ?_
  conv => whnf
  try (refine ⟨by kernel_rfl, ?_⟩; conv => whnf)
  refine ⟨_, ret_of_fn G0ok (ck) (by first | rfl | simp only [noHs, noH, nI, bI, Bool.and_self, Bool.and_true, Bool.true_and, hz]) (by first | rfl | simp only [noHs, noH, nI, bI, Bool.and_self, Bool.and_true, Bool.true_and, hz]), ?_⟩; (conv => whnf); (try (refine ⟨by kernel_rfl, ?_⟩; conv => whnf))
  unfold SpD.cells
  refine bindP_intro (n_ix g1.1 g2.1 (by rfl)) ?_
  conv => whnf
  try (refine ⟨by kernel_rfl, ?_⟩; conv => whnf)
  refine bindP_intro (if_pos (inB_ok (by omega) (by omega))) ?_; conv => whnf
  refine onlyIf_intro (by simp [words_length, bts_length, g1.1, g2.1] <;> omega) ?_
  conv => whnf
  try (refine ⟨by kernel_rfl, ?_⟩; conv => whnf)
  rw [show (VV.v (Value.int .u8 1)) = VV.v (Value.int .u8 ((1 : Nat) : Int)) from rfl, held_set (i := s.n) g1.1 (by dsimp only; omega) (by rw [g2.1]; omega)]
  have e8 : bitS .or .u8 (((s.h.set s.n 1).getD 135 0 : Nat) : Int) 128 = ((hid ((s.h.set s.n 1).getD 135 0 ||| 128) : Nat) : Int) := by
    have := bitS_or (k := .u8) (x := (s.h.set s.n 1).getD 135 0) (y := 128) (getD_b g5 135) (by decide)
    rw [hid_eq]
    refine this.trans ?_
    have hlt : (s.h.set s.n 1).getD 135 0 ||| 128 < 256 := Nat.or_lt_two_pow (n := 8) (getD_b g5 135) (by decide)
    rw [← wS_eq, ws_u8]
    omega
  have sk := soak_fn (n := s.n) g1 hE
  refine bindP_intro (held_ix (i := 135) g1.1 (by rfl) (by rw [g5.1]; omega)) ?_
  conv => whnf
  try (refine ⟨by kernel_rfl, ?_⟩; conv => whnf)
  rw [e8]
  refine onlyIf_intro (by simp [words_length, bts_length, g1.1, g2.1] <;> omega) ?_
  conv => whnf
  try (refine ⟨by kernel_rfl, ?_⟩; conv => whnf)
  rw [held_set (i := 135) g1.1 (by rfl) (by rw [g5.1]; omega)]
  have eE : (s.h.set s.n 1).set 135 (hid ((s.h.set s.n 1).getD 135 0 ||| 128)) = endH s := rfl
  rw [eE]
  unfold spEnd
  refine gen_ex (endH s) fun EH eEH => ?_
  rw [← eEH] at hE sk ⊢
  clear eEH eE e8
  have lE : (words s.l ++ (bts EH ++ [nI .i64 (s.n : Int)])).length = 162 := by rw [List.length_append, List.length_append, words_length, bts_length, g1.1, hE.1]; rfl
  refine bindP_intro (load_agg rfl rfl lE) ?_
  conv => whnf
  try (refine ⟨by kernel_rfl, ?_⟩; conv => whnf)
  unfold SpD.v SpD.cells at sk
  dsimp only at sk
  refine ⟨_, ret_of_fn G0ok (sk) (by first | rfl | simp only [noHs, noH, nI, bI, Bool.and_self, Bool.and_true, Bool.true_and, noHs_app, words_noHs, bts_noHs]) (by first | rfl | simp only [noHs, noH, nI, bI, Bool.and_self, Bool.and_true, Bool.true_and, noHs_app, words_noHs, bts_noHs]), ?_⟩; (conv => whnf); (try (refine ⟨by kernel_rfl, ?_⟩; conv => whnf))
  have lK := (soakS s.l EH).len (soakS_ok g1 hE)
  unfold SpD.cells at lK
  refine onlyIf_intro (by rw [lK]; exact (congrArg (fun n => Nat.beq 162 162 && Nat.ble (0 + 162) n) lE).trans rfl) ?_
  conv => whnf
  try (refine ⟨by kernel_rfl, ?_⟩; conv => whnf)
  refine condP_t ((congrArg (fun n => Nat.beq 0 0 && Nat.beq 162 n) lE).trans rfl) ?_
  conv => whnf
  try (refine ⟨by kernel_rfl, ?_⟩; conv => whnf)
  unfold soakS
  dsimp only
  have hT := turnS_ok (soF_ok g1 hE)
  refine gen_ex (turnS (soF s.l EH)) fun L eL => ?_
  rw [← eL] at hT ⊢
  clear eL
  refine vloop_invK G0ok [(0, some 0), (1, some 1), (2, some 2)] 3 (X := Nat) (fun j => [(25, nI .i64 j), (5, .ptr 2 0), (4, nI .i64 0), (3, nI .i64 0), (2, .ptr 1 0), (1, .ptr 0 0)])
    (fun j => [(0, some (words L ++ (bts (zB 136) ++ [nI .i64 ((0 : Nat) : Int)]))), (1, some (List.replicate 32 (nI .u8 0))), (2, some (bts (outB L j)))]) (fun j => j ≤ 32) (fun j => 32 - j) 0 rfl ⟨⟨_, rfl, conv_nI (rfl)⟩, ⟨_, rfl, .ptr rfl⟩, ⟨_, rfl, conv_nI (rfl)⟩, ⟨_, rfl, conv_nI (rfl)⟩, ⟨_, rfl, .ptr rfl⟩, ⟨_, rfl, .ptr rfl⟩, trivial⟩ ⟨.inr ⟨_, _, rfl, rfl, convs_eq rfl (SpD.noHs ⟨L, zB 136, 0⟩)⟩, .inr ⟨_, _, rfl, rfl, convs_eq rfl (rfl)⟩, .inr ⟨_, _, rfl, rfl, convs_eq ((outB_zero L).symm) (bts_noHs _)⟩, trivial⟩ (Nat.zero_le _) ?_
  intro j hj
  (try dsimp only at hj); (try dsimp only)
  refine wpv_ok Γok (by kernel_rfl) _ _ _ ?_; conv => whnf
  refine bool_cases (fun hc => ?_) (fun hc => ?_)
  · have hc := of_decide_eq_true hc
    have lx := L64_get hT (j / 8)
    have e8 : wS .i64 (8 * (j : Int).tmod 8) = ((8 * (j % 8) : Nat) : Int) := by
      rw [Int.tmod_eq_emod_of_nonneg (by omega), ws_i64 (by omega) (by omega)]; omega
    conv => whnf
    try (refine ⟨by kernel_rfl, ?_⟩; conv => whnf)
    rw [Int.tdiv_eq_ediv_of_nonneg (by omega), ws_i64 (x := (j : Int) / 8) (by omega) (by omega), show (j : Int) / 8 = ((j / 8 : Nat) : Int) from by omega]
    conv => whnf
    try (refine ⟨by kernel_rfl, ?_⟩; conv => whnf)
    refine bindP_intro (if_pos (inB_ok (by omega) (by omega))) ?_; conv => whnf
    refine bindP_intro (lane_ix (i := j / 8) (by dsimp only; omega) (by rw [hT.1]; omega)) ?_
    conv => whnf
    try (refine ⟨by kernel_rfl, ?_⟩; conv => whnf)
    rw [e8]
    conv => whnf
    try (refine ⟨by kernel_rfl, ?_⟩; conv => whnf)
    rw [shr_val (k := .u64) (n := 8 * (j % 8)) (by simp only [IntKind.bits]; omega), ws_u8, show ((L.getD (j / 8) 0 / 2 ^ (8 * (j % 8)) : Nat) : Int) % 256 = ((L.getD (j / 8) 0 / 2 ^ (8 * (j % 8)) % 256 : Nat) : Int) from by omega]
    conv => whnf
    try (refine ⟨by kernel_rfl, ?_⟩; conv => whnf)
    refine bindP_intro (if_pos (inB_ok (by omega) (by omega))) ?_; conv => whnf
    refine onlyIf_intro (by simp [bts_length, outB_len] <;> omega) ?_
    conv => whnf
    try (refine ⟨by kernel_rfl, ?_⟩; conv => whnf)
    refine next_round (y := j) G0ok (j + 1) [(0, some 0), (1, some 1), (2, some 2)] rfl ⟨⟨_, rfl, conv_nI (ws_i64 (by omega) (by omega))⟩, ⟨_, rfl, .ptr rfl⟩, ⟨_, rfl, conv_nI (rfl)⟩, ⟨_, rfl, conv_nI (rfl)⟩, ⟨_, rfl, .ptr rfl⟩, ⟨_, rfl, .ptr rfl⟩, trivial⟩ ⟨.inr ⟨_, _, rfl, rfl, convs_eq rfl (SpD.noHs ⟨L, zB 136, 0⟩)⟩, .inr ⟨_, _, rfl, rfl, convs_eq rfl (rfl)⟩, .inr ⟨_, _, rfl, rfl, convs_eq ((splice_bts (i := j) (by dsimp only; omega) (by rw [outB_len]; omega)).trans (congrArg bts (outB_step L (by omega)))) (bts_noHs _)⟩, trivial⟩ (by omega) (by omega)
  · have eO : outB L j = hid (outB L 32) := by rw [hid_eq, show j = 32 by have := of_decide_eq_false hc; omega]
    have lO : (bts (hid (outB L 32))).length = 32 := by rw [hid_eq, bts_length, outB_len]
    rw [eO]
    clear eO hc hj
    conv => whnf
    try (refine ⟨by kernel_rfl, ?_⟩; conv => whnf)
    refine bindP_intro (load_agg rfl rfl lO) ?_
    conv => whnf
    try (refine ⟨by kernel_rfl, ?_⟩; conv => whnf)
    refine onlyIf_intro (by rw [lO]; rfl) ?_
    conv => whnf
    try (refine ⟨by kernel_rfl, ?_⟩; conv => whnf)
    exact ⟨_, vres_two rfl (vres_cell rfl rfl (load_agg rfl rfl lO)) rfl, deepV_noH _ _ (by simp only [noH, noHs, bts_noHs, Bool.and_true])⟩
theorem begin_fn : FnV Tryd.prog G0 15 [] (SpD.mk (zB 25) (zB 136) 0).v := by
  unfold SpD.v SpD.cells
  refine fn_of_vwp Γok Tryd.func15 (by kernel_rfl) rfl (by simp [Tryd.ntmps15]) (wpv_ok Γok (by kernel_rfl) _ _ _ ?_); conv => whnf
  exact ⟨_, rfl, rfl⟩
theorem sum_fn {l : List Nat} (hl : ∀ x ∈ l, x < 256) (hL : l.length ≤ 140737488355328) (f : Bool) : FnV Tryd.prog G0 18 [.ds f l.length (bts l)] (.agg (bts (kSum l))) := by
  have hz : SpOk ⟨zB 25, zB 136, 0⟩ := ⟨⟨by decide, fun x hx => by rw [List.eq_of_mem_replicate hx]; unfold W64; decide⟩, zB_ok 136, by show 0 < 136; decide, fun i _ _ => zB_get 136 i⟩
  have a := sadd_fn hz hl hL f
  have hs := spAdd_ok hz l hl
  have e := send_fn hs
  have hn := SpD.noHs (spAdd ⟨zB 25, zB 136, 0⟩ l)
  unfold kSum
  unfold SpD.v at a e
  refine gen_ex (spAdd ⟨zB 25, zB 136, 0⟩ l) fun S eS => ?_
  rw [← eS] at a e hs hn ⊢
  clear eS
  have lS := S.len hs
  have lE : (bts (spEnd S)).length = 32 := by unfold spEnd; rw [hid_eq, bts_length, outB_len]
  have b := begin_fn
  unfold SpD.v at b
  have hn0 := SpD.noHs ⟨zB 25, zB 136, 0⟩
  refine fn_of_vwp Γok Tryd.func18 (by kernel_rfl) rfl (by simp [Tryd.ntmps18]) (wpv_ok Γok (by kernel_rfl) _ _ _ ?_); conv => whnf
  refine ⟨_, ret_of_fn G0ok (b) (by first | rfl | simp only [noHs, noH, nI, bI, Bool.and_self, Bool.and_true, Bool.true_and, ]) (by first | rfl | simp only [noHs, noH, nI, bI, Bool.and_self, Bool.and_true, Bool.true_and, ]), ?_⟩; (conv => whnf); (try (refine ⟨by kernel_rfl, ?_⟩; conv => whnf))
  refine ⟨_, ret_of_fn G0ok (a) (by first | rfl | simp only [noHs, noH, nI, bI, Bool.and_self, Bool.and_true, Bool.true_and, bts_noHs, hn0, hn]) (by first | rfl | simp only [noHs, noH, nI, bI, Bool.and_self, Bool.and_true, Bool.true_and, bts_noHs, hn0, hn]), ?_⟩; (conv => whnf); (try (refine ⟨by kernel_rfl, ?_⟩; conv => whnf))
  refine onlyIf_intro (by rw [lS]; rfl) ?_
  conv => whnf
  try (refine ⟨by kernel_rfl, ?_⟩; conv => whnf)
  refine bindP_intro (load_agg rfl rfl lS) ?_
  conv => whnf
  try (refine ⟨by kernel_rfl, ?_⟩; conv => whnf)
  refine ⟨_, ret_of_fn G0ok (e) (by first | rfl | simp only [noHs, noH, nI, bI, Bool.and_self, Bool.and_true, Bool.true_and, bts_noHs, hn]) (by first | rfl | simp only [noHs, noH, nI, bI, Bool.and_self, Bool.and_true, Bool.true_and, bts_noHs, hn]), ?_⟩; (conv => whnf); (try (refine ⟨by kernel_rfl, ?_⟩; conv => whnf))
  refine onlyIf_intro (by rw [lE]; rfl) ?_
  conv => whnf
  try (refine ⟨by kernel_rfl, ?_⟩; conv => whnf)
  refine bindP_intro (load_agg rfl rfl lE) ?_
  conv => whnf
  try (refine ⟨by kernel_rfl, ?_⟩; conv => whnf)
  refine onlyIf_intro (by rw [lE]; rfl) ?_
  conv => whnf
  try (refine ⟨by kernel_rfl, ?_⟩; conv => whnf)
  exact ⟨_, vres_one rfl (vres_cell rfl rfl (load_agg rfl rfl lE)), deepV_noH _ _ (bts_noHs _)⟩
end Go.Proofs.YtidkdlaihmpjfaaDoor
