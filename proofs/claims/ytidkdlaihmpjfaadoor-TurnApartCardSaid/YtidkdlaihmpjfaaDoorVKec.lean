/- keccak.Turn by the engine. -/
import Derived.Test.YtidkdlaihmpjfaaDoorVKecN
namespace Go.Proofs.YtidkdlaihmpjfaaDoor
set_option linter.unusedVariables false
set_option linter.unusedSimpArgs false
set_option linter.unusedSectionVars false
open Go.ChangeShapes Go.WideShapes Go.ChangeAt Go.RowKit Go.Joins
set_option maxRecDepth 10000
theorem rot_fn {x k : Nat} (hx : W64 x) (hk : k < 64) : FnV Tryd.prog G0 42 [nI .u64 x, nI .i64 k] (nI .u64 (rt x k)) := by
  have e1 : wS .u64 (k : Int) = (k : Int) := ws_u64n (by omega) (by omega)
  have e2 : bitS .and .u64 (k : Int) 63 = (k : Int) := by
    have := u64_and (x := k) (y := 63) (by omega) (by decide)
    rw [show (63 : Nat) = 2 ^ 6 - 1 from rfl, Nat.and_two_pow_sub_one_eq_mod, Nat.mod_eq_of_lt (by omega)] at this
    exact this
  have e3 : wS .u64 (64 - (k : Int)) = ((64 - k : Nat) : Int) := by rw [ws_u64n (by omega) (by omega)]; omega
  have e4 : wS .u64 ((x : Int) * 2 ^ min (k : Int).toNat IntKind.u64.bits) = ((x * 2 ^ k % 18446744073709551616 : Nat) : Int) := by
    rw [shl_val (k := .u64) (x := (x : Int)) (n := k) (by simp only [IntKind.bits]; omega), ← wS_eq, ws_u64, ← Int.natCast_mul]
    exact (Int.natCast_emod _ _).symm
  have e5 : ((x : Int)).fdiv (2 ^ min ((64 - k : Nat) : Int).toNat IntKind.u64.bits) = ((x / 2 ^ (64 - k) : Nat) : Int) := shr_val (k := .u64) (x := x) (n := 64 - k) (by simp only [IntKind.bits]; omega)
  have e6 : bitS .or .u64 ((x * 2 ^ k % 18446744073709551616 : Nat) : Int) ((x / 2 ^ (64 - k) : Nat) : Int) = ((rt x k : Nat) : Int) := by
    rw [u64_or (Nat.mod_lt _ (by decide)) (Nat.lt_of_le_of_lt (Nat.div_le_self _ _) hx), rt_def]
    rfl
  refine fn_of_vwp Γok Tryd.func42 (by kernel_rfl) rfl (by simp [Tryd.ntmps42]) (wpv_ok Γok (by kernel_rfl) _ _ _ ?_); conv => whnf
  rw [e1, e2]
  conv => whnf
  try (refine ⟨by kernel_rfl, ?_⟩; conv => whnf)
  rw [e4, e3]
  conv => whnf
  try (refine ⟨by kernel_rfl, ?_⟩; conv => whnf)
  rw [e5, e6]
  exact ⟨_, rfl, rfl⟩
theorem turns_ix {j i : Nat} (h : j = i) (hi : i < 25) : gc1[j]? = some (nI .i64 ((kTurns.getD i 0 : Nat) : Int)) := by
  subst h
  show (kTurns.map fun (x : Nat) => nI .i64 x)[j]? = _
  have hl : j < kTurns.length := hi
  simp [List.getElem?_eq_getElem hl, List.getD]
set_option maxHeartbeats 8000000 in
theorem turn_fn {a : List Nat} (ha : L64 a 25) : FnV Tryd.prog G0 14 [.agg (words a)] (.agg (words (turnS a))) := by
  obtain ⟨hl, hb⟩ := id ha
  refine fn_of_vwp Γok Tryd.func14 (by kernel_rfl) rfl (by simp [Tryd.ntmps14]) (wpv_ok Γok (by kernel_rfl) _ _ _ ?_); conv => whnf
  refine vloop_invK G0ok [(0, some 0), (1, some 1)] 2 (X := Nat) (fun i => [(17, nI .i64 i), (16, .agg (words kRounds)), (2, .ptr 1 0), (1, .ptr 0 0)])
    (fun i => [(0, some (words (turnTo a i))), (1, some (List.replicate 25 (nI .u64 0)))]) (fun i => i ≤ 24) (fun i => 24 - i) 0 rfl ⟨⟨_, rfl, conv_nI (rfl)⟩, ⟨_, rfl, .same (words_noHs _)⟩, ⟨_, rfl, .ptr rfl⟩, ⟨_, rfl, .ptr rfl⟩, trivial⟩ ⟨.inr ⟨_, _, rfl, rfl, convs_eq rfl (words_noHs _)⟩, .inr ⟨_, _, rfl, rfl, convs_eq rfl (rfl)⟩, trivial⟩ (Nat.zero_le _) ?_
  intro i hi
  dsimp only at hi ⊢
  have hA := turnTo_ok ha i
  refine wpv_ok Γok (by kernel_rfl) _ _ _ ?_; conv => whnf
  refine bool_cases (fun hc => ?_) (fun hc => ?_)
  · have hc := of_decide_eq_true hc
    conv => whnf
    try (refine ⟨by kernel_rfl, ?_⟩; conv => whnf)
    refine bindP_intro (vpure_index (vindex_at (n := 24) (i := i) rfl rfl rfl rfl (by omega) (words_ix rfl (by rw [kRounds_ok.1]; omega)))) ?_
    conv => whnf
    try (refine ⟨by kernel_rfl, ?_⟩; conv => whnf)
    refine bindP_intro (load_agg rfl rfl (by rw [words_length]; exact hA.1)) ?_
    conv => whnf
    try (refine ⟨by kernel_rfl, ?_⟩; conv => whnf)
    have hstep : turnTo a (i + 1) = roundK (turnTo a i) (kRounds.getD i 0) := rfl
    have hk : W64 (kRounds.getD i 0) := L64_get kRounds_ok i
    refine gen_ex (turnTo a i) fun A eA => ?_
    refine gen_ex (kRounds.getD i 0) fun K eK => ?_
    rw [← eA, ← eK] at hstep
    rw [← eA] at hA ⊢
    rw [← eK] at hk ⊢
    clear eA eK
    refine vloop_invK G0ok [(0, some 0), (1, some 1), (2, some 2)] 3 (X := Nat) (fun j => [(21, nI .i64 j), (20, .agg (words A)), (17, nI .i64 i), (16, .agg (words kRounds)), (5, .ptr 2 0), (4, nI .u64 K), (2, .ptr 1 0), (1, .ptr 0 0)])
      (fun j => [(0, some (words A)), (1, some (List.replicate 25 (nI .u64 0))), (2, some (words (thC A j)))]) (fun j => j ≤ 25) (fun j => 25 - j) 0 rfl ⟨⟨_, rfl, conv_nI (rfl)⟩, ⟨_, rfl, .same (words_noHs _)⟩, ⟨_, rfl, conv_nI (rfl)⟩, ⟨_, rfl, .same (words_noHs _)⟩, ⟨_, rfl, .ptr rfl⟩, ⟨_, rfl, conv_nI (rfl)⟩, ⟨_, rfl, .ptr rfl⟩, ⟨_, rfl, .ptr rfl⟩, trivial⟩ ⟨.inr ⟨_, _, rfl, rfl, convs_eq rfl (words_noHs _)⟩, .inr ⟨_, _, rfl, rfl, convs_eq rfl (rfl)⟩, .inr ⟨_, _, rfl, rfl, convs_eq rfl (rfl)⟩, trivial⟩ (Nat.zero_le _) ?_
    intro j hj
    (try dsimp only at hj); (try dsimp only)
    have hC := thC_ok hA j
    refine wpv_ok Γok (by kernel_rfl) _ _ _ ?_; conv => whnf
    refine bool_cases (fun hc => ?_) (fun hc => ?_)
    · have hc := of_decide_eq_true hc
      conv => whnf
      try (refine ⟨by kernel_rfl, ?_⟩; conv => whnf)
      refine bindP_intro (vpure_index (vindex_at (n := 25) (i := j) rfl rfl rfl rfl (by omega) (words_ix rfl (by rw [hA.1]; omega)))) ?_
      conv => whnf
      try (refine ⟨by kernel_rfl, ?_⟩; conv => whnf)
      rw [Int.tmod_eq_emod_of_nonneg (by omega), show (j : Int) % 5 = ((j % 5 : Nat) : Int) from by omega]
      conv => whnf
      try (refine ⟨by kernel_rfl, ?_⟩; conv => whnf)
      refine bindP_intro (if_pos (inB_ok (by omega) (by omega))) ?_; conv => whnf
      refine bindP_intro (words_ix (i := j % 5) (by dsimp only; omega) (by rw [hC.1]; omega)) ?_
      conv => whnf
      try (refine ⟨by kernel_rfl, ?_⟩; conv => whnf)
      rw [u64_xor (L64_get hC _) (L64_get hA _), ← xo_def]
      conv => whnf
      try (refine ⟨by kernel_rfl, ?_⟩; conv => whnf)
      refine bindP_intro (if_pos (inB_ok (by omega) (by omega))) ?_; conv => whnf
      refine onlyIf_intro (by simp [words_length, hC.1] <;> omega) ?_; (conv => whnf); (try (refine ⟨by kernel_rfl, ?_⟩; conv => whnf))
      refine next_round (y := j) G0ok (j + 1) [(0, some 0), (1, some 1), (2, some 2)] rfl ⟨⟨_, rfl, conv_nI (ws_i64 (by omega) (by omega))⟩, ⟨_, rfl, .same (words_noHs _)⟩, ⟨_, rfl, conv_nI (rfl)⟩, ⟨_, rfl, .same (words_noHs _)⟩, ⟨_, rfl, .ptr rfl⟩, ⟨_, rfl, conv_nI (rfl)⟩, ⟨_, rfl, .ptr rfl⟩, ⟨_, rfl, .ptr rfl⟩, trivial⟩ ⟨.inr ⟨_, _, rfl, rfl, convs_eq rfl (words_noHs _)⟩, .inr ⟨_, _, rfl, rfl, convs_eq rfl (rfl)⟩, .inr ⟨_, _, rfl, rfl, convs_eq (splice_words (by dsimp only; omega) (by rw [hC.1]; omega)) (words_noHs _)⟩, trivial⟩ (by omega) (by omega)
    · have eC : thC A j = thF A := by unfold thF; rw [hid_eq, show j = 25 by have := of_decide_eq_false hc; omega]
      rw [eC] at hC ⊢
      clear eC hc hj
      conv => whnf
      try (refine ⟨by kernel_rfl, ?_⟩; conv => whnf)
      have hstep : turnTo a (i + 1) = (chF A (roF A (thF A))).set 0 (xo ((chF A (roF A (thF A))).getD 0 0) K) := hstep
      refine gen_ex (thF A) fun C eC => ?_
      rw [← eC] at hC hstep ⊢
      clear eC
      refine vloop_invK G0ok [(0, some 0), (1, some 1), (2, some 2), (3, some 3)] 4 (X := Nat) (fun j => [(33, nI .i64 j), (17, nI .i64 i), (16, .agg (words kRounds)), (8, .ptr 3 0), (5, .ptr 2 0), (4, nI .u64 K), (2, .ptr 1 0), (1, .ptr 0 0)])
        (fun j => [(0, some (words A)), (1, some (List.replicate 25 (nI .u64 0))), (2, some (words C)), (3, some (words (roB A C j)))]) (fun j => j ≤ 25) (fun j => 25 - j) 0 rfl ⟨⟨_, rfl, conv_nI (rfl)⟩, ⟨_, rfl, conv_nI (rfl)⟩, ⟨_, rfl, .same (words_noHs _)⟩, ⟨_, rfl, .ptr rfl⟩, ⟨_, rfl, .ptr rfl⟩, ⟨_, rfl, conv_nI (rfl)⟩, ⟨_, rfl, .ptr rfl⟩, ⟨_, rfl, .ptr rfl⟩, trivial⟩ ⟨.inr ⟨_, _, rfl, rfl, convs_eq rfl (words_noHs _)⟩, .inr ⟨_, _, rfl, rfl, convs_eq rfl (rfl)⟩, .inr ⟨_, _, rfl, rfl, convs_eq rfl (words_noHs _)⟩, .inr ⟨_, _, rfl, rfl, convs_eq rfl (rfl)⟩, trivial⟩ (Nat.zero_le _) ?_
      intro j hj
      (try dsimp only at hj); (try dsimp only)
      have hB := roB_ok hA hC j
      refine wpv_ok Γok (by kernel_rfl) _ _ _ ?_; conv => whnf
      refine bool_cases (fun hc => ?_) (fun hc => ?_)
      · have hc := of_decide_eq_true hc
        have h4 : (wS .i64 (((j % 5 : Nat) : Int) + 4)).tmod 5 = (((j % 5 + 4) % 5 : Nat) : Int) := by
          rw [ws_i64 (by omega) (by omega), Int.tmod_eq_emod_of_nonneg (by omega)]; omega
        have h1 : (wS .i64 (((j % 5 : Nat) : Int) + 1)).tmod 5 = (((j % 5 + 1) % 5 : Nat) : Int) := by
          rw [ws_i64 (by omega) (by omega), Int.tmod_eq_emod_of_nonneg (by omega)]; omega
        have hx : wS .i64 (((j / 5 : Nat) : Int) + wS .i64 (5 * (wS .i64 (wS .i64 (2 * ((j % 5 : Nat) : Int)) + wS .i64 (3 * ((j / 5 : Nat) : Int)))).tmod 5)) = ((j / 5 + 5 * ((2 * (j % 5) + 3 * (j / 5)) % 5) : Nat) : Int) := by
          rw [ws_i64 (x := 2 * ((j % 5 : Nat) : Int)) (by omega) (by omega), ws_i64 (x := 3 * ((j / 5 : Nat) : Int)) (by omega) (by omega), ws_i64 (x := 2 * ((j % 5 : Nat) : Int) + 3 * ((j / 5 : Nat) : Int)) (by omega) (by omega), Int.tmod_eq_emod_of_nonneg (by omega), ws_i64 (x := 5 * _) (by omega) (by omega), ws_i64 (by omega) (by omega)]
          omega
        have lA := L64_get hA j
        have lC4 := L64_get hC ((j % 5 + 4) % 5)
        have lC1 := L64_get hC ((j % 5 + 1) % 5)
        have r1 := rot_fn (k := 1) lC1 (by decide)
        have lV := xo_lt (xo_lt lA lC4) (rt_lt (k := 1) lC1)
        have lT : kTurns.getD j 0 < 64 := getD_lt (by decide) (by decide) j
        have r2 := rot_fn lV lT
        conv => whnf
        try (refine ⟨by kernel_rfl, ?_⟩; conv => whnf)
        rw [Int.tmod_eq_emod_of_nonneg (by omega), show (j : Int) % 5 = ((j % 5 : Nat) : Int) from by omega, Int.tdiv_eq_ediv_of_nonneg (by omega), ws_i64 (x := (j : Int) / 5) (by omega) (by omega), show (j : Int) / 5 = ((j / 5 : Nat) : Int) from by omega]
        conv => whnf
        try (refine ⟨by kernel_rfl, ?_⟩; conv => whnf)
        refine bindP_intro (if_pos (inB_ok (by omega) (by omega))) ?_; conv => whnf
        refine bindP_intro (words_ix (i := j) (by dsimp only; omega) (by rw [hA.1]; omega)) ?_
        conv => whnf
        try (refine ⟨by kernel_rfl, ?_⟩; conv => whnf)
        rw [h4]
        conv => whnf
        try (refine ⟨by kernel_rfl, ?_⟩; conv => whnf)
        refine bindP_intro (if_pos (inB_ok (by omega) (by omega))) ?_; conv => whnf
        refine bindP_intro (words_ix (i := (j % 5 + 4) % 5) (by dsimp only; omega) (by rw [hC.1]; omega)) ?_
        conv => whnf
        try (refine ⟨by kernel_rfl, ?_⟩; conv => whnf)
        rw [h1]
        conv => whnf
        try (refine ⟨by kernel_rfl, ?_⟩; conv => whnf)
        refine bindP_intro (if_pos (inB_ok (by omega) (by omega))) ?_; conv => whnf
        refine bindP_intro (words_ix (i := (j % 5 + 1) % 5) (by dsimp only; omega) (by rw [hC.1]; omega)) ?_
        conv => whnf
        try (refine ⟨by kernel_rfl, ?_⟩; conv => whnf)
        refine ⟨_, ret_of_fn G0ok (r1) (by first | rfl | simp only [noHs, noH, nI, bI, Bool.and_self, Bool.and_true, Bool.true_and, ]) (by first | rfl | simp only [noHs, noH, nI, bI, Bool.and_self, Bool.and_true, Bool.true_and, ]), ?_⟩; (conv => whnf); (try (refine ⟨by kernel_rfl, ?_⟩; conv => whnf))
        rw [u64_xor lA lC4, ← xo_def, u64_xor (xo_lt lA lC4) (rt_lt (k := 1) lC1), ← xo_def]
        conv => whnf
        try (refine ⟨by kernel_rfl, ?_⟩; conv => whnf)
        refine bindP_intro (if_pos (inB_ok (by omega) (by omega))) ?_; conv => whnf
        refine bindP_intro (turns_ix (i := j) (by dsimp only; omega) (by omega)) ?_
        conv => whnf
        try (refine ⟨by kernel_rfl, ?_⟩; conv => whnf)
        refine ⟨_, ret_of_fn G0ok (r2) (by first | rfl | simp only [noHs, noH, nI, bI, Bool.and_self, Bool.and_true, Bool.true_and, ]) (by first | rfl | simp only [noHs, noH, nI, bI, Bool.and_self, Bool.and_true, Bool.true_and, ]), ?_⟩; (conv => whnf); (try (refine ⟨by kernel_rfl, ?_⟩; conv => whnf))
        rw [hx]
        conv => whnf
        try (refine ⟨by kernel_rfl, ?_⟩; conv => whnf)
        refine bindP_intro (if_pos (inB_ok (by omega) (by omega))) ?_; conv => whnf
        refine onlyIf_intro (by simp [words_length, hB.1] <;> omega) ?_; (conv => whnf); (try (refine ⟨by kernel_rfl, ?_⟩; conv => whnf))
        refine next_round (y := j) G0ok (j + 1) [(0, some 0), (1, some 1), (2, some 2), (3, some 3)] rfl ⟨⟨_, rfl, conv_nI (ws_i64 (by omega) (by omega))⟩, ⟨_, rfl, conv_nI (rfl)⟩, ⟨_, rfl, .same (words_noHs _)⟩, ⟨_, rfl, .ptr rfl⟩, ⟨_, rfl, .ptr rfl⟩, ⟨_, rfl, conv_nI (rfl)⟩, ⟨_, rfl, .ptr rfl⟩, ⟨_, rfl, .ptr rfl⟩, trivial⟩ ⟨.inr ⟨_, _, rfl, rfl, convs_eq rfl (words_noHs _)⟩, .inr ⟨_, _, rfl, rfl, convs_eq rfl (rfl)⟩, .inr ⟨_, _, rfl, rfl, convs_eq rfl (words_noHs _)⟩, .inr ⟨_, _, rfl, rfl, convs_eq (splice_words (by dsimp only; omega) (by rw [hB.1]; omega)) (words_noHs _)⟩, trivial⟩ (by omega) (by omega)
      · have eB : roB A C j = roF A C := by unfold roF; rw [hid_eq, show j = 25 by have := of_decide_eq_false hc; omega]
        rw [eB] at hB ⊢
        clear eB hc hj
        conv => whnf
        try (refine ⟨by kernel_rfl, ?_⟩; conv => whnf)
        refine gen_ex (roF A C) fun B eB => ?_
        rw [← eB] at hB hstep ⊢
        clear eB
        refine vloop_invK G0ok [(0, some 0), (1, some 1), (2, some 3)] 3 (X := Nat) (fun j => [(72, nI .i64 j), (17, nI .i64 i), (16, .agg (words kRounds)), (8, .ptr 2 0), (4, nI .u64 K), (2, .ptr 1 0), (1, .ptr 0 0)])
          (fun j => [(0, some (words (chA A B j))), (1, some (List.replicate 25 (nI .u64 0))), (2, some (words B))]) (fun j => j ≤ 25) (fun j => 25 - j) 0 rfl ⟨⟨_, rfl, conv_nI (rfl)⟩, ⟨_, rfl, conv_nI (rfl)⟩, ⟨_, rfl, .same (words_noHs _)⟩, ⟨_, rfl, .ptr rfl⟩, ⟨_, rfl, conv_nI (rfl)⟩, ⟨_, rfl, .ptr rfl⟩, ⟨_, rfl, .ptr rfl⟩, trivial⟩ ⟨.inr ⟨_, _, rfl, rfl, convs_eq rfl (words_noHs _)⟩, .inr ⟨_, _, rfl, rfl, convs_eq rfl (rfl)⟩, .inr ⟨_, _, rfl, rfl, convs_eq rfl (words_noHs _)⟩, trivial⟩ (Nat.zero_le _) ?_
        intro j hj
        (try dsimp only at hj); (try dsimp only)
        have hD := chA_ok hA hB j
        refine wpv_ok Γok (by kernel_rfl) _ _ _ ?_; conv => whnf
        refine bool_cases (fun hc => ?_) (fun hc => ?_)
        · have hc := of_decide_eq_true hc
          have h1 : wS .i64 ((wS .i64 (((j % 5 : Nat) : Int) + 1)).tmod 5 + wS .i64 (5 * ((j / 5 : Nat) : Int))) = (((j % 5 + 1) % 5 + 5 * (j / 5) : Nat) : Int) := by
            rw [ws_i64 (x := ((j % 5 : Nat) : Int) + 1) (by omega) (by omega), ws_i64 (x := 5 * ((j / 5 : Nat) : Int)) (by omega) (by omega), Int.tmod_eq_emod_of_nonneg (by omega), ws_i64 (by omega) (by omega)]
            omega
          have h2 : wS .i64 ((wS .i64 (((j % 5 : Nat) : Int) + 2)).tmod 5 + wS .i64 (5 * ((j / 5 : Nat) : Int))) = (((j % 5 + 2) % 5 + 5 * (j / 5) : Nat) : Int) := by
            rw [ws_i64 (x := ((j % 5 : Nat) : Int) + 2) (by omega) (by omega), ws_i64 (x := 5 * ((j / 5 : Nat) : Int)) (by omega) (by omega), Int.tmod_eq_emod_of_nonneg (by omega), ws_i64 (by omega) (by omega)]
            omega
          have lB := L64_get hB j
          have lB1 := L64_get hB ((j % 5 + 1) % 5 + 5 * (j / 5))
          have lB2 := L64_get hB ((j % 5 + 2) % 5 + 5 * (j / 5))
          have lM : W64 18446744073709551615 := by unfold W64; decide
          have ex := u64_xor lM lB1
          conv => whnf
          try (refine ⟨by kernel_rfl, ?_⟩; conv => whnf)
          rw [Int.tmod_eq_emod_of_nonneg (by omega), show (j : Int) % 5 = ((j % 5 : Nat) : Int) from by omega, Int.tdiv_eq_ediv_of_nonneg (by omega), ws_i64 (x := (j : Int) / 5) (by omega) (by omega), show (j : Int) / 5 = ((j / 5 : Nat) : Int) from by omega]
          conv => whnf
          try (refine ⟨by kernel_rfl, ?_⟩; conv => whnf)
          refine bindP_intro (if_pos (inB_ok (by omega) (by omega))) ?_; conv => whnf
          refine bindP_intro (words_ix (i := j) (by dsimp only; omega) (by rw [hB.1]; omega)) ?_
          conv => whnf
          try (refine ⟨by kernel_rfl, ?_⟩; conv => whnf)
          rw [h1]
          conv => whnf
          try (refine ⟨by kernel_rfl, ?_⟩; conv => whnf)
          refine bindP_intro (if_pos (inB_ok (by omega) (by omega))) ?_; conv => whnf
          refine bindP_intro (words_ix (i := (j % 5 + 1) % 5 + 5 * (j / 5)) (by dsimp only; omega) (by rw [hB.1]; omega)) ?_
          conv => whnf
          try (refine ⟨by kernel_rfl, ?_⟩; conv => whnf)
          rw [h2]
          conv => whnf
          try (refine ⟨by kernel_rfl, ?_⟩; conv => whnf)
          refine bindP_intro (if_pos (inB_ok (by omega) (by omega))) ?_; conv => whnf
          refine bindP_intro (words_ix (i := (j % 5 + 2) % 5 + 5 * (j / 5)) (by dsimp only; omega) (by rw [hB.1]; omega)) ?_
          conv => whnf
          try (refine ⟨by kernel_rfl, ?_⟩; conv => whnf)
          rw [show bitS .xor .u64 (if IntKind.u64.signed = true then -1 else IntKind.u64.max) ((B.getD ((j % 5 + 1) % 5 + 5 * (j / 5)) 0 : Nat) : Int) = ((18446744073709551615 ^^^ B.getD ((j % 5 + 1) % 5 + 5 * (j / 5)) 0 : Nat) : Int) from ex, ← xo_def, u64_and (xo_lt lM lB1) lB2, ← an_def, u64_xor lB (an_lt (xo_lt lM lB1)), ← xo_def]
          conv => whnf
          try (refine ⟨by kernel_rfl, ?_⟩; conv => whnf)
          refine bindP_intro (if_pos (inB_ok (by omega) (by omega))) ?_; conv => whnf
          refine onlyIf_intro (by simp [words_length, hD.1] <;> omega) ?_; (conv => whnf); (try (refine ⟨by kernel_rfl, ?_⟩; conv => whnf))
          refine next_round (y := j) G0ok (j + 1) [(0, some 0), (1, some 1), (2, some 2)] rfl ⟨⟨_, rfl, conv_nI (ws_i64 (by omega) (by omega))⟩, ⟨_, rfl, conv_nI (rfl)⟩, ⟨_, rfl, .same (words_noHs _)⟩, ⟨_, rfl, .ptr rfl⟩, ⟨_, rfl, conv_nI (rfl)⟩, ⟨_, rfl, .ptr rfl⟩, ⟨_, rfl, .ptr rfl⟩, trivial⟩ ⟨.inr ⟨_, _, rfl, rfl, convs_eq (splice_words (by dsimp only; omega) (by rw [hD.1]; omega)) (words_noHs _)⟩, .inr ⟨_, _, rfl, rfl, convs_eq rfl (rfl)⟩, .inr ⟨_, _, rfl, rfl, convs_eq rfl (words_noHs _)⟩, trivial⟩ (by omega) (by omega)
        · have eD : chA A B j = chF A B := by unfold chF; rw [hid_eq, show j = 25 by have := of_decide_eq_false hc; omega]
          rw [eD] at hD ⊢
          clear eD hc hj
          refine gen_ex (chF A B) fun D eD => ?_
          rw [← eD] at hD hstep ⊢
          clear eD
          have lD := L64_get hD 0
          conv => whnf
          try (refine ⟨by kernel_rfl, ?_⟩; conv => whnf)
          refine bindP_intro (words_ix (i := 0) (by rfl) (by rw [hD.1]; omega)) ?_
          conv => whnf
          try (refine ⟨by kernel_rfl, ?_⟩; conv => whnf)
          rw [u64_xor lD hk, ← xo_def]
          conv => whnf
          try (refine ⟨by kernel_rfl, ?_⟩; conv => whnf)
          refine onlyIf_intro (by simp [words_length, hD.1] <;> omega) ?_; (conv => whnf); (try (refine ⟨by kernel_rfl, ?_⟩; conv => whnf))
          refine next_round (y := i) G0ok (i + 1) [(0, some 0), (1, some 1)] rfl ⟨⟨_, rfl, conv_nI (ws_i64 (by omega) (by omega))⟩, ⟨_, rfl, .same (words_noHs _)⟩, ⟨_, rfl, .ptr rfl⟩, ⟨_, rfl, .ptr rfl⟩, trivial⟩ ⟨.inr ⟨_, _, rfl, rfl, convs_eq (by rw [hstep]; exact splice_words (by rfl) (by rw [hD.1]; omega)) (words_noHs _)⟩, .inr ⟨_, _, rfl, rfl, convs_eq rfl (rfl)⟩, trivial⟩ (by omega) (by omega)
  · have e24 : turnTo a i = turnS a := by rw [turnS_def, show i = 24 by have := of_decide_eq_false hc; omega]
    rw [e24] at hA ⊢
    conv => whnf
    try (refine ⟨by kernel_rfl, ?_⟩; conv => whnf)
    refine bindP_intro (load_agg rfl rfl (by rw [words_length]; exact hA.1)) ?_
    conv => whnf
    try (refine ⟨by kernel_rfl, ?_⟩; conv => whnf)
    refine onlyIf_intro (by simp [words_length, hA.1]) ?_
    conv => whnf
    try (refine ⟨by kernel_rfl, ?_⟩; conv => whnf)
    exact ⟨_, vres_one rfl (vres_cell rfl rfl (load_agg rfl rfl (by rw [words_length]; exact hA.1))), deepV_noH _ _ (words_noHs _)⟩
end Go.Proofs.YtidkdlaihmpjfaaDoor
