/- field.bits and what it calls, by the engine. -/
import Derived.Test.YtidkdlaihmpjfaaDoorVField
namespace Go.Proofs.YtidkdlaihmpjfaaDoor
set_option linter.unusedVariables false
set_option linter.unusedSimpArgs false
set_option linter.unusedSectionVars false
open Go.ChangeShapes Go.WideShapes Go.ChangeAt Go.RowKit Go.Joins
set_option maxRecDepth 10000
theorem mul1_fnH {a m x : Nat} (ha : a < m) (hx : x < m) (hm : m < T256) (one : Bool) : FnH Tryd.prog G0 95 [bI one, .ptr 0 0, .ptr 1 0, .ptr 2 0] [(0, some (uC x)), (1, some (uC m)), (2, some (uC a))] 3 (.tup [])
    [(0, some (uC (if one then addM m (addM m x x) a else addM m x x))), (1, some (uC m)), (2, some (uC a))] 0 := by
  refine fnH_of_vwp Γok G0ok Tryd.func95 (by kernel_rfl) rfl (by simp [Tryd.ntmps95]) (wpv_ok Γok (by kernel_rfl) _ _ _ ?_); conv => whnf
  refine ⟨_, ret_of_fn G0ok (fadd_fn hx hx hm) (by first | rfl | simp only [noHs, noH, nI, bI, Bool.and_self, Bool.and_true, Bool.true_and, ]) (by first | rfl | simp only [noHs, noH, nI, bI, Bool.and_self, Bool.and_true, Bool.true_and, ]), ?_⟩; (conv => whnf); (try (refine ⟨by kernel_rfl, ?_⟩; conv => whnf))
  cases one
  · conv => whnf
    try (refine ⟨by kernel_rfl, ?_⟩; conv => whnf)
    exact ⟨_, rfl, [(0, some 0), (1, some 1), (2, some 2)], rfl, rfl, .same rfl, ⟨.inr ⟨_, _, rfl, rfl, convs_eq rfl (words_noHs _)⟩, .inr ⟨_, _, rfl, rfl, convs_eq rfl (words_noHs _)⟩, .inr ⟨_, _, rfl, rfl, convs_eq rfl (words_noHs _)⟩, trivial⟩⟩
  · conv => whnf
    try (refine ⟨by kernel_rfl, ?_⟩; conv => whnf)
    refine ⟨_, ret_of_fn G0ok (fadd_fn (addM_lt (by omega)) ha hm) (by first | rfl | simp only [noHs, noH, nI, bI, Bool.and_self, Bool.and_true, Bool.true_and, ]) (by first | rfl | simp only [noHs, noH, nI, bI, Bool.and_self, Bool.and_true, Bool.true_and, ]), ?_⟩; (conv => whnf); (try (refine ⟨by kernel_rfl, ?_⟩; conv => whnf))
    exact ⟨_, rfl, [(0, some 0), (1, some 1), (2, some 2)], rfl, rfl, .same rfl, ⟨.inr ⟨_, _, rfl, rfl, convs_eq rfl (words_noHs _)⟩, .inr ⟨_, _, rfl, rfl, convs_eq rfl (words_noHs _)⟩, .inr ⟨_, _, rfl, rfl, convs_eq rfl (words_noHs _)⟩, trivial⟩⟩
/-- A function that is handed blocks, called: what comes out, in the caller's names. -/
theorem ret_fnH {P : Program} {G : Globs} (hG : GOk G) {g : FuncId} {vargs vargs' : List VV} {H : HL} {k : Nat} {res res' : VV} {H' upd : HL} {m : Nat} (h : FnH P G g vargs H k res H' m) (σl : List Nat) {lkf : Nat → Option (List VV)} {n : Nat}
    (hlen : σl.length = k) (hnd : noDup σl = true) (hHk : (H.all fun p => Nat.blt p.1 k) = true) (hv : lowVs k vargs = true) (hr : lowV (k + m) res = true)
    (hin : inH lkf (hmap σl k n) k H k) (hout : outH (k + m) H' (k + m)) (e1 : rnVs (hmap σl k n) vargs = vargs') (e2 : rnV (hmap σl k n) res = res') (e3 : updH (hmap σl k n) H' (k + m) = upd) :
    Ret P G g vargs' lkf n ⟨res', σl, upd, m⟩ := by
  subst e1 e2 e3
  exact ret_of_fnH hG h σl hlen hnd hHk hv hr hin hout
noncomputable def H3 (x m a : Nat) : HL := [(0, some (uC x)), (1, some (uC m)), (2, some (uC a))]
theorem bit_down {b i k : Nat} (hi : i < 4) (hk : k < 64) : b / 2 ^ (64 * i + k) = 2 * (b / 2 ^ (64 * i + (k + 1))) + lim b i / 2 ^ k % 2 := by
  have h1 : lim b i / 2 ^ k % 2 = b / 2 ^ (64 * i + k) % 2 := by
    rw [lim_def, B64_eq, ← Nat.pow_mul, show (2:Nat) ^ 64 = 2 ^ k * (2 * 2 ^ (63 - k)) by rw [← Nat.pow_succ', ← Nat.pow_add]; congr 1; omega, Nat.mod_mul_right_div_self, Nat.mod_mul_right_mod, Nat.div_div_eq_div_mul, ← Nat.pow_add]
  have h2 : b / 2 ^ (64 * i + (k + 1)) = b / 2 ^ (64 * i + k) / 2 := by rw [Nat.div_div_eq_div_mul, ← Nat.pow_succ]; rfl
  rw [h1, h2]; omega
theorem limb_down {b i : Nat} (hi : i < 4) : b / 2 ^ (64 * i) = 2 ^ 64 * (b / 2 ^ (64 * (i + 1))) + lim b i := by
  rw [lim_def, B64_eq, ← Nat.pow_mul, show 64 * (i + 1) = 64 * i + 64 by omega, Nat.pow_add, ← Nat.div_div_eq_div_mul]
  exact (Nat.div_add_mod _ _).symm
theorem outH3 (x m a : Nat) : outH 3 (H3 x m a) 3 :=
  ⟨⟨⟨trivial, fun cs h => (Option.some.inj (show some (uC x) = some cs from h)) ▸ lowVs_noHs (words_noHs _)⟩, fun cs h => (Option.some.inj (show some (uC m) = some cs from h)) ▸ lowVs_noHs (words_noHs _)⟩, fun cs h => (Option.some.inj (show some (uC a) = some cs from h)) ▸ lowVs_noHs (words_noHs _)⟩
theorem bits_fnH {g : FuncId} {f : Nat → Nat} {m a b : Nat} (hb : b < T256)
    (hg : ∀ v t, t ≤ 1 → 0 < 2 * v + t → FnH Tryd.prog G0 g [bI (decide (t = 1)), .ptr 0 0, .ptr 1 0, .ptr 2 0] (H3 (f v) m a) 3 (.tup []) (H3 (f (2 * v + t)) m a) 0) :
    FnH Tryd.prog G0 93 [uV b, .fn (.func g) [.ptr 0 0, .ptr 1 0, .ptr 2 0]] (H3 (f 0) m a) 3 (.tup []) (H3 (f b) m a) 0 := by
  have h4 : b / 2 ^ (64 * 4) = 0 := Nat.div_eq_of_lt hb
  unfold H3 at *
  refine fnH_of_vwp Γok G0ok Tryd.func93 (by kernel_rfl) rfl (by simp [Tryd.ntmps93]) (wpv_ok Γok (by kernel_rfl) _ _ _ ?_); conv => whnf
  refine vloop_invK G0ok [(0, some 0), (1, some 1), (2, some 2), (3, some 3)] 4 (X := Nat) (fun j => [(5, nI .i64 ((j : Int) - 1)), (4, bI (decide (0 < b / 2 ^ (64 * j)))), (2, .ptr 3 0), (1, .fn (.func g) [.ptr 0 0, .ptr 1 0, .ptr 2 0])])
    (fun j => [(0, some (uC (f (b / 2 ^ (64 * j))))), (1, some (uC m)), (2, some (uC a)), (3, some (uC b))]) (fun j => j ≤ 4) (fun j => j) 4 rfl
    ⟨⟨_, rfl, conv_nI (rfl)⟩, ⟨_, rfl, conv_eq (by rw [h4]; rfl) (rfl)⟩, ⟨_, rfl, .ptr rfl⟩, ⟨_, rfl, .fn (.cons (.ptr rfl) (.cons (.ptr rfl) (.cons (.ptr rfl) .nil)))⟩, trivial⟩
    ⟨.inr ⟨_, _, rfl, rfl, convs_eq (by rw [h4]) (words_noHs _)⟩, .inr ⟨_, _, rfl, rfl, convs_eq rfl (words_noHs _)⟩, .inr ⟨_, _, rfl, rfl, convs_eq rfl (words_noHs _)⟩, .inr ⟨_, _, rfl, rfl, convs_eq (rfl) (words_noHs _)⟩, trivial⟩ (Nat.le_refl _) ?_
  intro j hj
  try dsimp only at hj ⊢
  refine wpv_ok Γok (by kernel_rfl) _ _ _ ?_; conv => whnf
  refine bool_cases (fun hc => ?_) (fun hc => ?_)
  · have hc := of_decide_eq_true hc
    obtain ⟨i, hi⟩ : ∃ i, j = i + 1 := ⟨j - 1, by omega⟩
    subst hi
    have hl := limb_down (b := b) (i := i) (by omega)
    have hbd := fun k (hk : k < 64) => bit_down (b := b) (i := i) (k := k) (by omega) hk
    rw [show ((i + 1 : Nat) : Int) - 1 = (i : Int) from by omega]
    conv => whnf
    try (refine ⟨by kernel_rfl, ?_⟩; conv => whnf)
    refine bindP_intro (if_pos (inB_ok (by omega) (by omega))) ?_; conv => whnf
    refine bindP_intro (words_ix (i := i) (by dsimp only; omega) (by simp; omega)) ?_
    conv => whnf
    try (refine ⟨by kernel_rfl, ?_⟩; conv => whnf)
    rw [limC_getD _ (by omega)]
    have hcases : (lim b i = 0 ∧ b / 2 ^ (64 * (i + 1)) = 0) ∨ (lim b i = 0 ∧ 0 < b / 2 ^ (64 * (i + 1))) ∨ 0 < lim b i := by omega
    rcases hcases with ⟨hz, hv⟩ | ⟨hz, hv⟩ | hz
    · rw [hz, hv]
      conv => whnf
      try (refine ⟨by kernel_rfl, ?_⟩; conv => whnf)
      refine next_round (y := i + 1) G0ok i [(0, some 0), (1, some 1), (2, some 2), (3, some 3)] rfl ⟨⟨_, rfl, conv_nI (ws_i64 (by omega) (by omega))⟩, ⟨_, rfl, conv_eq (by rw [hl, hv, hz]) (rfl)⟩, ⟨_, rfl, .ptr rfl⟩, ⟨_, rfl, .fn (.cons (.ptr rfl) (.cons (.ptr rfl) (.cons (.ptr rfl) .nil)))⟩, trivial⟩ ⟨.inr ⟨_, _, rfl, rfl, convs_eq (by rw [hl, hv, hz]) (words_noHs _)⟩, .inr ⟨_, _, rfl, rfl, convs_eq rfl (words_noHs _)⟩, .inr ⟨_, _, rfl, rfl, convs_eq rfl (words_noHs _)⟩, .inr ⟨_, _, rfl, rfl, convs_eq (rfl) (words_noHs _)⟩, trivial⟩ (by omega) (by omega)
    case' inr.inl =>
      have hv' : 0 < b / 2 ^ (64 * i + 64) := hv
      rw [show (((lim b i : Nat) : Int) == 0) = true from by rw [hz]; rfl, decide_eq_true hv]
      conv => whnf
    case' inr.inr =>
      rw [show (((lim b i : Nat) : Int) == 0) = false from by simp; omega]
      conv => whnf
    all_goals
      refine vloop_invK G0ok [(0, some 0), (1, some 1), (2, some 2), (3, some 3)] 4 (X := Nat) (fun k => [(6, nI .i64 ((k : Int) - 1)), (5, nI .i64 (i : Int)), (4, bI (decide (0 < b / 2 ^ (64 * i + k)))), (2, .ptr 3 0), (1, .fn (.func g) [.ptr 0 0, .ptr 1 0, .ptr 2 0])])
        (fun k => [(0, some (uC (f (b / 2 ^ (64 * i + k))))), (1, some (uC m)), (2, some (uC a)), (3, some (uC b))]) (fun k => k ≤ 64) (fun k => k) 64 rfl
        ⟨⟨_, rfl, conv_nI (rfl)⟩, ⟨_, rfl, conv_nI (rfl)⟩, ⟨_, rfl, conv_eq (by first|rfl|exact congrArg VV.v (congrArg Value.bool (decide_eq_true (by assumption)).symm)) (rfl)⟩, ⟨_, rfl, .ptr rfl⟩, ⟨_, rfl, .fn (.cons (.ptr rfl) (.cons (.ptr rfl) (.cons (.ptr rfl) .nil)))⟩, trivial⟩
        ⟨.inr ⟨_, _, rfl, rfl, convs_eq (rfl) (words_noHs _)⟩, .inr ⟨_, _, rfl, rfl, convs_eq rfl (words_noHs _)⟩, .inr ⟨_, _, rfl, rfl, convs_eq rfl (words_noHs _)⟩, .inr ⟨_, _, rfl, rfl, convs_eq (rfl) (words_noHs _)⟩, trivial⟩ (Nat.le_refl _) ?_
      intro k hk
      try dsimp only at hk ⊢
      refine wpv_ok Γok (by kernel_rfl) _ _ _ ?_; conv => whnf
      refine bool_cases (fun hc => ?_) (fun hc => ?_)
      · have hc := of_decide_eq_true hc
        obtain ⟨q, hq⟩ : ∃ q, k = q + 1 := ⟨k - 1, by omega⟩
        subst hq
        have hd := hbd q (by omega)
        rw [show ((q + 1 : Nat) : Int) - 1 = (q : Int) from by omega]
        conv => whnf
        try (refine ⟨by kernel_rfl, ?_⟩; conv => whnf)
        refine bindP_intro (if_pos (inB_ok (by omega) (by omega))) ?_; conv => whnf
        refine bindP_intro (words_ix (i := i) (by dsimp only; omega) (by simp; omega)) ?_
        conv => whnf
        try (refine ⟨by kernel_rfl, ?_⟩; conv => whnf)
        rw [limC_getD _ (by omega)]
        have hl64 := lim_lt b i
        have ht2 : lim b i / 2 ^ q < 2 ^ 64 := Nat.lt_of_le_of_lt (Nat.div_le_self _ _) (by rw [← B64_eq]; exact hl64)
        have ht : lim b i / 2 ^ q % 2 ≤ 1 := by omega
        rw [shr_val (k := .u64) (x := lim b i) (n := q) (by simp only [IntKind.bits]; omega), u64_and1 ht2, show (((lim b i / 2 ^ q % 2 : Nat) : Int) == 1) = decide (lim b i / 2 ^ q % 2 = 1) from beq_lit _ 1]
        refine gen_ex (lim b i / 2 ^ q % 2) fun t et => ?_
        rw [← et] at hd ht ⊢
        clear et ht2
        have hgt := hg (b / 2 ^ (64 * i + (q + 1))) t ht
        rw [← hd] at hgt
        refine gen_ex (b / 2 ^ (64 * i + (q + 1))) fun v ev => ?_
        rw [← ev] at hd hgt ⊢
        by_cases hv : 0 < v
        · have hgt := hgt (by omega)
          rw [decide_eq_true hv]
          conv => whnf
          try (refine ⟨by kernel_rfl, ?_⟩; conv => whnf)
          refine ⟨_, ret_fnH G0ok hgt [0, 1, 2] rfl rfl rfl rfl rfl ⟨⟨⟨trivial, _, rfl, rfl, rfl⟩, _, rfl, rfl, rfl⟩, _, rfl, rfl, rfl⟩ (outH3 _ _ _) rfl rfl (upd := [(0, some (uC (f (b / 2 ^ (64 * i + q))))), (1, some (uC m)), (2, some (uC a))]) (by rfl), ?_⟩
          conv => whnf
          try (refine ⟨by kernel_rfl, ?_⟩; conv => whnf)
          refine next_round (y := q + 1) G0ok q [(0, some 0), (1, some 1), (2, some 2), (3, some 3)] rfl ⟨⟨_, rfl, conv_nI (ws_i64 (by omega) (by omega))⟩, ⟨_, rfl, conv_nI (rfl)⟩, ⟨_, rfl, conv_eq (by rw [hd, decide_eq_true (show 0 < 2 * v + t by omega)]; rfl) (rfl)⟩, ⟨_, rfl, .ptr rfl⟩, ⟨_, rfl, .fn (.cons (.ptr rfl) (.cons (.ptr rfl) (.cons (.ptr rfl) .nil)))⟩, trivial⟩ ⟨.inr ⟨_, _, rfl, rfl, convs_eq (rfl) (words_noHs _)⟩, .inr ⟨_, _, rfl, rfl, convs_eq rfl (words_noHs _)⟩, .inr ⟨_, _, rfl, rfl, convs_eq rfl (words_noHs _)⟩, .inr ⟨_, _, rfl, rfl, convs_eq (rfl) (words_noHs _)⟩, trivial⟩ (by omega) (by omega)
        · rw [decide_eq_false hv]
          conv => whnf
          try (refine ⟨by kernel_rfl, ?_⟩; conv => whnf)
          by_cases h1 : t = 1
          · have hgt := hgt (by omega)
            rw [decide_eq_true h1] at hgt ⊢
            conv => whnf
            try (refine ⟨by kernel_rfl, ?_⟩; conv => whnf)
            refine ⟨_, ret_fnH G0ok hgt [0, 1, 2] rfl rfl rfl rfl rfl ⟨⟨⟨trivial, _, rfl, rfl, rfl⟩, _, rfl, rfl, rfl⟩, _, rfl, rfl, rfl⟩ (outH3 _ _ _) rfl rfl (upd := [(0, some (uC (f (b / 2 ^ (64 * i + q))))), (1, some (uC m)), (2, some (uC a))]) (by rfl), ?_⟩
            conv => whnf
            try (refine ⟨by kernel_rfl, ?_⟩; conv => whnf)
            refine next_round (y := q + 1) G0ok q [(0, some 0), (1, some 1), (2, some 2), (3, some 3)] rfl ⟨⟨_, rfl, conv_nI (ws_i64 (by omega) (by omega))⟩, ⟨_, rfl, conv_nI (rfl)⟩, ⟨_, rfl, conv_eq (by rw [hd, decide_eq_true (show 0 < 2 * v + t by omega)]; rfl) (rfl)⟩, ⟨_, rfl, .ptr rfl⟩, ⟨_, rfl, .fn (.cons (.ptr rfl) (.cons (.ptr rfl) (.cons (.ptr rfl) .nil)))⟩, trivial⟩ ⟨.inr ⟨_, _, rfl, rfl, convs_eq (rfl) (words_noHs _)⟩, .inr ⟨_, _, rfl, rfl, convs_eq rfl (words_noHs _)⟩, .inr ⟨_, _, rfl, rfl, convs_eq rfl (words_noHs _)⟩, .inr ⟨_, _, rfl, rfl, convs_eq (rfl) (words_noHs _)⟩, trivial⟩ (by omega) (by omega)
          · rw [decide_eq_false h1]
            conv => whnf
            try (refine ⟨by kernel_rfl, ?_⟩; conv => whnf)
            have hv0 : v = 0 := by omega
            have ht0 : t = 0 := by omega
            refine next_round (y := q + 1) G0ok q [(0, some 0), (1, some 1), (2, some 2), (3, some 3)] rfl ⟨⟨_, rfl, conv_nI (ws_i64 (by omega) (by omega))⟩, ⟨_, rfl, conv_nI (rfl)⟩, ⟨_, rfl, conv_eq (by rw [hd, hv0, ht0]; rfl) (rfl)⟩, ⟨_, rfl, .ptr rfl⟩, ⟨_, rfl, .fn (.cons (.ptr rfl) (.cons (.ptr rfl) (.cons (.ptr rfl) .nil)))⟩, trivial⟩ ⟨.inr ⟨_, _, rfl, rfl, convs_eq (by rw [hd, hv0, ht0]) (words_noHs _)⟩, .inr ⟨_, _, rfl, rfl, convs_eq rfl (words_noHs _)⟩, .inr ⟨_, _, rfl, rfl, convs_eq rfl (words_noHs _)⟩, .inr ⟨_, _, rfl, rfl, convs_eq (rfl) (words_noHs _)⟩, trivial⟩ (by omega) (by omega)
      · have : k = 0 := by have := of_decide_eq_false hc; omega
        subst this
        conv => whnf
        try (refine ⟨by kernel_rfl, ?_⟩; conv => whnf)
        refine next_round (y := i + 1) G0ok i [(0, some 0), (1, some 1), (2, some 2), (3, some 3)] rfl ⟨⟨_, rfl, conv_nI (ws_i64 (by omega) (by omega))⟩, ⟨_, rfl, conv_eq (rfl) (rfl)⟩, ⟨_, rfl, .ptr rfl⟩, ⟨_, rfl, .fn (.cons (.ptr rfl) (.cons (.ptr rfl) (.cons (.ptr rfl) .nil)))⟩, trivial⟩ ⟨.inr ⟨_, _, rfl, rfl, convs_eq (rfl) (words_noHs _)⟩, .inr ⟨_, _, rfl, rfl, convs_eq rfl (words_noHs _)⟩, .inr ⟨_, _, rfl, rfl, convs_eq rfl (words_noHs _)⟩, .inr ⟨_, _, rfl, rfl, convs_eq (rfl) (words_noHs _)⟩, trivial⟩ (by omega) (by omega)
  · have : j = 0 := by have := of_decide_eq_false hc; omega
    subst this
    conv => whnf
    try (refine ⟨by kernel_rfl, ?_⟩; conv => whnf)
    exact ⟨_, rfl, [(0, some 0), (1, some 1), (2, some 2)], rfl, rfl, .same rfl, ⟨.inr ⟨_, _, rfl, rfl, convs_eq (by rw [Nat.mul_zero, Nat.pow_zero, Nat.div_one]) (words_noHs _)⟩, .inr ⟨_, _, rfl, rfl, convs_eq rfl (words_noHs _)⟩, .inr ⟨_, _, rfl, rfl, convs_eq rfl (words_noHs _)⟩, trivial⟩⟩
end Go.Proofs.YtidkdlaihmpjfaaDoor
