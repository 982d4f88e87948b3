/- wide.DivMod by the engine. -/
import Derived.Test.YtidkdlaihmpjfaaDoorVBit
import Derived.Test.YtidkdlaihmpjfaaDoorVPut
import Derived.Test.YtidkdlaihmpjfaaDoorVEq
import Derived.Test.YtidkdlaihmpjfaaDoorVSub
namespace Go.Proofs.YtidkdlaihmpjfaaDoor
set_option linter.unusedVariables false
set_option linter.unusedSimpArgs false
set_option linter.unusedSectionVars false
open Go.ChangeShapes Go.WideShapes Go.ChangeAt Go.RowKit Go.Joins
set_option maxRecDepth 10000
theorem div_step {a b Q R i : Nat} (h : a / 2 ^ (i + 1) = Q * b + R) : a / 2 ^ i = 2 * Q * b + (2 * R + bitN a i) := by
  rw [bitN_def]
  have e : a / 2 ^ (i + 1) = a / 2 ^ i / 2 := by rw [Nat.pow_succ, Nat.div_div_eq_div_mul]
  rw [e] at h
  have := Nat.div_add_mod (a / 2 ^ i) 2
  rw [h] at this
  rw [← this, Nat.mul_add, Nat.mul_assoc]; omega
theorem bitN_le (a i : Nat) : bitN a i ≤ 1 := by rw [bitN_def]; omega
theorem addS_even (r : Nat) : addS r r % 2 = 0 := by
  rw [addS_def, T256_lit]; omega
/-- The rest with one bit more. -/
theorem rest_lt {r t : Nat} (ht : t ≤ 1) : addS r r + t < T256 := by
  have h1 := addS_lt r r
  have h2 := addS_even r
  rw [T256_lit] at *
  omega
theorem rest_or {r t : Nat} (ht : t ≤ 1) : bitS .or .u64 ((lim (addS r r) 0 : Nat) : Int) (t : Int) = ((lim (addS r r + t) 0 : Nat) : Int) ∧
    lim (addS r r + t) 1 = lim (addS r r) 1 ∧ lim (addS r r + t) 2 = lim (addS r r) 2 ∧ lim (addS r r + t) 3 = lim (addS r r) 3 := by
  have h2 := addS_even r
  have h3 := addS_lt r r
  obtain ⟨a0, a1, a2, a3, k0, k1, k2, k3, hx⟩ := limbs h3
  rw [hx] at h2 ⊢
  clear hx h3
  have e0 : a0 % 2 = 0 := by unfold val4 B64 at h2; omega
  have hlt : a0 + t < B64 := by unfold B64 at *; omega
  have ev : val4 a0 a1 a2 a3 + t = val4 (a0 + t) a1 a2 a3 := by unfold val4; omega
  rw [ev]
  obtain ⟨x0, x1, x2, x3⟩ := lim_val4 k0 k1 k2 k3
  obtain ⟨y0, y1, y2, y3⟩ := lim_val4 hlt k1 k2 k3
  rw [x0, x1, x2, x3, y0, y1, y2, y3]
  refine ⟨?_, rfl, rfl, rfl⟩
  rw [u64_or (by rw [← B64_eq]; exact k0) (by omega)]
  have hor : a0 ||| t = a0 + t := by
    have := Nat.two_pow_add_eq_or_of_lt (i := 1) (b := t) (by omega) (a0 / 2)
    rw [show 2 ^ 1 * (a0 / 2) = a0 by omega] at this
    exact this.symm
  rw [hor]
theorem rest_sub {b R t : Nat} (hR : R < b) (hb : b < T256) (ht : t ≤ 1) (h : addO R R = true ∨ b ≤ addS R R + t) : subS (addS R R + t) b = 2 * R + t - b ∧ 2 * R + t - b < b ∧ b ≤ 2 * R + t := by
  rw [subS_def, addS_def, addO_def] at *
  rw [T256_lit] at *
  simp only [decide_eq_true_eq] at h
  omega
theorem rest_keep {b R t : Nat} (hR : R < b) (hb : b < T256) (ht : t ≤ 1) (h : addO R R = false) (h2 : addS R R + t < b) : addS R R + t = 2 * R + t := by
  rw [addS_def, addO_def] at *
  rw [T256_lit] at *
  simp only [decide_eq_false_iff_not] at h
  omega

/-- One bit more of the quotient. -/
theorem quo_or {Q i d s : Nat} (hi : i = 64 * d + s) (hs : s < 64) (hd : d < 4) (hq : Q * 2 ^ (i + 1) + 2 ^ i < T256) :
    IntKind.u64.wrap (1 * 2 ^ s) = ((2 ^ s : Nat) : Int) ∧ bitS .or .u64 ((lim (Q * 2 ^ (i + 1)) d : Nat) : Int) ((2 ^ s : Nat) : Int) = ((lim (Q * 2 ^ (i + 1) + 2 ^ i) d : Nat) : Int) ∧
    ∀ e, e < 4 → e ≠ d → lim (Q * 2 ^ (i + 1) + 2 ^ i) e = lim (Q * 2 ^ (i + 1)) e := by
  have hB : B64 = 2 ^ (s + 1) * 2 ^ (63 - s) := by rw [B64_eq, ← Nat.pow_add]; congr 1; omega
  have hps : 2 ^ s < B64 := by rw [B64_eq]; exact Nat.pow_lt_pow_right (by decide) hs
  have hv : Q * 2 ^ (i + 1) < T256 := Nat.lt_of_le_of_lt (Nat.le_add_right _ _) hq
  have hl : lim (Q * 2 ^ (i + 1)) d = 2 ^ (s + 1) * (Q % 2 ^ (63 - s)) := by
    rw [lim_def, show Q * 2 ^ (i + 1) = B64 ^ d * (Q * 2 ^ (s + 1)) by
      rw [B64_eq, ← Nat.pow_mul, hi, show 64 * d + s + 1 = 64 * d + (s + 1) by omega, Nat.pow_add]; exact Nat.mul_left_comm _ _ _]
    rw [Nat.mul_div_cancel_left _ (Nat.pow_pos (by decide)), hB, Nat.mul_comm Q, Nat.mul_mod_mul_left]
  have hlt : lim (Q * 2 ^ (i + 1)) d + 2 ^ s < B64 := by
    rw [hl]
    have h1 : Q % 2 ^ (63 - s) + 1 ≤ 2 ^ (63 - s) := Nat.mod_lt _ (Nat.pow_pos (by decide))
    have h2 := Nat.mul_le_mul_left (2 ^ (s + 1)) h1
    rw [← hB, Nat.mul_add, Nat.mul_one] at h2
    have h3 : 2 ^ s < 2 ^ (s + 1) := Nat.pow_lt_pow_right (by decide) (by omega)
    omega
  have hor : lim (Q * 2 ^ (i + 1)) d ||| 2 ^ s = lim (Q * 2 ^ (i + 1)) d + 2 ^ s := by
    rw [hl]
    exact (Nat.two_pow_add_eq_or_of_lt (Nat.pow_lt_pow_right (by decide) (by omega)) _).symm
  have h64 := lim_lt (Q * 2 ^ (i + 1)) d
  have hp : 2 ^ i = B64 ^ d * 2 ^ s := by rw [B64_eq, ← Nat.pow_mul, hi, Nat.pow_add]
  refine ⟨?_, ?_, ?_⟩
  · have : (1 * 2 ^ s : Int) = ((2 ^ s : Nat) : Int) := by simp
    rw [this]
    generalize 2 ^ s = p at *
    simp only [IntKind.wrap, IntKind.signed, IntKind.bits]
    unfold B64 at hps
    simp
    omega
  · rw [u64_or (by rw [← B64_eq]; exact h64) (by rw [← B64_eq]; exact hps), hor, hp, (lim_put hv hd hlt).1]
  · rw [hp]; exact (lim_put hv hd hlt).2.1

theorem divN_ex : ∃ f : Nat → Nat → Nat, ∀ a b, f a b = a / b := ⟨_, fun _ _ => rfl⟩
noncomputable def divN : Nat → Nat → Nat := Classical.choose divN_ex
theorem divN_def (a b : Nat) : divN a b = a / b := Classical.choose_spec divN_ex a b
theorem modN_ex : ∃ f : Nat → Nat → Nat, ∀ a b, f a b = a % b := ⟨_, fun _ _ => rfl⟩
noncomputable def modN : Nat → Nat → Nat := Classical.choose modN_ex
theorem modN_def (a b : Nat) : modN a b = a % b := Classical.choose_spec modN_ex a b
theorem divN_lt {a : Nat} (b : Nat) (ha : a < T256) : divN a b < T256 := by rw [divN_def]; exact Nat.lt_of_le_of_lt (Nat.div_le_self _ _) ha
theorem modN_lt {a : Nat} (b : Nat) (ha : a < T256) : modN a b < T256 := by rw [modN_def]; exact Nat.lt_of_le_of_lt (Nat.mod_le _ _) ha

set_option maxHeartbeats 2000000 in
theorem quo_none (Q i : Nat) : 2 * Q * 2 ^ i = Q * 2 ^ (i + 1) := by rw [Nat.pow_succ, Nat.mul_comm 2 Q, Nat.mul_assoc, Nat.mul_comm 2]
theorem quo_one (Q i : Nat) : (2 * Q + 1) * 2 ^ i = Q * 2 ^ (i + 1) + 2 ^ i := by rw [Nat.add_mul, Nat.one_mul, quo_none]
set_option maxHeartbeats 16000000 in

theorem eq_zero {a : Nat} (ha : a < T256) : EqAgg Tryd.prog .eql 55 (uC a) (words [0, 0, 0, 0]) (decide (a = 0)) := by
  have h := eq_uC ha (b := 0) (by decide)
  rwa [uC_lit (n := 0) (by decide)] at h
theorem ne_zero {a : Nat} (ha : a < T256) : EqAgg Tryd.prog .neq 55 (uC a) (words [0, 0, 0, 0]) (!decide (a = 0)) := by
  have h := ne_uC ha (b := 0) (by decide)
  rwa [uC_lit (n := 0) (by decide)] at h
theorem uV_zero : uV 0 = .agg (words [0, 0, 0, 0]) := by
  have := uC_lit (n := 0) (by decide)
  unfold uC at this
  unfold uV
  rw [this]
theorem limC_getD (v : Nat) {d : Nat} (hd : d < 4) : [lim v 0, lim v 1, lim v 2, lim v 3].getD d 0 = lim v d := by
  have : d = 0 ∨ d = 1 ∨ d = 2 ∨ d = 3 := by omega
  rcases this with rfl | rfl | rfl | rfl <;> rfl
theorem limC_set {v v' d : Nat} (hd : d < 4) (h : ∀ e, e < 4 → e ≠ d → lim v' e = lim v e) : [lim v 0, lim v 1, lim v 2, lim v 3].set d (lim v' d) = [lim v' 0, lim v' 1, lim v' 2, lim v' 3] := by
  have : d = 0 ∨ d = 1 ∨ d = 2 ∨ d = 3 := by omega
  rcases this with rfl | rfl | rfl | rfl
  · rw [h 1 (by omega) (by omega), h 2 (by omega) (by omega), h 3 (by omega) (by omega)]; rfl
  · rw [h 0 (by omega) (by omega), h 2 (by omega) (by omega), h 3 (by omega) (by omega)]; rfl
  · rw [h 0 (by omega) (by omega), h 1 (by omega) (by omega), h 3 (by omega) (by omega)]; rfl
  · rw [h 0 (by omega) (by omega), h 1 (by omega) (by omega), h 2 (by omega) (by omega)]; rfl
theorem uC_set {v v' j d : Nat} (hj : j = d) (hd : d < 4) (h : ∀ e, e < 4 → e ≠ d → lim v' e = lim v e) : (uC v).set j (VV.v (.int .u64 ((lim v' d : Nat) : Int))) = uC v' := by
  unfold uC
  rw [splice_words hj (by simpa using hd), limC_set hd h]
theorem div_zero {a : Nat} (ha : a < T256) : FnV Tryd.prog G0 31 [uV a, uV 0] (.tup [.agg (words [0, 0, 0, 0]), .agg (words [0, 0, 0, 0]), nI .i64 7]) := by
  refine fn_of_vwp Γok Tryd.func31 (by kernel_rfl) rfl (by simp [Tryd.ntmps31]) (wpv_ok Γok (by kernel_rfl) _ _ _ ?_); conv => whnf
  refine ⟨_, eq_zero (a := 0) (by decide), ?_⟩
  rw [decide_eq_true rfl]
  conv => whnf
  try (refine ⟨by kernel_rfl, ?_⟩; conv => whnf)
  exact ⟨_, rfl, rfl⟩
theorem div_pos {a b : Nat} (ha : a < T256) (hb : b < T256) (h0 : 0 < b) : FnV Tryd.prog G0 31 [uV a, uV b] (.tup [uV (divN a b), uV (modN a b), nI .i64 0]) := by
  obtain ⟨n, hn, hn2, hlen⟩ := length_ex ha
  refine fn_of_vwp Γok Tryd.func31 (by kernel_rfl) rfl (by simp [Tryd.ntmps31]) (wpv_ok Γok (by kernel_rfl) _ _ _ ?_); conv => whnf
  refine ⟨_, eq_zero hb, ?_⟩
  rw [decide_eq_false (by omega)]
  conv => whnf
  try (refine ⟨by kernel_rfl, ?_⟩; conv => whnf)
  refine ⟨_, ret_of_fn G0ok (hlen) (by first | rfl | simp only [noHs, noH, nI, bI, Bool.and_self, Bool.and_true, Bool.true_and, ]) (by first | rfl | simp only [noHs, noH, nI, bI, Bool.and_self, Bool.and_true, Bool.true_and, ]), ?_⟩; (conv => whnf); (try (refine ⟨by kernel_rfl, ?_⟩; conv => whnf))
  rw [ws_i64 (x := (n : Int) - 1) (by omega) (by omega)]
  conv => whnf
  try (refine ⟨by kernel_rfl, ?_⟩; conv => whnf)
  refine vloop_invK G0ok [(0, some 0), (1, some 1), (2, some 2), (3, some 3)] 4 (X := Nat) (fun k => [(7, nI .i64 ((k : Int) - 1)), (6, nI .i64 0), (5, .ptr 3 0), (4, .ptr 2 0), (3, .ptr 1 0), (2, .ptr 0 0)])
    (fun k => [(0, some (uC a)), (1, some (uC b)), (2, some (uC (a / 2 ^ k / b * 2 ^ k))), (3, some (uC (a / 2 ^ k % b)))]) (fun k => k ≤ n) (fun k => k) n rfl ⟨⟨_, rfl, conv_nI (rfl)⟩, ⟨_, rfl, conv_nI (rfl)⟩, ⟨_, rfl, .ptr rfl⟩, ⟨_, rfl, .ptr rfl⟩, ⟨_, rfl, .ptr rfl⟩, ⟨_, rfl, .ptr rfl⟩, trivial⟩
    ⟨.inr ⟨_, _, rfl, rfl, convs_eq rfl (words_noHs _)⟩, .inr ⟨_, _, rfl, rfl, convs_eq rfl (words_noHs _)⟩, .inr ⟨_, _, rfl, rfl, convs_eq (by rw [Nat.div_eq_of_lt hn, Nat.zero_div, Nat.zero_mul, uC_lit (n := 0) (by decide)]; rfl) (words_noHs _)⟩, .inr ⟨_, _, rfl, rfl, convs_eq (by rw [Nat.div_eq_of_lt hn, Nat.zero_mod, uC_lit (n := 0) (by decide)]; rfl) (words_noHs _)⟩, trivial⟩ (Nat.le_refl _) ?_
  intro k hk
  dsimp only at hk ⊢
  refine wpv_ok Γok (by kernel_rfl) _ _ _ ?_; conv => whnf
  refine bool_cases (fun hc => ?_) (fun hc => ?_)
  · have hc := of_decide_eq_true hc
    obtain ⟨i, hi⟩ : ∃ i, k = i + 1 := ⟨k - 1, by omega⟩
    subst hi
    have e0 : a / 2 ^ (i + 1) = a / 2 ^ (i + 1) / b * b + a / 2 ^ (i + 1) % b := by rw [Nat.mul_comm]; exact (Nat.div_add_mod _ _).symm
    have hR : a / 2 ^ (i + 1) % b < b := Nat.mod_lt _ h0
    have hst := div_step e0
    have ht := bitN_le a i
    have hQ : a / 2 ^ (i + 1) / b * 2 ^ (i + 1) ≤ a := Nat.le_trans (Nat.mul_le_mul_right _ (Nat.div_le_self _ _)) (Nat.div_mul_le_self _ _)
    refine gen_ex (a / 2 ^ (i + 1) / b) fun Q eQ => ?_
    refine gen_ex (a / 2 ^ (i + 1) % b) fun R eR => ?_
    rw [← eQ] at hst hQ e0 ⊢
    rw [← eR] at hst hR e0 ⊢
    clear eQ eR e0
    have hR2 : R < T256 := by omega
    rw [show ((i + 1 : Nat) : Int) - 1 = (i : Int) from by omega]
    conv => whnf
    try (refine ⟨by kernel_rfl, ?_⟩; conv => whnf)
    refine ⟨_, ret_of_fn G0ok (add_fn hR2 hR2) (by first | rfl | simp only [noHs, noH, nI, bI, Bool.and_self, Bool.and_true, Bool.true_and, ]) (by first | rfl | simp only [noHs, noH, nI, bI, Bool.and_self, Bool.and_true, Bool.true_and, ]), ?_⟩; (conv => whnf); (try (refine ⟨by kernel_rfl, ?_⟩; conv => whnf))
    refine ⟨_, ret_of_fn G0ok (bit_fn ha (by omega)) (by first | rfl | simp only [noHs, noH, nI, bI, Bool.and_self, Bool.and_true, Bool.true_and, ]) (by first | rfl | simp only [noHs, noH, nI, bI, Bool.and_self, Bool.and_true, Bool.true_and, ]), ?_⟩; (conv => whnf); (try (refine ⟨by kernel_rfl, ?_⟩; conv => whnf))
    obtain ⟨q1, q2, q3, q4⟩ := rest_or (r := R) ht
    have hx := rest_lt (r := R) ht
    rw [q1, splice_words (i := 0) (by rfl) (by simp), show [lim (addS R R) 0, lim (addS R R) 1, lim (addS R R) 2, lim (addS R R) 3].set 0 (lim (addS R R + bitN a i) 0) = [lim (addS R R + bitN a i) 0, lim (addS R R + bitN a i) 1, lim (addS R R + bitN a i) 2, lim (addS R R + bitN a i) 3] from by rw [q2, q3, q4]; rfl]
    by_cases ho : addO R R = true
    · rw [ho]
      conv => whnf
      try (refine ⟨by kernel_rfl, ?_⟩; conv => whnf)
      obtain ⟨s1, s2, s3⟩ := rest_sub hR hb ht (.inl ho)
      have hq : Q * 2 ^ (i + 1) + 2 ^ i < T256 := by
        rw [← quo_one]
        refine Nat.lt_of_le_of_lt ?_ ha
        have : 2 * Q + 1 ≤ a / 2 ^ i := by
          rw [hst]
          have h1 : 2 * Q * 1 ≤ 2 * Q * b := Nat.mul_le_mul_left _ h0
          rw [Nat.mul_one] at h1
          generalize 2 * Q * b = qb at h1
          omega
        exact Nat.le_trans (Nat.mul_le_mul_right _ this) (Nat.div_mul_le_self _ _)
      obtain ⟨p1, p2, p3⟩ := quo_or (i := i) (d := i / 64) (s := i % 64) (by omega) (by omega) (by omega) hq
      have d1 : a / 2 ^ i = (2 * Q + 1) * b + (2 * R + bitN a i - b) := by rw [hst, Nat.add_mul, Nat.one_mul]; omega
      have d2 : a / 2 ^ i / b = 2 * Q + 1 := by rw [d1, Nat.mul_comm, Nat.mul_add_div h0, Nat.div_eq_of_lt s2, Nat.add_zero]
      have d3 : a / 2 ^ i % b = 2 * R + bitN a i - b := by rw [d1, Nat.mul_comm, Nat.mul_add_mod, Nat.mod_eq_of_lt s2]
      have hl64 := lim_lt (Q * 2 ^ (i + 1)) (i / 64)
      refine ⟨_, ret_of_fn G0ok (sub_fn hx hb) (by first | rfl | simp only [noHs, noH, nI, bI, Bool.and_self, Bool.and_true, Bool.true_and, ]) (by first | rfl | simp only [noHs, noH, nI, bI, Bool.and_self, Bool.and_true, Bool.true_and, ]), ?_⟩; (conv => whnf); (try (refine ⟨by kernel_rfl, ?_⟩; conv => whnf))
      rw [s1, Int.tdiv_eq_ediv_of_nonneg (by omega), ws_i64 (by omega) (by omega)]
      conv => whnf
      try (refine ⟨by kernel_rfl, ?_⟩; conv => whnf)
      refine bindP_intro (if_pos (inB_ok (by omega) (by omega))) ?_; conv => whnf
      refine bindP_intro (words_ix (i := i / 64) (by dsimp only; omega) (by simp; omega)) ?_
      conv => whnf
      try (refine ⟨by kernel_rfl, ?_⟩; conv => whnf)
      rw [limC_getD _ (by omega), Int.tmod_eq_emod_of_nonneg (by omega), show (i : Int) % 64 = ((i % 64 : Nat) : Int) from by omega]
      conv => whnf
      try (refine ⟨by kernel_rfl, ?_⟩; conv => whnf)
      rw [shl1_u64 (n := i % 64) (by omega), p2]
      conv => whnf
      try (refine ⟨by kernel_rfl, ?_⟩; conv => whnf)
      refine bindP_intro (if_pos (inB_ok (by omega) (by omega))) ?_; conv => whnf
      refine onlyIf_intro (by simp [uC, words_length]; omega) ?_
      conv => whnf
      try (refine ⟨by kernel_rfl, ?_⟩; conv => whnf)
      rw [uC_set (d := i / 64) (by dsimp only; omega) (by omega) p3]
      conv => whnf
      try (refine ⟨by kernel_rfl, ?_⟩; conv => whnf)
      refine next_round (y := i + 1) G0ok i [(0, some 0), (1, some 1), (2, some 2), (3, some 3)] rfl ⟨⟨_, rfl, conv_nI (ws_i64 (by omega) (by omega))⟩, ⟨_, rfl, conv_nI (rfl)⟩, ⟨_, rfl, .ptr rfl⟩, ⟨_, rfl, .ptr rfl⟩, ⟨_, rfl, .ptr rfl⟩, ⟨_, rfl, .ptr rfl⟩, trivial⟩ ⟨.inr ⟨_, _, rfl, rfl, convs_eq rfl (words_noHs _)⟩, .inr ⟨_, _, rfl, rfl, convs_eq rfl (words_noHs _)⟩, .inr ⟨_, _, rfl, rfl, convs_eq (by rw [d2, quo_one]) (words_noHs _)⟩, .inr ⟨_, _, rfl, rfl, convs_eq (by rw [d3]; rfl) (words_noHs _)⟩, trivial⟩ (by omega) (by omega)
    · rw [show addO R R = false from by simpa using ho]
      conv => whnf
      try (refine ⟨by kernel_rfl, ?_⟩; conv => whnf)
      refine ⟨_, ret_of_fn G0ok (cmp_fn hx hb) (by first | rfl | simp only [noHs, noH, nI, bI, Bool.and_self, Bool.and_true, Bool.true_and, ]) (by first | rfl | simp only [noHs, noH, nI, bI, Bool.and_self, Bool.and_true, Bool.true_and, ]), ?_⟩; (conv => whnf); (try (refine ⟨by kernel_rfl, ?_⟩; conv => whnf))
      by_cases hcmp : cmpN (addS R R + bitN a i) b ≥ 0
      · rw [decide_eq_true hcmp]
        conv => whnf
        try (refine ⟨by kernel_rfl, ?_⟩; conv => whnf)
        obtain ⟨s1, s2, s3⟩ := rest_sub hR hb ht (.inr (cmpN_ge.1 hcmp))
        have hq : Q * 2 ^ (i + 1) + 2 ^ i < T256 := by
          rw [← quo_one]
          refine Nat.lt_of_le_of_lt ?_ ha
          have : 2 * Q + 1 ≤ a / 2 ^ i := by
            rw [hst]
            have h1 : 2 * Q * 1 ≤ 2 * Q * b := Nat.mul_le_mul_left _ h0
            rw [Nat.mul_one] at h1
            generalize 2 * Q * b = qb at h1
            omega
          exact Nat.le_trans (Nat.mul_le_mul_right _ this) (Nat.div_mul_le_self _ _)
        obtain ⟨p1, p2, p3⟩ := quo_or (i := i) (d := i / 64) (s := i % 64) (by omega) (by omega) (by omega) hq
        have d1 : a / 2 ^ i = (2 * Q + 1) * b + (2 * R + bitN a i - b) := by rw [hst, Nat.add_mul, Nat.one_mul]; omega
        have d2 : a / 2 ^ i / b = 2 * Q + 1 := by rw [d1, Nat.mul_comm, Nat.mul_add_div h0, Nat.div_eq_of_lt s2, Nat.add_zero]
        have d3 : a / 2 ^ i % b = 2 * R + bitN a i - b := by rw [d1, Nat.mul_comm, Nat.mul_add_mod, Nat.mod_eq_of_lt s2]
        have hl64 := lim_lt (Q * 2 ^ (i + 1)) (i / 64)
        refine ⟨_, ret_of_fn G0ok (sub_fn hx hb) (by first | rfl | simp only [noHs, noH, nI, bI, Bool.and_self, Bool.and_true, Bool.true_and, ]) (by first | rfl | simp only [noHs, noH, nI, bI, Bool.and_self, Bool.and_true, Bool.true_and, ]), ?_⟩; (conv => whnf); (try (refine ⟨by kernel_rfl, ?_⟩; conv => whnf))
        rw [s1, Int.tdiv_eq_ediv_of_nonneg (by omega), ws_i64 (by omega) (by omega)]
        conv => whnf
        try (refine ⟨by kernel_rfl, ?_⟩; conv => whnf)
        refine bindP_intro (if_pos (inB_ok (by omega) (by omega))) ?_; conv => whnf
        refine bindP_intro (words_ix (i := i / 64) (by dsimp only; omega) (by simp; omega)) ?_
        conv => whnf
        try (refine ⟨by kernel_rfl, ?_⟩; conv => whnf)
        rw [limC_getD _ (by omega), Int.tmod_eq_emod_of_nonneg (by omega), show (i : Int) % 64 = ((i % 64 : Nat) : Int) from by omega]
        conv => whnf
        try (refine ⟨by kernel_rfl, ?_⟩; conv => whnf)
        rw [shl1_u64 (n := i % 64) (by omega), p2]
        conv => whnf
        try (refine ⟨by kernel_rfl, ?_⟩; conv => whnf)
        refine bindP_intro (if_pos (inB_ok (by omega) (by omega))) ?_; conv => whnf
        refine onlyIf_intro (by simp [uC, words_length]; omega) ?_
        conv => whnf
        try (refine ⟨by kernel_rfl, ?_⟩; conv => whnf)
        rw [uC_set (d := i / 64) (by dsimp only; omega) (by omega) p3]
        conv => whnf
        try (refine ⟨by kernel_rfl, ?_⟩; conv => whnf)
        refine next_round (y := i + 1) G0ok i [(0, some 0), (1, some 1), (2, some 2), (3, some 3)] rfl ⟨⟨_, rfl, conv_nI (ws_i64 (by omega) (by omega))⟩, ⟨_, rfl, conv_nI (rfl)⟩, ⟨_, rfl, .ptr rfl⟩, ⟨_, rfl, .ptr rfl⟩, ⟨_, rfl, .ptr rfl⟩, ⟨_, rfl, .ptr rfl⟩, trivial⟩ ⟨.inr ⟨_, _, rfl, rfl, convs_eq rfl (words_noHs _)⟩, .inr ⟨_, _, rfl, rfl, convs_eq rfl (words_noHs _)⟩, .inr ⟨_, _, rfl, rfl, convs_eq (by rw [d2, quo_one]) (words_noHs _)⟩, .inr ⟨_, _, rfl, rfl, convs_eq (by rw [d3]; rfl) (words_noHs _)⟩, trivial⟩ (by omega) (by omega)
      · rw [decide_eq_false hcmp]
        conv => whnf
        try (refine ⟨by kernel_rfl, ?_⟩; conv => whnf)
        have hlt : addS R R + bitN a i < b := Nat.lt_of_not_le fun h => hcmp (cmpN_ge.2 h)
        have hkeep := rest_keep hR hb ht (by simpa using ho) hlt
        rw [hkeep] at hlt
        have d2 : a / 2 ^ i / b = 2 * Q := by rw [hst, Nat.mul_comm (2 * Q), Nat.mul_add_div h0, Nat.div_eq_of_lt hlt, Nat.add_zero]
        have d3 : a / 2 ^ i % b = 2 * R + bitN a i := by rw [hst, Nat.mul_comm (2 * Q), Nat.mul_add_mod, Nat.mod_eq_of_lt hlt]
        refine next_round (y := i + 1) G0ok i [(0, some 0), (1, some 1), (2, some 2), (3, some 3)] rfl ⟨⟨_, rfl, conv_nI (ws_i64 (by omega) (by omega))⟩, ⟨_, rfl, conv_nI (rfl)⟩, ⟨_, rfl, .ptr rfl⟩, ⟨_, rfl, .ptr rfl⟩, ⟨_, rfl, .ptr rfl⟩, ⟨_, rfl, .ptr rfl⟩, trivial⟩ ⟨.inr ⟨_, _, rfl, rfl, convs_eq rfl (words_noHs _)⟩, .inr ⟨_, _, rfl, rfl, convs_eq rfl (words_noHs _)⟩, .inr ⟨_, _, rfl, rfl, convs_eq (by rw [d2, quo_none]) (words_noHs _)⟩, .inr ⟨_, _, rfl, rfl, convs_eq (by rw [d3, ← hkeep]; rfl) (words_noHs _)⟩, trivial⟩ (by omega) (by omega)
  · have hc := of_decide_eq_false hc
    have : k = 0 := by omega
    subst this
    rw [Nat.pow_zero, Nat.div_one, Nat.mul_one, ← divN_def, ← modN_def]
    conv => whnf
    try (refine ⟨by kernel_rfl, ?_⟩; conv => whnf)
    exact ⟨_, rfl, rfl⟩
end Go.Proofs.YtidkdlaihmpjfaaDoor
