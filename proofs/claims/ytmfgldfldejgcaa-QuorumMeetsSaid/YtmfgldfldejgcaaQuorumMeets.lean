/- QuorumMeets. -/
import Derived.Test.YtmfgldfldejgcaaVLaw
import Derived.WalkArith
import Derived.IntWalk
namespace Go.Proofs.Ytmfgldfldejgcaa
set_option linter.unusedVariables false
set_option linter.unusedSimpArgs false
set_option linter.unusedSectionVars false
open Go.ChangeShapes Go.WideShapes Go.ChangeAt Go.RowKit Go.Joins
set_option maxRecDepth 10000
theorem picked_fn (n m : Int) (hm : 0 < m) (hm2 : m ≤ 9223372036854775807) : FnV Try.prog G0 15 [nI .i64 n, nI .i64 m] (nI .i64 (n % m)) := by
  refine fn_of_vwp Γok Try.func15 (by kernel_rfl) rfl (by simp [Try.ntmps15]) (wpv_ok Γok (by kernel_rfl) _ _ _ ?_); conv => whnf
  refine bindP_intro (if_neg (by omega)) ?_
  conv => whnf
  refine bool_cases (fun h => ?_) (fun h => ?_)
  · conv => whnf
    refine ⟨_, rfl, congrArg (fun x => some (nI .i64 x)) ?_⟩
    have h := of_decide_eq_true h
    have h1 := Int.emod_nonneg n (show m ≠ 0 by omega)
    have h2 := Int.emod_lt_of_pos n hm
    have : n.tmod m + m = n % m := by
      rw [Int.tmod_eq_emod] at *
      split at h <;> rename_i hc
      · omega
      · rw [if_neg hc]; omega
    rw [this, ws_i64 (by omega) (by omega)]
  · conv => whnf
    refine ⟨_, rfl, congrArg (fun x => some (nI .i64 x)) ?_⟩
    have h := of_decide_eq_false h
    have h1 := Int.emod_nonneg n (show m ≠ 0 by omega)
    rw [Int.tmod_eq_emod] at *
    split at h <;> rename_i hc
    · rw [if_pos hc]; omega
    · have := Int.emod_lt_of_pos n hm
      rw [if_neg hc]; omega
theorem need_fn (n : Int) (h1 : 0 ≤ n) (h2 : n ≤ 19) : FnV Try.prog G0 16 [nI .i64 n] (.tup [nI .i64 (2 * n / 3 + 1), nI .i64 0]) := by
  refine fn_of_vwp Γok Try.func16 (by kernel_rfl) rfl (by simp [Try.ntmps16]) (wpv_ok Γok (by kernel_rfl) _ _ _ ?_); conv => whnf
  rw [decide_eq_false (show ¬ n < 0 by omega)]
  conv => whnf
  rw [decide_eq_false (show ¬ n > 19 by omega)]
  conv => whnf
  refine ⟨_, rfl, congrArg (fun x => some (VV.tup [nI .i64 x, nI .i64 0])) ?_⟩
  rw [ws_i64 (x := 2 * n) (by omega) (by omega), Int.tdiv_eq_ediv_of_nonneg (by omega), ws_i64 (x := 2 * n / 3) (by omega) (by omega), ws_i64 (by omega) (by omega)]
theorem need_far (n : Int) (h1 : 19 < n) : FnV Try.prog G0 16 [nI .i64 n] (.tup [nI .i64 0, nI .i64 6]) := by
  refine fn_of_vwp Γok Try.func16 (by kernel_rfl) rfl (by simp [Try.ntmps16]) (wpv_ok Γok (by kernel_rfl) _ _ _ ?_); conv => whnf
  rw [decide_eq_false (show ¬ n < 0 by omega)]
  conv => whnf
  rw [decide_eq_true (show n > 19 by omega)]
  conv => whnf
  exact ⟨_, rfl, rfl⟩
def onesN : Nat → Nat → Nat
  | 0, _ => 0
  | f + 1, n => n % 2 + onesN f (n / 2)
theorem onesN_le : ∀ f n, onesN f n ≤ f
  | 0, _ => Nat.le_refl _
  | f + 1, n => by have := onesN_le f (n / 2); simp only [onesN]; omega
theorem onesN_zero : ∀ f, onesN f 0 = 0
  | 0 => rfl
  | f + 1 => by simp [onesN, onesN_zero f]
theorem ones_fn (n : Nat) (h : n < 2 ^ 62) : FnV Try.prog G0 17 [nI .i64 n] (nI .i64 (onesN 62 n)) := by
  refine fn_of_vwp Γok Try.func17 (by kernel_rfl) rfl (by simp [Try.ntmps17]) (wpv_ok Γok (by kernel_rfl) _ _ _ ?_); conv => whnf
  refine vloop_invP (X := Nat × Nat × Nat) (fun x => ⟨[(0, nI .i64 x.2.1), (3, nI .i64 x.2.2)], Try.f17.ntmps, [], 0⟩)
    (fun x => x.2.1 < 2 ^ x.1 ∧ x.2.2 + onesN x.1 x.2.1 = onesN 62 n ∧ x.1 ≤ 62) (fun x => x.1) (62, n, 0)
    (sub_conv G0ok [] rfl rfl ⟨⟨_, rfl, conv_nI rfl⟩, ⟨_, rfl, conv_nI rfl⟩, trivial⟩ trivial) ⟨h, by simp, Nat.le_refl _⟩ ?_
  rintro ⟨f, m, k⟩ ⟨h1, h2, h3⟩
  dsimp only at h1 h2 h3 ⊢
  refine wpv_ok Γok (by kernel_rfl) _ _ _ ?_; conv => whnf
  have hk := onesN_le 62 n
  have hm : m < 2 ^ 62 := Nat.lt_of_lt_of_le h1 (Nat.pow_le_pow_right (by omega) h3)
  refine bool_cases (fun hc => ?_) (fun hc => ?_)
  · conv => whnf
    have hc := of_decide_eq_true hc
    cases f with
    | zero => simp at h1; omega
    | succ f =>
      refine ⟨(f, m / 2, k + m % 2), sub_conv G0ok [] rfl rfl ⟨⟨_, rfl, conv_nI ?_⟩, ⟨_, rfl, conv_nI ?_⟩, trivial⟩ trivial, ⟨?_, ?_, ?_⟩, ?_⟩
      · rw [Int.tdiv_eq_ediv_of_nonneg (by omega), ws_i64 (by omega) (by omega)]; rfl
      · rw [Int.tmod_eq_emod_of_nonneg (by omega)]
        rw [ws_i64 (by omega) (by omega)]; push_cast; rfl
      · show m / 2 < 2 ^ f
        rw [Nat.pow_succ] at h1; omega
      · simp only [onesN] at h2 ⊢; omega
      · show f ≤ 62; omega
      · show f < f + 1; omega
  · conv => whnf
    have hc := of_decide_eq_false hc
    refine ⟨_, rfl, congrArg (fun x => some (nI .i64 x)) ?_⟩
    have : m = 0 := by omega
    subst this
    rw [onesN_zero] at h2
    omega
def bothN : Nat → Nat → Nat → Nat
  | 0, _, _ => 0
  | k + 1, x, y => (if x % 2 = 1 ∧ y % 2 = 1 then 1 else 0) + bothN k (x / 2) (y / 2)
theorem bothN_last : ∀ k x y, bothN (k + 1) x y = bothN k x y + (if x / 2 ^ k % 2 = 1 ∧ y / 2 ^ k % 2 = 1 then 1 else 0)
  | 0, x, y => by simp [bothN]
  | k + 1, x, y => by
    rw [bothN, bothN_last k (x / 2) (y / 2), bothN, Nat.div_div_eq_div_mul, Nat.div_div_eq_div_mul, ← Nat.pow_succ', Nat.add_assoc]
theorem bothN_le : ∀ k x y, bothN k x y ≤ k
  | 0, _, _ => Nat.le_refl _
  | k + 1, x, y => by have := bothN_le k (x / 2) (y / 2); simp only [bothN]; split <;> omega
theorem meets : ∀ k f x y, x < 2 ^ k → y < 2 ^ k → onesN f x + onesN f y ≤ k + bothN k x y
  | 0, f, x, y, hx, hy => by
    have : x = 0 := by simpa using hx
    have : y = 0 := by simpa using hy
    subst x y
    simp [onesN_zero]
  | k + 1, 0, x, y, hx, hy => by simp [onesN]
  | k + 1, f + 1, x, y, hx, hy => by
    have h := meets k f (x / 2) (y / 2) (by rw [Nat.pow_succ] at hx; omega) (by rw [Nat.pow_succ] at hy; omega)
    simp only [onesN, bothN]
    split <;> omega
theorem and_one {x : Nat} (h : x < 2 ^ 62) : bitS .and .i64 (x : Int) 1 = ((x % 2 : Nat) : Int) := by
  have := bitS_and (k := .i64) (x := x) (y := 1) (by simp only [IntKind.bits]; omega) (by simp only [IntKind.bits]; omega)
  rw [Nat.and_one_is_mod] at this
  exact this.trans (wrap_i64 (by omega) (by omega))
theorem beq1_t {m : Nat} (h : ((m : Int) == 1) = true) : m = 1 := by have := eq_of_beq h; omega
theorem beq1_f {m : Nat} (h : ((m : Int) == 1) = false) : ¬ m = 1 := fun e => by subst e; cases h
theorem fnQuorumMeets (n a b : Int) (_ : I64 n) (_ : I64 a) (_ : I64 b) : FnV Try.prog G0 3 [nI .i64 n, nI .i64 a, nI .i64 b] (bI true) := by
  refine fn_of_vwp Γok Try.func3 (by kernel_rfl) rfl (by simp [Try.ntmps3]) (wpv_ok Γok (by kernel_rfl) _ _ _ ?_); conv => whnf
  refine ⟨_, ret_of_fn G0ok (picked_fn n 19 (by omega) (by omega)) (by rfl) rfl, ?_⟩
  conv => whnf
  have hk1 := Int.emod_nonneg n (show (19 : Int) ≠ 0 by omega)
  have hk2 := Int.emod_lt_of_pos n (show (0 : Int) < 19 by omega)
  obtain ⟨k, hk⟩ : ∃ k : Nat, 1 + n % 19 = k := ⟨(1 + n % 19).toNat, by omega⟩
  rw [ws_i64 (x := 1 + n % 19) (by omega) (by omega), hk]
  have p1 : 0 < 2 ^ k := Nat.pow_pos (by omega)
  have p2 : 2 ^ k < 2 ^ 62 := Nat.pow_lt_pow_right (by omega) (by omega)
  generalize hp : 2 ^ k = p at *
  conv => whnf
  rw [shl_one (n := k) (by omega), hp]
  refine ⟨_, ret_of_fn G0ok (picked_fn a p (by omega) (by omega)) (by rfl) rfl, ?_⟩
  conv => whnf
  conv => whnf
  rw [shl_one (n := k) (by omega), hp]
  refine ⟨_, ret_of_fn G0ok (picked_fn b p (by omega) (by omega)) (by rfl) rfl, ?_⟩
  conv => whnf
  refine ⟨by kernel_rfl, ?_⟩
  conv => whnf
  refine ⟨_, ret_of_fn G0ok (need_fn k (by omega) (by omega)) (by rfl) rfl, ?_⟩; conv => whnf
  rw [ws_i64 (x := 19 + (k : Int)) (by omega) (by omega)]
  refine ⟨_, ret_of_fn G0ok (need_far (19 + k) (by omega)) (by rfl) rfl, ?_⟩; conv => whnf
  obtain ⟨x, hx⟩ : ∃ x : Nat, a % p = x := ⟨(a % p).toNat, by have := Int.emod_nonneg a (show (p : Int) ≠ 0 by omega); omega⟩
  obtain ⟨y, hy⟩ : ∃ x : Nat, b % p = x := ⟨(b % p).toNat, by have := Int.emod_nonneg b (show (p : Int) ≠ 0 by omega); omega⟩
  have hx2 : x < p := by have := Int.emod_lt_of_pos a (show 0 < (p : Int) by omega); omega
  have hy2 : y < p := by have := Int.emod_lt_of_pos b (show 0 < (p : Int) by omega); omega
  rw [hx, hy]
  obtain ⟨need, hneed⟩ : ∃ m : Nat, 2 * (k : Int) / 3 + 1 = m := ⟨(2 * (k : Int) / 3 + 1).toNat, by omega⟩
  rw [hneed]
  refine vloop_invP (X := Nat × Nat) (fun z => ⟨[(39, nI .i64 z.1), (38, nI .i64 k), (7, nI .i64 k), (8, nI .i64 x), (9, nI .i64 y), (10, nI .i64 need), (11, nI .i64 0), (13, nI .i64 6), (14, nI .i64 z.2)], Try.f3.ntmps, [], 0⟩)
    (fun z => z.1 ≤ k ∧ z.2 = bothN z.1 x y) (fun z => k - z.1) (0, 0)
    (sub_conv G0ok [] rfl rfl (by refine ⟨⟨_, rfl, ?_⟩, ⟨_, rfl, ?_⟩, ⟨_, rfl, ?_⟩, ⟨_, rfl, ?_⟩, ⟨_, rfl, ?_⟩, ⟨_, rfl, ?_⟩, ⟨_, rfl, ?_⟩, ⟨_, rfl, ?_⟩, ⟨_, rfl, ?_⟩, trivial⟩ <;> exact conv_nI rfl) trivial) ⟨Nat.zero_le _, rfl⟩ ?_
  rintro ⟨i, both⟩ ⟨h1, h2⟩
  dsimp only at h1 h2 ⊢
  have hb := bothN_le i x y
  refine wpv_ok Γok (by kernel_rfl) _ _ _ ?_; conv => whnf
  refine bool_cases (fun hc => ?_) (fun hc => ?_)
  · have hc := of_decide_eq_true hc
    conv => whnf
    have hx3 : x / 2 ^ i < 2 ^ 62 := Nat.lt_of_le_of_lt (Nat.div_le_self _ _) (by omega)
    have hy3 : y / 2 ^ i < 2 ^ 62 := Nat.lt_of_le_of_lt (Nat.div_le_self _ _) (by omega)
    rw [shr_val (k := .i64) (x := x) (n := i) (by simp only [IntKind.bits]; omega), and_one hx3]
    have hl := bothN_last i x y
    cases d1 : ((x / 2 ^ i % 2 : Nat) : Int) == 1
    · conv => whnf
      have d1 := beq1_f d1
      rw [if_neg (fun h => d1 h.1)] at hl
      refine ⟨(i + 1, both), sub_conv G0ok [] rfl rfl (by refine ⟨⟨_, rfl, ?_⟩, ⟨_, rfl, ?_⟩, ⟨_, rfl, ?_⟩, ⟨_, rfl, ?_⟩, ⟨_, rfl, ?_⟩, ⟨_, rfl, ?_⟩, ⟨_, rfl, ?_⟩, ⟨_, rfl, ?_⟩, ⟨_, rfl, ?_⟩, trivial⟩ <;> first | exact conv_nI rfl | exact conv_nI (ws_i64 (by omega) (by omega))) trivial, ⟨?_, ?_⟩, ?_⟩
      · show i + 1 ≤ k; omega
      · show both = bothN (i + 1) x y; omega
      · show k - (i + 1) < k - i; omega
    · conv => whnf
      rw [shr_val (k := .i64) (x := y) (n := i) (by simp only [IntKind.bits]; omega), and_one hy3]
      have d1 := beq1_t d1
      cases d2 : ((y / 2 ^ i % 2 : Nat) : Int) == 1
      · conv => whnf
        have d2 := beq1_f d2
        rw [if_neg (fun h => d2 h.2)] at hl
        refine ⟨(i + 1, both), sub_conv G0ok [] rfl rfl (by refine ⟨⟨_, rfl, ?_⟩, ⟨_, rfl, ?_⟩, ⟨_, rfl, ?_⟩, ⟨_, rfl, ?_⟩, ⟨_, rfl, ?_⟩, ⟨_, rfl, ?_⟩, ⟨_, rfl, ?_⟩, ⟨_, rfl, ?_⟩, ⟨_, rfl, ?_⟩, trivial⟩ <;> first | exact conv_nI rfl | exact conv_nI (ws_i64 (by omega) (by omega))) trivial, ⟨?_, ?_⟩, ?_⟩
        · show i + 1 ≤ k; omega
        · show both = bothN (i + 1) x y; omega
        · show k - (i + 1) < k - i; omega
      · conv => whnf
        have d2 := beq1_t d2
        rw [if_pos ⟨d1, d2⟩] at hl
        refine ⟨(i + 1, both + 1), sub_conv G0ok [] rfl rfl (by refine ⟨⟨_, rfl, ?_⟩, ⟨_, rfl, ?_⟩, ⟨_, rfl, ?_⟩, ⟨_, rfl, ?_⟩, ⟨_, rfl, ?_⟩, ⟨_, rfl, ?_⟩, ⟨_, rfl, ?_⟩, ⟨_, rfl, ?_⟩, ⟨_, rfl, ?_⟩, trivial⟩ <;> first | exact conv_nI rfl | exact conv_nI (ws_i64 (by omega) (by omega))) trivial, ⟨?_, ?_⟩, ?_⟩
        · show i + 1 ≤ k; omega
        · show both + 1 = bothN (i + 1) x y; omega
        · show k - (i + 1) < k - i; omega
  · have hc := of_decide_eq_false hc
    conv => whnf
    have hi : i = k := by omega
    subst hi
    have hm := meets i 62 x y (by omega) (by omega)
    rw [decide_eq_true (show (need : Int) ≥ 1 by omega)]
    conv => whnf
    rw [decide_eq_true (show (need : Int) ≤ (i : Int) by omega)]
    conv => whnf
    rw [ws_i64 (x := 3 * (need : Int)) (by omega) (by omega), ws_i64 (x := 2 * (i : Int)) (by omega) (by omega), decide_eq_true (show 3 * (need : Int) > 2 * (i : Int) by omega)]
    refine ⟨_, ret_of_fn G0ok (ones_fn x (by omega)) (by rfl) rfl, ?_⟩; conv => whnf
    cases d1 : decide ((onesN 62 x : Int) < need)
    · refine ⟨_, ret_of_fn G0ok (ones_fn y (by omega)) (by rfl) rfl, ?_⟩; conv => whnf
      cases d2 : decide ((onesN 62 y : Int) < need)
      · have d1 := of_decide_eq_false d1
        have d2 := of_decide_eq_false d2
        conv => whnf
        rw [ws_i64 (x := 3 * (both : Int)) (by omega) (by omega), decide_eq_true (show 3 * (both : Int) > (i : Int) by omega)]
        exact ⟨_, rfl, rfl⟩
      · conv => whnf
        exact ⟨_, rfl, rfl⟩
    · conv => whnf
      exact ⟨_, rfl, rfl⟩
namespace lawQuorumMeets
set_option linter.unusedVariables false
set_option maxRecDepth 100000 in
theorem lifted (os : Os) (started : os.Started) (H : Type) (enc : TypeId × Value → H) :
    ReturnsInHanded {} Try.checked os 3 .any (Rows.quorumMeetsSpec.pre6 enc Try.prog Try.f3 Rows.quorumMeetsRow.domain false) (Rows.quorumMeetsSpec.post enc Try.prog Try.f3 false true false false) := by
  refine returnsInHanded_of_change (C := Try.checked) rowOwn started (by kernel_rfl) Try.func3
    (ChangeSpec.witness6 (enc := enc) (C := Try.checked) false ⟨#[], #[.int .i64 0, .int .i64 0, .int .i64 0], []⟩ 8 (by kernel_rfl) (by kernel_rfl) (by kernel_rfl) (by kernel_rfl)) ?_
  intro W base args ds gs before hval0 hW hcnd _
  have hval : ∀ (j : Nat) t v, Try.f3.params[j]? = some t → args[j]? = some v → Value.okWide Try.prog W .any base t v := hval0
  have hW' := hW
  obtain ⟨p, q, hA0, hV, rfl, hfz, hnd⟩ := hW
  have hA : DataW.TrodAll enc Try.prog W 0 (fun _ => true) true Try.f3.params.toList args.toList ds p := hA0
  rw [Try.params3] at hA hval
  obtain ⟨v0, vs0, d0, ds0, p0, q0, hargs, rfl, rfl, h0, r0⟩ := trodAll_cons hA
  obtain ⟨v1, vs1, d1, ds1, p1, q1, rfl, rfl, rfl, h1, r1⟩ := trodAll_cons r0
  obtain ⟨v2, vs2, d2, ds2, p2, q2, rfl, rfl, rfl, h2, r2⟩ := trodAll_cons r1
  obtain ⟨rfl, rfl, rfl⟩ := trodAll_nil r2
  obtain rfl : args = #[v0, v1, v2] := by cases args; simp_all
  obtain ⟨rfl, rfl⟩ := trodVars_none hV
  obtain ⟨a0, rfl, rfl, rfl, w0⟩ := open_int Try.underlying3 (hval 0 3 v0 rfl rfl) h0
  obtain ⟨a1, rfl, rfl, rfl, w1⟩ := open_int Try.underlying3 (hval 1 3 v1 rfl rfl) h1
  obtain ⟨a2, rfl, rfl, rfl, w2⟩ := open_int Try.underlying3 (hval 2 3 v2 rfl rfl) h2
  clear hA0 hval0
  refine (calls_of_fn Try.func3 (by kernel_rfl) rfl (fnQuorumMeets a0 a1 a2 (bounds_i64 w0) (bounds_i64 w1) (bounds_i64 w2)) (fun _ _ h => by cases h) (VRs.cons rfl (VRs.cons rfl (VRs.cons rfl VRs.snoc_nil)))).mono fun e W' ⟨he, bel⟩ => ?_
  subst he
  exact ⟨_, rfl, _, _, _, [], _, [], hW', trodAll_mk1 (shut_bool Try.underlying4 _), (trodAll_cons_mk (shut_int Try.underlying3 w0) (trodAll_cons_mk (shut_int Try.underlying3 w1) (trodAll_cons_mk (shut_int Try.underlying3 w2) trodAll_mk0))), rfl, bel.frame _, fun h => by cases h⟩
theorem over : Rows.quorumMeetsRow.holds Try.pinned (OpenSpec.ofChange Rows.quorumMeetsSpec) :=
  OpenClaim.holds_of_wide 3 Try.f3 rfl rfl rfl rfl rfl rfl rfl ⟨rfl, rfl, rfl, rfl, rfl⟩ rfl rfl rfl rfl rfl (by kernel_rfl) Try.func3 (by kernel_rfl)
    (of_decide_eq_true (by kernel_rfl)) (by unfold Func.isWrapper; first | (rw [if_pos (by decide +kernel)]; kernel_rfl) | (rw [if_neg (by decide +kernel)]; exact ⟨rfl, rfl⟩))
    (fun os started H enc _ => lifted os started H enc)
theorem proved : Rows.QuorumMeetsSaid := over
end lawQuorumMeets

end Go.Proofs.Ytmfgldfldejgcaa
