/- wide.Cmp by the engine. -/
import Derived.Test.YtlecdiopokalgaaBUa
import Derived.WalkKit
import Derived.WalkSpells
import Derived.WalkLawsBesides
import Derived.Laws.Externs
import Derived.Test.YtlecdiopokalgaaShelf
import Derived.Laws.BitsAllLaws
namespace Go.Proofs.Ytlecdiopokalgaa
set_option linter.unusedVariables false
set_option linter.unusedSimpArgs false
set_option linter.unusedSectionVars false
open Go.ChangeShapes Go.WideShapes Go.ChangeAt Go.RowKit Go.Joins
set_option maxRecDepth 10000
theorem cmpN_ex : ∃ f : Nat → Nat → Int, ∀ a b, f a b = if a < b then -1 else if b < a then 1 else 0 := ⟨_, fun _ _ => rfl⟩
noncomputable def cmpN : Nat → Nat → Int := Classical.choose cmpN_ex
theorem cmpN_def (a b : Nat) : cmpN a b = if a < b then -1 else if b < a then 1 else 0 := Classical.choose_spec cmpN_ex a b
theorem cmpN_lt {a b : Nat} (h : a < b) : cmpN a b = -1 := by rw [cmpN_def]; rw [if_pos h]
theorem cmpN_gt {a b : Nat} (h : b < a) : cmpN a b = 1 := by rw [cmpN_def]; rw [if_neg (by omega), if_pos h]
theorem cmpN_eq {a b : Nat} (h : a = b) : cmpN a b = 0 := by rw [cmpN_def]; rw [if_neg (by omega), if_neg (by omega)]
theorem cmpN_neg {a b : Nat} : cmpN a b < 0 ↔ a < b := by rw [cmpN_def]; split <;> (try split) <;> omega
theorem cmpN_pos {a b : Nat} : 0 < cmpN a b ↔ b < a := by rw [cmpN_def]; split <;> (try split) <;> omega
theorem cmpN_zero {a b : Nat} : cmpN a b = 0 ↔ a = b := by rw [cmpN_def]; split <;> (try split) <;> omega
theorem cmpN_ge {a b : Nat} : 0 ≤ cmpN a b ↔ b ≤ a := by rw [cmpN_def]; split <;> (try split) <;> omega
theorem cmpN_le {a b : Nat} : cmpN a b ≤ 0 ↔ a ≤ b := by rw [cmpN_def]; split <;> (try split) <;> omega
theorem cmpN_swap (a b : Nat) : cmpN b a = -cmpN a b := by rw [cmpN_def, cmpN_def]; split <;> split <;> (try split) <;> omega
theorem v4lt3 {a0 a1 a2 a3 b0 b1 b2 b3 : Nat} (k0 : a0 < B64) (k1 : a1 < B64) (k2 : a2 < B64) (h : a3 < b3) : val4 a0 a1 a2 a3 < val4 b0 b1 b2 b3 := by
  unfold val4; simp only [B64] at *; omega
theorem v4lt2 {a0 a1 a2 a3 b0 b1 b2 b3 : Nat} (k0 : a0 < B64) (k1 : a1 < B64) (h3 : ¬ a3 < b3) (g3 : ¬ b3 < a3) (h : a2 < b2) : val4 a0 a1 a2 a3 < val4 b0 b1 b2 b3 := by
  unfold val4; simp only [B64] at *; omega
theorem v4lt1 {a0 a1 a2 a3 b0 b1 b2 b3 : Nat} (k0 : a0 < B64) (h3 : ¬ a3 < b3) (g3 : ¬ b3 < a3) (h2 : ¬ a2 < b2) (g2 : ¬ b2 < a2) (h : a1 < b1) : val4 a0 a1 a2 a3 < val4 b0 b1 b2 b3 := by
  unfold val4; simp only [B64] at *; omega
theorem v4lt0 {a0 a1 a2 a3 b0 b1 b2 b3 : Nat} (h3 : ¬ a3 < b3) (g3 : ¬ b3 < a3) (h2 : ¬ a2 < b2) (g2 : ¬ b2 < a2) (h1 : ¬ a1 < b1) (g1 : ¬ b1 < a1) (h : a0 < b0) : val4 a0 a1 a2 a3 < val4 b0 b1 b2 b3 := by
  unfold val4; simp only [B64] at *; omega
theorem v4eq {a0 a1 a2 a3 b0 b1 b2 b3 : Nat} (h3 : ¬ a3 < b3) (g3 : ¬ b3 < a3) (h2 : ¬ a2 < b2) (g2 : ¬ b2 < a2) (h1 : ¬ a1 < b1) (g1 : ¬ b1 < a1) (h0 : ¬ a0 < b0) (g0 : ¬ b0 < a0) : val4 a0 a1 a2 a3 = val4 b0 b1 b2 b3 := by
  obtain rfl : a0 = b0 := by omega
  obtain rfl : a1 = b1 := by omega
  obtain rfl : a2 = b2 := by omega
  obtain rfl : a3 = b3 := by omega
  rfl

theorem cmp_fn4 (a0 a1 a2 a3 b0 b1 b2 b3 : Nat) (k0 : a0 < B64) (k1 : a1 < B64) (k2 : a2 < B64) (m0 : b0 < B64) (m1 : b1 < B64) (m2 : b2 < B64) :
    FnV Try.prog G0 39 [.agg (words [a0, a1, a2, a3]), .agg (words [b0, b1, b2, b3])] (nI .i64 (cmpN (val4 a0 a1 a2 a3) (val4 b0 b1 b2 b3))) := by
  refine fn_of_vwp Γok Try.func39 (by kernel_rfl) rfl (by simp [Try.ntmps39]) (wpv_ok Γok (by kernel_rfl) _ _ _ ?_); conv => whnf
  refine vloop_unroll ?_
  refine wpv_ok Γok (by kernel_rfl) _ _ _ ?_; conv => whnf
  refine ⟨by kernel_rfl, ?_⟩
  conv => whnf
  refine bool_cases (fun h => ?_) (fun h => ?_)
  · conv => whnf
    have h : a3 < b3 := by have := of_decide_eq_true h; omega
    rw [cmpN_lt (v4lt3 k0 k1 k2  h)]
    exact ⟨_, rfl, rfl⟩
  have h3 : ¬ a3 < b3 := by have := of_decide_eq_false h; omega
  conv => whnf
  refine ⟨by kernel_rfl, ?_⟩
  conv => whnf
  refine bool_cases (fun g => ?_) (fun g => ?_)
  · conv => whnf
    have g : b3 < a3 := by have := of_decide_eq_true g; omega
    rw [cmpN_gt (v4lt3 m0 m1 m2  g)]
    exact ⟨_, rfl, rfl⟩
  have g3 : ¬ b3 < a3 := by have := of_decide_eq_false g; omega
  conv => whnf
  refine vloop_unroll ?_
  refine wpv_ok Γok (by kernel_rfl) _ _ _ ?_; conv => whnf
  rw [ws_i64 (by omega) (by omega)]
  conv => whnf
  refine ⟨by kernel_rfl, ?_⟩
  conv => whnf
  refine bool_cases (fun h => ?_) (fun h => ?_)
  · conv => whnf
    have h : a2 < b2 := by have := of_decide_eq_true h; omega
    rw [cmpN_lt (v4lt2 k0 k1 h3 g3 h)]
    exact ⟨_, rfl, rfl⟩
  have h2 : ¬ a2 < b2 := by have := of_decide_eq_false h; omega
  conv => whnf
  refine ⟨by kernel_rfl, ?_⟩
  conv => whnf
  refine bool_cases (fun g => ?_) (fun g => ?_)
  · conv => whnf
    have g : b2 < a2 := by have := of_decide_eq_true g; omega
    rw [cmpN_gt (v4lt2 m0 m1 g3 h3 g)]
    exact ⟨_, rfl, rfl⟩
  have g2 : ¬ b2 < a2 := by have := of_decide_eq_false g; omega
  conv => whnf
  refine vloop_unroll ?_
  refine wpv_ok Γok (by kernel_rfl) _ _ _ ?_; conv => whnf
  rw [ws_i64 (by omega) (by omega)]
  conv => whnf
  refine ⟨by kernel_rfl, ?_⟩
  conv => whnf
  refine bool_cases (fun h => ?_) (fun h => ?_)
  · conv => whnf
    have h : a1 < b1 := by have := of_decide_eq_true h; omega
    rw [cmpN_lt (v4lt1 k0 h3 g3 h2 g2 h)]
    exact ⟨_, rfl, rfl⟩
  have h1 : ¬ a1 < b1 := by have := of_decide_eq_false h; omega
  conv => whnf
  refine ⟨by kernel_rfl, ?_⟩
  conv => whnf
  refine bool_cases (fun g => ?_) (fun g => ?_)
  · conv => whnf
    have g : b1 < a1 := by have := of_decide_eq_true g; omega
    rw [cmpN_gt (v4lt1 m0 g3 h3 g2 h2 g)]
    exact ⟨_, rfl, rfl⟩
  have g1 : ¬ b1 < a1 := by have := of_decide_eq_false g; omega
  conv => whnf
  refine vloop_unroll ?_
  refine wpv_ok Γok (by kernel_rfl) _ _ _ ?_; conv => whnf
  rw [ws_i64 (by omega) (by omega)]
  conv => whnf
  refine ⟨by kernel_rfl, ?_⟩
  conv => whnf
  refine bool_cases (fun h => ?_) (fun h => ?_)
  · conv => whnf
    have h : a0 < b0 := by have := of_decide_eq_true h; omega
    rw [cmpN_lt (v4lt0  h3 g3 h2 g2 h1 g1 h)]
    exact ⟨_, rfl, rfl⟩
  have h0 : ¬ a0 < b0 := by have := of_decide_eq_false h; omega
  conv => whnf
  refine ⟨by kernel_rfl, ?_⟩
  conv => whnf
  refine bool_cases (fun g => ?_) (fun g => ?_)
  · conv => whnf
    have g : b0 < a0 := by have := of_decide_eq_true g; omega
    rw [cmpN_gt (v4lt0  g3 h3 g2 h2 g1 h1 g)]
    exact ⟨_, rfl, rfl⟩
  have g0 : ¬ b0 < a0 := by have := of_decide_eq_false g; omega
  conv => whnf
  refine vloop_unroll ?_
  refine wpv_ok Γok (by kernel_rfl) _ _ _ ?_; conv => whnf
  rw [ws_i64 (by omega) (by omega)]
  conv => whnf
  rw [cmpN_eq (v4eq h3 g3 h2 g2 h1 g1 h0 g0)]
  exact ⟨_, rfl, rfl⟩
theorem cmp_fn {a b : Nat} (ha : a < T256) (hb : b < T256) : FnV Try.prog G0 39 [uV a, uV b] (nI .i64 (cmpN a b)) := by
  obtain ⟨a0, a1, a2, a3, k0, k1, k2, k3, rfl⟩ := limbs ha
  obtain ⟨b0, b1, b2, b3, m0, m1, m2, m3, rfl⟩ := limbs hb
  rw [uV_val4 k0 k1 k2 k3, uV_val4 m0 m1 m2 m3]
  exact cmp_fn4 a0 a1 a2 a3 b0 b1 b2 b3 k0 k1 k2 m0 m1 m2
end Go.Proofs.Ytlecdiopokalgaa
namespace Go.Proofs.Ytlecdiopokalgaa
set_option linter.unusedVariables false
set_option linter.unusedSimpArgs false
set_option linter.unusedSectionVars false
open Go.ChangeShapes Go.WideShapes Go.ChangeAt Go.RowKit Go.Joins
set_option maxRecDepth 10000
theorem lt_bitLen : ∀ (n x : Nat), x ≤ n → x < 2 ^ 64 → x < 2 ^ Lib.bitLen x
  | 0, x, h, _ => by
    obtain rfl : x = 0 := by omega
    exact Nat.pow_pos (by decide)
  | n + 1, x, h, hx => by
    by_cases h0 : x = 0
    · subst h0; exact Nat.pow_pos (by decide)
    · rw [Lib.bitLen_half x h0 hx, Nat.pow_add]
      have := lt_bitLen n (x / 2) (by omega) (by omega)
      omega

theorem bitN_ex : ∃ f : Nat → Nat → Nat, ∀ a i, f a i = a / 2 ^ i % 2 := ⟨_, fun _ _ => rfl⟩
noncomputable def bitN : Nat → Nat → Nat := Classical.choose bitN_ex
theorem bitN_def (a i : Nat) : bitN a i = a / 2 ^ i % 2 := Classical.choose_spec bitN_ex a i
theorem bit_limb {a0 a1 a2 a3 : Nat} (k0 : a0 < B64) (k1 : a1 < B64) (k2 : a2 < B64) (k3 : a3 < B64) {s : Nat} (hs : s < 64) :
    bitN (val4 a0 a1 a2 a3) (64 * 0 + s) = a0 / 2 ^ s % 2 ∧ bitN (val4 a0 a1 a2 a3) (64 * 1 + s) = a1 / 2 ^ s % 2 ∧
    bitN (val4 a0 a1 a2 a3) (64 * 2 + s) = a2 / 2 ^ s % 2 ∧ bitN (val4 a0 a1 a2 a3) (64 * 3 + s) = a3 / 2 ^ s % 2 := by
  have hp : B64 = 2 ^ s * (2 * 2 ^ (63 - s)) := by
    rw [B64_eq, ← Nat.pow_succ', ← Nat.pow_add]; congr 1; omega
  have key : ∀ x y : Nat, (x + B64 * y) / 2 ^ s % 2 = x / 2 ^ s % 2 := by
    intro x y
    rw [hp, Nat.mul_assoc, Nat.add_mul_div_left _ _ (Nat.pow_pos (by decide)), Nat.mul_assoc, Nat.add_mul_mod_self_left]
  obtain ⟨l0, l1, l2, l3⟩ := lim_val4 k0 k1 k2 k3
  have hv : val4 a0 a1 a2 a3 = a0 + B64 * (a1 + B64 * (a2 + B64 * a3)) := by unfold val4; simp only [Nat.mul_add, Nat.mul_assoc]; omega
  have d1 : val4 a0 a1 a2 a3 / B64 = a1 + B64 * (a2 + B64 * a3) := by
    rw [hv, Nat.add_mul_div_left _ _ (by decide), Nat.div_eq_of_lt k0, Nat.zero_add]
  have d2 : val4 a0 a1 a2 a3 / B64 / B64 = a2 + B64 * a3 := by
    rw [d1, Nat.add_mul_div_left _ _ (by decide), Nat.div_eq_of_lt k1, Nat.zero_add]
  have d3 : val4 a0 a1 a2 a3 / B64 / B64 / B64 = a3 := by
    rw [d2, Nat.add_mul_div_left _ _ (by decide), Nat.div_eq_of_lt k2, Nat.zero_add]
  simp only [bitN_def]
  refine ⟨?_, ?_, ?_, ?_⟩
  · rw [Nat.mul_zero, Nat.zero_add, hv, key]
  · rw [Nat.pow_add, ← Nat.div_div_eq_div_mul, show 2 ^ (64 * 1) = B64 by decide, d1, key]
  · rw [Nat.pow_add, ← Nat.div_div_eq_div_mul, show 2 ^ (64 * 2) = B64 * B64 by decide, ← Nat.div_div_eq_div_mul, d2, key]
  · rw [Nat.pow_add, ← Nat.div_div_eq_div_mul, show 2 ^ (64 * 3) = B64 * B64 * B64 by decide, ← Nat.div_div_eq_div_mul, ← Nat.div_div_eq_div_mul, d3]

/-- How a number grows by its limbs. -/
def upto (a0 a1 a2 a3 k : Nat) : Nat := if k = 0 then 0 else if k = 1 then a0 else if k = 2 then a0 + B64 * a1 else if k = 3 then a0 + B64 * a1 + B64 * B64 * a2 else val4 a0 a1 a2 a3
theorem upto_step {a0 a1 a2 a3 k x v : Nat} (k0 : a0 < B64) (k1 : a1 < B64) (k2 : a2 < B64) (hk : k < 4) (hx : x < B64) (hxk : x = if k = 0 then a0 else if k = 1 then a1 else if k = 2 then a2 else a3)
    (hv : upto a0 a1 a2 a3 k < 2 ^ v) (hx0 : x ≠ 0) : upto a0 a1 a2 a3 (k + 1) < 2 ^ (64 * k + Lib.bitLen x) := by
  have h1 := lt_bitLen x x (Nat.le_refl _) (by rw [B64_eq] at hx; exact hx)
  have hs : upto a0 a1 a2 a3 (k + 1) < 2 ^ (64 * k) * (x + 1) := by
    have : k = 0 ∨ k = 1 ∨ k = 2 ∨ k = 3 := by omega
    rcases this with rfl | rfl | rfl | rfl <;> (simp [upto] at *; subst hxk; (try simp only [val4] at *); (try simp only [B64] at *); omega)
  rw [Nat.pow_add]
  exact Nat.lt_of_lt_of_le hs (Nat.mul_le_mul_left _ h1)
theorem upto_zero {a0 a1 a2 a3 k v : Nat} (hk : k < 4) (hxk : 0 = if k = 0 then a0 else if k = 1 then a1 else if k = 2 then a2 else a3) (hv : upto a0 a1 a2 a3 k < 2 ^ v) : upto a0 a1 a2 a3 (k + 1) < 2 ^ v := by
  have : k = 0 ∨ k = 1 ∨ k = 2 ∨ k = 3 := by omega
  rcases this with rfl | rfl | rfl | rfl <;> (simp [upto, val4] at *; subst hxk; simpa using hv)

/-- The limb of a number. -/
def limD (l : List Nat) (i : Nat) : Nat := l.getD i 0
def lenV (l : List Nat) : Nat → Nat
  | 0 => 0
  | k + 1 => if l.getD k 0 = 0 then lenV l k else 64 * k + Lib.bitLen (l.getD k 0)
theorem lenV_ok {a0 a1 a2 a3 : Nat} (k0 : a0 < B64) (k1 : a1 < B64) (k2 : a2 < B64) (k3 : a3 < B64) : ∀ k, k ≤ 4 → upto a0 a1 a2 a3 k < 2 ^ lenV [a0, a1, a2, a3] k ∧ lenV [a0, a1, a2, a3] k ≤ 64 * k
  | 0, _ => by simp [upto, lenV]
  | k + 1, hk => by
    obtain ⟨h1, h2⟩ := lenV_ok k0 k1 k2 k3 k (by omega)
    have hx : [a0, a1, a2, a3].getD k 0 = if k = 0 then a0 else if k = 1 then a1 else if k = 2 then a2 else a3 := by
      have : k = 0 ∨ k = 1 ∨ k = 2 ∨ k = 3 := by omega
      rcases this with rfl | rfl | rfl | rfl <;> rfl
    have hb : [a0, a1, a2, a3].getD k 0 < B64 := by
      rw [hx]; split <;> (try assumption); split <;> (try assumption); split <;> assumption
    simp only [lenV]
    split
    · rename_i h0
      exact ⟨upto_zero (by omega) (by rw [← hx, h0]) h1, by omega⟩
    · rename_i h0
      have hl := Lib.bitLen_le ([a0, a1, a2, a3].getD k 0) 64 (by omega) (by rw [B64_eq] at hb; exact hb)
      exact ⟨upto_step k0 k1 k2 (by omega) hb hx h1 h0, by omega⟩
theorem len64_fn {x : Nat} (hx : x < B64) : FnV Try.prog G0 80 [nI .u64 x] (nI .i64 (Lib.bitLen x)) :=
  fn_calls (us := [.int .u64 x]) (r := .int .i64 (Lib.bitLen x)) Try.func80 (by kernel_rfl) rfl (fun w => (Try.bits_Len64 (x : Int) w (by omega) (by unfold B64 at hx; omega)).mono (by rintro e w' ⟨rfl, rfl⟩; exact ⟨by simp, rfl⟩)) (fun E => by simp [VR, nI])
end Go.Proofs.Ytlecdiopokalgaa
namespace Go.Proofs.Ytlecdiopokalgaa
set_option linter.unusedVariables false
set_option linter.unusedSimpArgs false
set_option linter.unusedSectionVars false
open Go.ChangeShapes Go.WideShapes Go.ChangeAt Go.RowKit Go.Joins
set_option maxRecDepth 10000
theorem lead_fn : FnV Try.prog G0 77 [nI .u64 10000000000000000000] (nI .i64 0) := by
  have h := len64_fn (x := 10000000000000000000) (by decide)
  have e : Lib.bitLen 10000000000000000000 = 64 := by decide +kernel
  rw [e] at h
  have h : FnV Try.prog G0 80 [nI .u64 10000000000000000000] (nI .i64 64) := h
  refine fn_of_vwp Γok Try.func77 (by kernel_rfl) rfl (by simp [Try.ntmps77]) (wpv_ok Γok (by kernel_rfl) _ _ _ ?_); conv => whnf
  refine ⟨_, ret_of_fn G0ok (h) (by first | rfl | simp only [noHs, noH, nI, bI, Bool.and_self, Bool.and_true, Bool.true_and, ]) (by first | rfl | simp only [noHs, noH, nI, bI, Bool.and_self, Bool.and_true, Bool.true_and, ]), ?_⟩; (conv => whnf); (try (refine ⟨by kernel_rfl, ?_⟩; conv => whnf))
  rw [ws_i64 (x := 64 - 64) (by decide) (by decide)]
  exact ⟨_, rfl, rfl⟩
theorem divmod_ex (N : Nat) {t : Nat} (ht : 0 < t) : ∃ Q U, N = t * Q + U ∧ U < t := ⟨N / t, N % t, (Nat.div_add_mod N t).symm, Nat.mod_lt N ht⟩
theorem div_of {N t Q R : Nat} (h : N = t * Q + R) (hR : R < t) : N / t = Q ∧ N % t = R := by
  subst h
  constructor
  · rw [Nat.mul_add_div (by omega), Nat.div_eq_of_lt hR, Nat.add_zero]
  · rw [Nat.mul_add_mod, Nat.mod_eq_of_lt hR]
theorem d64_gen {hi lo l1 l0 Q1 U Q0 R B t : Nat} (d1 : l0 + B * l1 = lo) (e1 : hi * B + l1 = t * Q1 + U) (e2 : U * B + l0 = t * Q0 + R) : hi * (B * B) + lo = t * (Q1 * B + Q0) + R := by
  have : hi * (B * B) + lo = (hi * B + l1) * B + l0 := by
    rw [← d1, Nat.add_mul, Nat.mul_assoc, Nat.mul_comm l1 B]
    omega
  rw [this, e1, Nat.add_mul, Nat.mul_add, Nat.mul_assoc]
  omega
theorem d64_main {hi lo l1 l0 Q1 U Q0 R : Nat} (d1 : l0 + 4294967296 * l1 = lo) (e1 : hi * 4294967296 + l1 = 10000000000000000000 * Q1 + U) (e2 : U * 4294967296 + l0 = 10000000000000000000 * Q0 + R) : hi * 18446744073709551616 + lo = 10000000000000000000 * (Q1 * 4294967296 + Q0) + R := d64_gen d1 e1 e2
theorem d64_split {V : Nat} (hV : V < 10000000000000000000) : ∃ qa ra : Nat, qa * 2328306436 + ra = V ∧ ra < 2328306436 ∧ wS .u64 ((V : Int).tdiv 2328306436) = (qa : Int) ∧ wS .u64 ((V : Int) - wS .u64 (wS .u64 ((V : Int).tdiv 2328306436) * 2328306436)) = (ra : Int) := by
  obtain ⟨a, b, e, l⟩ := divmod_ex V (show 0 < 2328306436 by decide)
  have e2 : a * 2328306436 + b = V := by rw [e, Nat.mul_comm]
  clear e
  have e3 : (V : Int).tdiv 2328306436 = (a : Int) := by
    rw [Int.tdiv_eq_ediv_of_nonneg (by omega)]
    omega
  have a1 : wS .u64 ((V : Int).tdiv 2328306436) = (a : Int) := by rw [e3]; exact ws_u64n (by omega) (by omega)
  refine ⟨a, b, e2, l, a1, ?_⟩
  rw [a1, ws_u64n (x := (a : Int) * 2328306436) (by omega) (by omega), ws_u64n (by omega) (by omega)]
  omega
theorem d64_j1 {hi l1 Q1 U : Nat} (e1 : hi * 4294967296 + l1 = 10000000000000000000 * Q1 + U) (lU : U < 10000000000000000000) : wS .u64 (wS .u64 (wS .u64 ((hi : Int) * 4294967296) + (l1 : Int)) - wS .u64 ((Q1 : Int) * 10000000000000000000)) = (U : Int) := by
  simp only [ws_u64]
  omega
theorem d64_z2 {U l0 Q0 R : Nat} (e2 : U * 4294967296 + l0 = 10000000000000000000 * Q0 + R) (lR : R < 10000000000000000000) : Int.fdiv (wS .u64 (wS .u64 (wS .u64 ((U : Int) * 4294967296) + (l0 : Int)) - wS .u64 ((Q0 : Int) * 10000000000000000000))) 1 = (R : Int) := by
  rw [d64_j1 e2 lR, Int.fdiv_eq_ediv_of_nonneg _ (by decide)]
  omega
theorem d64_z1 {Q1 Q0 : Nat} (h1 : Q1 < 4294967296) (h0 : Q0 < 4294967296) : wS .u64 (wS .u64 ((Q1 : Int) * 4294967296) + (Q0 : Int)) = ((Q1 * 4294967296 + Q0 : Nat) : Int) := by
  simp only [ws_u64]
  omega
theorem K3 {q r U u Q R : Nat} (i1 : q * 2328306436 + r = U) (c : q * 2313682944 ≤ 4294967296 * r + u) (e : U * 4294967296 + u = 10000000000000000000 * Q + R) (lR : R < 10000000000000000000) (i3 : Q ≤ q) : q = Q := by omega
theorem K2 {q r U u Q R : Nat} (i1 : q * 2328306436 + r = U) (c : 4294967296 * r + u < q * 2313682944) (e : U * 4294967296 + u = 10000000000000000000 * Q + R) (i3 : Q ≤ q) : Q ≤ q - 1 := by omega
theorem K0 {q U u Q R : Nat} (hU : U < 10000000000000000000) (hu : u < 4294967296) (c : 4294967296 ≤ q) (e : U * 4294967296 + u = 10000000000000000000 * Q + R) : Q ≤ q - 1 := by omega
theorem K1 {q r U u Q R : Nat} (i1 : q * 2328306436 + r = U) (c : 4294967296 ≤ r) (hU : U < 10000000000000000000) (hu : u < 4294967296) (e : U * 4294967296 + u = 10000000000000000000 * Q + R) (lR : R < 10000000000000000000) (i3 : Q ≤ q) : q = Q := by omega
theorem Ki {q r U u Q R : Nat} (i1 : q * 2328306436 + r = U) (lr : r < 2328306436)  (e : U * 4294967296 + u = 10000000000000000000 * Q + R) (hu : u < 4294967296) : Q ≤ q := by omega
theorem Kn {q r U q' r' : Nat} (i1 : q * 2328306436 + r = U) (q0 : 0 < q) (e : q' = q - 1) (f : r' = r + 2328306436) : q' * 2328306436 + r' = U := by
  obtain ⟨p, rfl⟩ : ∃ p, q = p + 1 := ⟨q - 1, (Nat.sub_add_cancel q0).symm⟩
  rw [Nat.add_sub_cancel] at e
  rw [e, f, ← i1, Nat.add_mul, Nat.one_mul, Nat.add_assoc, Nat.add_comm 2328306436 r]
theorem Kq {q q' : Nat} (q0 : 0 < q) (e : q' = q - 1) : q' < q := by omega
theorem Kgt {q r u : Nat} (c : 4294967296 * r + u < q * 2313682944) : (q : Int) * 2313682944 > 4294967296 * (r : Int) + (u : Int) := by omega
theorem Kgt' {q r u : Nat} (c : (q : Int) * 2313682944 > 4294967296 * (r : Int) + (u : Int)) : 4294967296 * r + u < q * 2313682944 := by omega
theorem Kp {q r u : Nat} (c : 4294967296 * r + u < q * 2313682944) : 0 < q := by omega
theorem Km1 {q : Nat} (h : q < 4294967296) : wS .u64 ((q : Int) * 2313682944) = (q : Int) * 2313682944 := ws_u64n (by omega) (by omega)
theorem Km2 {r : Nat} (h : r < 4294967296) : wS .u64 (4294967296 * (r : Int)) = 4294967296 * (r : Int) := ws_u64n (by omega) (by omega)
theorem Km3 {r u : Nat} (h : r < 4294967296) (hu : u < 4294967296) : wS .u64 (4294967296 * (r : Int) + (u : Int)) = 4294967296 * (r : Int) + (u : Int) := ws_u64n (by omega) (by omega)
theorem Km4 {q r U q' : Nat} (i1 : q * 2328306436 + r = U) (hU : U < 10000000000000000000) (e : q' = q - 1) (h : 0 < q) : wS .u64 ((q : Int) - 1) = (q' : Int) := by
  rw [ws_u64n (by omega) (by omega)]
  omega
theorem Km5 {r r' : Nat} (h : r < 4294967296) (f : r' = r + 2328306436) : wS .u64 ((r : Int) + 2328306436) = (r' : Int) := by
  rw [ws_u64n (by omega) (by omega)]
  omega
theorem Kz {U u Q R : Nat} (hU : U < 10000000000000000000) (hu : u < 4294967296) (e : U * 4294967296 + u = 10000000000000000000 * Q + R) : Q < 4294967296 := by omega
theorem div64_fn {hi lo : Nat} (h1 : hi < 10000000000000000000) (h2 : lo < 18446744073709551616) : FnV Try.prog G0 68 [nI .u64 hi, nI .u64 lo, nI .u64 10000000000000000000] (.tup [nI .u64 ((hi * 18446744073709551616 + lo) / 10000000000000000000 : Nat), nI .u64 ((hi * 18446744073709551616 + lo) % 10000000000000000000 : Nat)]) := by
  refine fn_of_vwp Γok Try.func68 (by kernel_rfl) rfl (by simp [Try.ntmps68]) (wpv_ok Γok (by kernel_rfl) _ _ _ ?_); conv => whnf
  rw [decide_eq_false (show ¬ (10000000000000000000 : Int) ≤ (hi : Int) by omega)]
  conv => whnf
  try (refine ⟨by kernel_rfl, ?_⟩; conv => whnf)
  rw [show (((hi : Nat) : Int) == 0) = decide (hi = 0) from beq_lit _ 0]
  by_cases h0 : hi = 0
  · rw [decide_eq_true h0]
    conv => whnf
    try (refine ⟨by kernel_rfl, ?_⟩; conv => whnf)
    rw [Int.tdiv_eq_ediv_of_nonneg (by omega), Int.tmod_eq_emod_of_nonneg (by omega), ws_u64n (by omega) (by omega)]
    have e1 : (lo : Int) / 10000000000000000000 = (((hi * 18446744073709551616 + lo) / 10000000000000000000 : Nat) : Int) := by omega
    have e2 : (lo : Int) % 10000000000000000000 = (((hi * 18446744073709551616 + lo) % 10000000000000000000 : Nat) : Int) := by omega
    rw [e1, e2]
    exact ⟨_, rfl, rfl⟩
  · rw [decide_eq_false h0]
    conv => whnf
    try (refine ⟨by kernel_rfl, ?_⟩; conv => whnf)
    refine ⟨_, ret_of_fn G0ok (lead_fn) (by first | rfl | simp only [noHs, noH, nI, bI, Bool.and_self, Bool.and_true, Bool.true_and, ]) (by first | rfl | simp only [noHs, noH, nI, bI, Bool.and_self, Bool.and_true, Bool.true_and, ]), ?_⟩; (conv => whnf); (try (refine ⟨by kernel_rfl, ?_⟩; conv => whnf))
    rw [show wS .u64 0 = 0 from ws_u64n (by decide) (by decide)]
    conv => whnf
    try (refine ⟨by kernel_rfl, ?_⟩; conv => whnf)
    have p0 : (2 : Int) ^ min (Int.toNat 0) IntKind.u64.bits = 1 := rfl
    have p32 : (2 : Int) ^ min (Int.toNat 32) IntKind.u64.bits = 4294967296 := rfl
    have p64 : (2 : Int) ^ min (Int.toNat 64) IntKind.u64.bits = 18446744073709551616 := rfl
    rw [p0, Int.mul_one, Int.mul_one, ws_u64n (x := (hi : Int)) (by omega) (by omega), ws_u64n (x := 10000000000000000000) (by decide) (by decide), show wS .u64 (64 - 0) = 64 from ws_u64n (by decide) (by decide)]
    conv => whnf
    try (refine ⟨by kernel_rfl, ?_⟩; conv => whnf)
    have f1 : Int.fdiv 10000000000000000000 4294967296 = 2328306436 := by decide
    have f2 : bitS .and .u64 10000000000000000000 4294967295 = 2313682944 := (u64_and (x := 10000000000000000000) (y := 4294967295) (by decide) (by decide)).trans (by decide)
    have f3 : bitS .or .u64 (hi : Int) (Int.fdiv (lo : Int) 18446744073709551616) = (hi : Int) := by
      rw [Int.fdiv_eq_ediv_of_nonneg _ (by decide), show (lo : Int) / 18446744073709551616 = ((0 : Nat) : Int) by omega, u64_or (by omega) (by decide), Nat.or_zero]
    have f4 : Int.fdiv (lo : Int) 4294967296 = ((lo / 4294967296 : Nat) : Int) := by rw [Int.fdiv_eq_ediv_of_nonneg _ (by decide)]; omega
    have f5 : bitS .and .u64 (lo : Int) 4294967295 = ((lo % 4294967296 : Nat) : Int) := by
      have := u64_and (x := lo) (y := 4294967295) (by omega) (by decide)
      rw [show (4294967295 : Nat) = 2 ^ 32 - 1 from rfl, Nat.and_two_pow_sub_one_eq_mod] at this
      exact this
    -- LOOP
    rw [p0, p32, p64, Int.mul_one, ws_u64n (x := (lo : Int)) (by omega) (by omega), f1, f2, f3, f4, f5]
    clear f1 f2 f3 f4 f5 p32 p64 p0
    have d1 := Nat.mod_add_div lo 4294967296
    have d2 := Nat.mod_lt lo (show 0 < 4294967296 by decide)
    refine gen_ex (lo % 4294967296) fun l0 el0 => ?_
    rw [← el0] at d1 d2 ⊢
    refine gen_ex (lo / 4294967296) fun l1 el1 => ?_
    rw [← el1] at d1 ⊢
    clear el0 el1
    obtain ⟨Q1, U, e1, lU⟩ := divmod_ex (hi * 4294967296 + l1) (show 0 < 10000000000000000000 by decide)
    obtain ⟨Q0, R, e2, lR⟩ := divmod_ex (U * 4294967296 + l0) (show 0 < 10000000000000000000 by decide)
    obtain ⟨eQ, eR⟩ := div_of (N := hi * 18446744073709551616 + lo) (t := 10000000000000000000) (Q := Q1 * 4294967296 + Q0) (R := R) (d64_main d1 e1 e2) lR
    rw [eQ, eR]
    clear eQ eR
    refine gen_ex (Q1 * 4294967296 + Q0) fun QQ eQQ => ?_
    rw [← eQQ]
    have hl1 : l1 < 4294967296 := by omega
    obtain ⟨qa, ra, eqa, lra, k1, k2⟩ := d64_split h1
    have kk3 := d64_split lU
    have j1 := d64_j1 e1 lU
    have z2 := d64_z2 e2 lR
    have z1 := d64_z1 (Q1 := Q1) (Q0 := Q0) (Kz h1 hl1 e1) (Kz lU d2 e2)
    rw [← eQQ] at z1
    refine vloop_invK G0ok [] 0 (X := Nat × Nat) (fun x => [(15, nI .u64 x.1), (16, nI .u64 x.2), (14, nI .u64 l0), (13, nI .u64 l1), (11, nI .u64 hi), (10, nI .u64 2313682944), (9, nI .u64 2328306436), (8, nI .u64 0), (2, nI .u64 10000000000000000000)]) (fun _ => []) (fun x => x.1 * 2328306436 + x.2 = hi ∧ x.2 < 4294967296 ∧ Q1 ≤ x.1) (fun x => x.1) (qa, ra) rfl
      ⟨⟨_, rfl, conv_nI (k1)⟩, ⟨_, rfl, conv_nI (k2)⟩, ⟨_, rfl, conv_nI (rfl)⟩, ⟨_, rfl, conv_nI (rfl)⟩, ⟨_, rfl, conv_nI (rfl)⟩, ⟨_, rfl, conv_nI (rfl)⟩, ⟨_, rfl, conv_nI (rfl)⟩, ⟨_, rfl, conv_nI (rfl)⟩, ⟨_, rfl, conv_nI (rfl)⟩, trivial⟩ trivial ⟨eqa, Nat.lt_trans lra (by decide), Ki eqa lra e1 hl1⟩ ?_
    rintro ⟨q, r⟩ ⟨i1, i2, i3⟩
    dsimp only at i1 i2 i3 ⊢
    refine wpv_ok Γok (by kernel_rfl) _ _ _ ?_; conv => whnf
    have m1 : 4294967296 ≤ q ∨ wS .u64 ((q : Int) * 2313682944) = (q : Int) * 2313682944 := (Nat.lt_or_ge q 4294967296).symm.imp id Km1
    have m2 : wS .u64 (4294967296 * (r : Int)) = 4294967296 * (r : Int) := Km2 i2
    have m3 : wS .u64 (4294967296 * (r : Int) + (l1 : Int)) = 4294967296 * (r : Int) + (l1 : Int) := Km3 i2 hl1
    obtain ⟨q', eq'⟩ : ∃ q', q' = q - 1 := ⟨_, rfl⟩
    obtain ⟨r', er'⟩ : ∃ r', r' = r + 2328306436 := ⟨_, rfl⟩
    have m4 : 0 < q → wS .u64 ((q : Int) - 1) = (q' : Int) := Km4 i1 h1 eq'
    have m5 : wS .u64 ((r : Int) + 2328306436) = (r' : Int) := Km5 i2 er'
    by_cases c1 : 4294967296 ≤ q
    · rw [decide_eq_true (show (q : Int) ≥ 4294967296 by omega)]
      have q0 : 0 < q := Nat.lt_of_lt_of_le (by decide) c1
      have nx := Kn i1 q0 eq' er'
      have le' : Q1 ≤ q' := eq' ▸ K0 h1 hl1 c1 e1
      conv => whnf
      try (refine ⟨by kernel_rfl, ?_⟩; conv => whnf)
      rw [m4 q0, m5]
      conv => whnf
      try (refine ⟨by kernel_rfl, ?_⟩; conv => whnf)
      by_cases c3 : 4294967296 ≤ r'
      · rw [decide_eq_true (show (r' : Int) ≥ 4294967296 by omega)]
        conv => whnf
        try (refine ⟨by kernel_rfl, ?_⟩; conv => whnf)
        have eq : q' = Q1 := K1 nx c3 h1 hl1 e1 lU le'
        rw [eq, j1]
        clear i1 i2 i3 m1 m2 m3 m4 m5 eq
        obtain ⟨qa, ra, eqa, lra, k1, k2⟩ := kk3
        refine vloop_invK G0ok [] 0 (X := Nat × Nat) (fun x => [(18, nI .u64 x.1), (16, nI .u64 x.2), (17, nI .u64 U), (15, nI .u64 Q1), (14, nI .u64 l0), (10, nI .u64 2313682944), (9, nI .u64 2328306436), (8, nI .u64 0), (2, nI .u64 10000000000000000000)]) (fun _ => []) (fun x => x.1 * 2328306436 + x.2 = U ∧ x.2 < 4294967296 ∧ Q0 ≤ x.1) (fun x => x.1) (qa, ra) rfl
          ⟨⟨_, rfl, conv_nI (k1)⟩, ⟨_, rfl, conv_nI (k2)⟩, ⟨_, rfl, conv_nI (rfl)⟩, ⟨_, rfl, conv_nI (rfl)⟩, ⟨_, rfl, conv_nI (rfl)⟩, ⟨_, rfl, conv_nI (rfl)⟩, ⟨_, rfl, conv_nI (rfl)⟩, ⟨_, rfl, conv_nI (rfl)⟩, ⟨_, rfl, conv_nI (rfl)⟩, trivial⟩ trivial ⟨eqa, Nat.lt_trans lra (by decide), Ki eqa lra e2 d2⟩ ?_
        rintro ⟨q, r⟩ ⟨i1, i2, i3⟩
        dsimp only at i1 i2 i3 ⊢
        refine wpv_ok Γok (by kernel_rfl) _ _ _ ?_; conv => whnf
        have m1 : 4294967296 ≤ q ∨ wS .u64 ((q : Int) * 2313682944) = (q : Int) * 2313682944 := (Nat.lt_or_ge q 4294967296).symm.imp id Km1
        have m2 : wS .u64 (4294967296 * (r : Int)) = 4294967296 * (r : Int) := Km2 i2
        have m3 : wS .u64 (4294967296 * (r : Int) + (l0 : Int)) = 4294967296 * (r : Int) + (l0 : Int) := Km3 i2 d2
        obtain ⟨q', eq'⟩ : ∃ q', q' = q - 1 := ⟨_, rfl⟩
        obtain ⟨r', er'⟩ : ∃ r', r' = r + 2328306436 := ⟨_, rfl⟩
        have m4 : 0 < q → wS .u64 ((q : Int) - 1) = (q' : Int) := Km4 i1 lU eq'
        have m5 : wS .u64 ((r : Int) + 2328306436) = (r' : Int) := Km5 i2 er'
        by_cases c1 : 4294967296 ≤ q
        · rw [decide_eq_true (show (q : Int) ≥ 4294967296 by omega)]
          have q0 : 0 < q := Nat.lt_of_lt_of_le (by decide) c1
          have nx := Kn i1 q0 eq' er'
          have le' : Q0 ≤ q' := eq' ▸ K0 lU d2 c1 e2
          conv => whnf
          try (refine ⟨by kernel_rfl, ?_⟩; conv => whnf)
          rw [m4 q0, m5]
          conv => whnf
          try (refine ⟨by kernel_rfl, ?_⟩; conv => whnf)
          by_cases c3 : 4294967296 ≤ r'
          · rw [decide_eq_true (show (r' : Int) ≥ 4294967296 by omega)]
            conv => whnf
            try (refine ⟨by kernel_rfl, ?_⟩; conv => whnf)
            have eq : q' = Q0 := K1 nx c3 lU d2 e2 lR le'
            rw [eq, show (2 : Int) ^ min (Int.toNat 0) IntKind.u64.bits = 1 from rfl, z1, z2]
            exact ⟨_, rfl, rfl⟩
          · rw [decide_eq_false (show ¬ (r' : Int) ≥ 4294967296 by omega)]
            conv => whnf
            try (refine ⟨by kernel_rfl, ?_⟩; conv => whnf)
            refine next_round (y := (q, r)) G0ok (q', r') [] rfl ⟨⟨_, rfl, conv_nI (rfl)⟩, ⟨_, rfl, conv_nI (rfl)⟩, ⟨_, rfl, conv_nI (rfl)⟩, ⟨_, rfl, conv_nI (rfl)⟩, ⟨_, rfl, conv_nI (rfl)⟩, ⟨_, rfl, conv_nI (rfl)⟩, ⟨_, rfl, conv_nI (rfl)⟩, ⟨_, rfl, conv_nI (rfl)⟩, ⟨_, rfl, conv_nI (rfl)⟩, trivial⟩ trivial ⟨nx, Nat.lt_of_not_le c3, le'⟩ (Kq q0 eq')
        · rw [decide_eq_false (show ¬ (q : Int) ≥ 4294967296 by omega)]
          conv => whnf
          try (refine ⟨by kernel_rfl, ?_⟩; conv => whnf)
          have mm : (wS .u64 ((q : Int) * 2313682944) > wS .u64 (wS .u64 (4294967296 * (r : Int)) + (l0 : Int))) ↔ 4294967296 * r + l0 < q * 2313682944 := by
            rw [m1.resolve_left c1, m2, m3]
            exact ⟨Kgt', Kgt⟩
          by_cases c2 : 4294967296 * r + l0 < q * 2313682944
          · rw [decide_eq_true (mm.2 c2)]
            have q0 : 0 < q := Kp c2
            have nx := Kn i1 q0 eq' er'
            have le' : Q0 ≤ q' := eq' ▸ K2 i1 c2 e2 i3
            conv => whnf
            try (refine ⟨by kernel_rfl, ?_⟩; conv => whnf)
            rw [m4 q0, m5]
            conv => whnf
            try (refine ⟨by kernel_rfl, ?_⟩; conv => whnf)
            by_cases c3 : 4294967296 ≤ r'
            · rw [decide_eq_true (show (r' : Int) ≥ 4294967296 by omega)]
              conv => whnf
              try (refine ⟨by kernel_rfl, ?_⟩; conv => whnf)
              have eq : q' = Q0 := K1 nx c3 lU d2 e2 lR le'
              rw [eq, show (2 : Int) ^ min (Int.toNat 0) IntKind.u64.bits = 1 from rfl, z1, z2]
              exact ⟨_, rfl, rfl⟩
            · rw [decide_eq_false (show ¬ (r' : Int) ≥ 4294967296 by omega)]
              conv => whnf
              try (refine ⟨by kernel_rfl, ?_⟩; conv => whnf)
              refine next_round (y := (q, r)) G0ok (q', r') [] rfl ⟨⟨_, rfl, conv_nI (rfl)⟩, ⟨_, rfl, conv_nI (rfl)⟩, ⟨_, rfl, conv_nI (rfl)⟩, ⟨_, rfl, conv_nI (rfl)⟩, ⟨_, rfl, conv_nI (rfl)⟩, ⟨_, rfl, conv_nI (rfl)⟩, ⟨_, rfl, conv_nI (rfl)⟩, ⟨_, rfl, conv_nI (rfl)⟩, ⟨_, rfl, conv_nI (rfl)⟩, trivial⟩ trivial ⟨nx, Nat.lt_of_not_le c3, le'⟩ (Kq q0 eq')
          · rw [decide_eq_false (fun h => c2 (mm.1 h))]
            conv => whnf
            try (refine ⟨by kernel_rfl, ?_⟩; conv => whnf)
            have eq : q = Q0 := K3 i1 (Nat.le_of_not_lt c2) e2 lR i3
            rw [eq, show (2 : Int) ^ min (Int.toNat 0) IntKind.u64.bits = 1 from rfl, z1, z2]
            exact ⟨_, rfl, rfl⟩
      · rw [decide_eq_false (show ¬ (r' : Int) ≥ 4294967296 by omega)]
        conv => whnf
        try (refine ⟨by kernel_rfl, ?_⟩; conv => whnf)
        refine next_round (y := (q, r)) G0ok (q', r') [] rfl ⟨⟨_, rfl, conv_nI (rfl)⟩, ⟨_, rfl, conv_nI (rfl)⟩, ⟨_, rfl, conv_nI (rfl)⟩, ⟨_, rfl, conv_nI (rfl)⟩, ⟨_, rfl, conv_nI (rfl)⟩, ⟨_, rfl, conv_nI (rfl)⟩, ⟨_, rfl, conv_nI (rfl)⟩, ⟨_, rfl, conv_nI (rfl)⟩, ⟨_, rfl, conv_nI (rfl)⟩, trivial⟩ trivial ⟨nx, Nat.lt_of_not_le c3, le'⟩ (Kq q0 eq')
    · rw [decide_eq_false (show ¬ (q : Int) ≥ 4294967296 by omega)]
      conv => whnf
      try (refine ⟨by kernel_rfl, ?_⟩; conv => whnf)
      have mm : (wS .u64 ((q : Int) * 2313682944) > wS .u64 (wS .u64 (4294967296 * (r : Int)) + (l1 : Int))) ↔ 4294967296 * r + l1 < q * 2313682944 := by
        rw [m1.resolve_left c1, m2, m3]
        exact ⟨Kgt', Kgt⟩
      by_cases c2 : 4294967296 * r + l1 < q * 2313682944
      · rw [decide_eq_true (mm.2 c2)]
        have q0 : 0 < q := Kp c2
        have nx := Kn i1 q0 eq' er'
        have le' : Q1 ≤ q' := eq' ▸ K2 i1 c2 e1 i3
        conv => whnf
        try (refine ⟨by kernel_rfl, ?_⟩; conv => whnf)
        rw [m4 q0, m5]
        conv => whnf
        try (refine ⟨by kernel_rfl, ?_⟩; conv => whnf)
        by_cases c3 : 4294967296 ≤ r'
        · rw [decide_eq_true (show (r' : Int) ≥ 4294967296 by omega)]
          conv => whnf
          try (refine ⟨by kernel_rfl, ?_⟩; conv => whnf)
          have eq : q' = Q1 := K1 nx c3 h1 hl1 e1 lU le'
          rw [eq, j1]
          clear i1 i2 i3 m1 m2 m3 m4 m5 eq
          obtain ⟨qa, ra, eqa, lra, k1, k2⟩ := kk3
          refine vloop_invK G0ok [] 0 (X := Nat × Nat) (fun x => [(18, nI .u64 x.1), (16, nI .u64 x.2), (17, nI .u64 U), (15, nI .u64 Q1), (14, nI .u64 l0), (10, nI .u64 2313682944), (9, nI .u64 2328306436), (8, nI .u64 0), (2, nI .u64 10000000000000000000)]) (fun _ => []) (fun x => x.1 * 2328306436 + x.2 = U ∧ x.2 < 4294967296 ∧ Q0 ≤ x.1) (fun x => x.1) (qa, ra) rfl
            ⟨⟨_, rfl, conv_nI (k1)⟩, ⟨_, rfl, conv_nI (k2)⟩, ⟨_, rfl, conv_nI (rfl)⟩, ⟨_, rfl, conv_nI (rfl)⟩, ⟨_, rfl, conv_nI (rfl)⟩, ⟨_, rfl, conv_nI (rfl)⟩, ⟨_, rfl, conv_nI (rfl)⟩, ⟨_, rfl, conv_nI (rfl)⟩, ⟨_, rfl, conv_nI (rfl)⟩, trivial⟩ trivial ⟨eqa, Nat.lt_trans lra (by decide), Ki eqa lra e2 d2⟩ ?_
          rintro ⟨q, r⟩ ⟨i1, i2, i3⟩
          dsimp only at i1 i2 i3 ⊢
          refine wpv_ok Γok (by kernel_rfl) _ _ _ ?_; conv => whnf
          have m1 : 4294967296 ≤ q ∨ wS .u64 ((q : Int) * 2313682944) = (q : Int) * 2313682944 := (Nat.lt_or_ge q 4294967296).symm.imp id Km1
          have m2 : wS .u64 (4294967296 * (r : Int)) = 4294967296 * (r : Int) := Km2 i2
          have m3 : wS .u64 (4294967296 * (r : Int) + (l0 : Int)) = 4294967296 * (r : Int) + (l0 : Int) := Km3 i2 d2
          obtain ⟨q', eq'⟩ : ∃ q', q' = q - 1 := ⟨_, rfl⟩
          obtain ⟨r', er'⟩ : ∃ r', r' = r + 2328306436 := ⟨_, rfl⟩
          have m4 : 0 < q → wS .u64 ((q : Int) - 1) = (q' : Int) := Km4 i1 lU eq'
          have m5 : wS .u64 ((r : Int) + 2328306436) = (r' : Int) := Km5 i2 er'
          by_cases c1 : 4294967296 ≤ q
          · rw [decide_eq_true (show (q : Int) ≥ 4294967296 by omega)]
            have q0 : 0 < q := Nat.lt_of_lt_of_le (by decide) c1
            have nx := Kn i1 q0 eq' er'
            have le' : Q0 ≤ q' := eq' ▸ K0 lU d2 c1 e2
            conv => whnf
            try (refine ⟨by kernel_rfl, ?_⟩; conv => whnf)
            rw [m4 q0, m5]
            conv => whnf
            try (refine ⟨by kernel_rfl, ?_⟩; conv => whnf)
            by_cases c3 : 4294967296 ≤ r'
            · rw [decide_eq_true (show (r' : Int) ≥ 4294967296 by omega)]
              conv => whnf
              try (refine ⟨by kernel_rfl, ?_⟩; conv => whnf)
              have eq : q' = Q0 := K1 nx c3 lU d2 e2 lR le'
              rw [eq, show (2 : Int) ^ min (Int.toNat 0) IntKind.u64.bits = 1 from rfl, z1, z2]
              exact ⟨_, rfl, rfl⟩
            · rw [decide_eq_false (show ¬ (r' : Int) ≥ 4294967296 by omega)]
              conv => whnf
              try (refine ⟨by kernel_rfl, ?_⟩; conv => whnf)
              refine next_round (y := (q, r)) G0ok (q', r') [] rfl ⟨⟨_, rfl, conv_nI (rfl)⟩, ⟨_, rfl, conv_nI (rfl)⟩, ⟨_, rfl, conv_nI (rfl)⟩, ⟨_, rfl, conv_nI (rfl)⟩, ⟨_, rfl, conv_nI (rfl)⟩, ⟨_, rfl, conv_nI (rfl)⟩, ⟨_, rfl, conv_nI (rfl)⟩, ⟨_, rfl, conv_nI (rfl)⟩, ⟨_, rfl, conv_nI (rfl)⟩, trivial⟩ trivial ⟨nx, Nat.lt_of_not_le c3, le'⟩ (Kq q0 eq')
          · rw [decide_eq_false (show ¬ (q : Int) ≥ 4294967296 by omega)]
            conv => whnf
            try (refine ⟨by kernel_rfl, ?_⟩; conv => whnf)
            have mm : (wS .u64 ((q : Int) * 2313682944) > wS .u64 (wS .u64 (4294967296 * (r : Int)) + (l0 : Int))) ↔ 4294967296 * r + l0 < q * 2313682944 := by
              rw [m1.resolve_left c1, m2, m3]
              exact ⟨Kgt', Kgt⟩
            by_cases c2 : 4294967296 * r + l0 < q * 2313682944
            · rw [decide_eq_true (mm.2 c2)]
              have q0 : 0 < q := Kp c2
              have nx := Kn i1 q0 eq' er'
              have le' : Q0 ≤ q' := eq' ▸ K2 i1 c2 e2 i3
              conv => whnf
              try (refine ⟨by kernel_rfl, ?_⟩; conv => whnf)
              rw [m4 q0, m5]
              conv => whnf
              try (refine ⟨by kernel_rfl, ?_⟩; conv => whnf)
              by_cases c3 : 4294967296 ≤ r'
              · rw [decide_eq_true (show (r' : Int) ≥ 4294967296 by omega)]
                conv => whnf
                try (refine ⟨by kernel_rfl, ?_⟩; conv => whnf)
                have eq : q' = Q0 := K1 nx c3 lU d2 e2 lR le'
                rw [eq, show (2 : Int) ^ min (Int.toNat 0) IntKind.u64.bits = 1 from rfl, z1, z2]
                exact ⟨_, rfl, rfl⟩
              · rw [decide_eq_false (show ¬ (r' : Int) ≥ 4294967296 by omega)]
                conv => whnf
                try (refine ⟨by kernel_rfl, ?_⟩; conv => whnf)
                refine next_round (y := (q, r)) G0ok (q', r') [] rfl ⟨⟨_, rfl, conv_nI (rfl)⟩, ⟨_, rfl, conv_nI (rfl)⟩, ⟨_, rfl, conv_nI (rfl)⟩, ⟨_, rfl, conv_nI (rfl)⟩, ⟨_, rfl, conv_nI (rfl)⟩, ⟨_, rfl, conv_nI (rfl)⟩, ⟨_, rfl, conv_nI (rfl)⟩, ⟨_, rfl, conv_nI (rfl)⟩, ⟨_, rfl, conv_nI (rfl)⟩, trivial⟩ trivial ⟨nx, Nat.lt_of_not_le c3, le'⟩ (Kq q0 eq')
            · rw [decide_eq_false (fun h => c2 (mm.1 h))]
              conv => whnf
              try (refine ⟨by kernel_rfl, ?_⟩; conv => whnf)
              have eq : q = Q0 := K3 i1 (Nat.le_of_not_lt c2) e2 lR i3
              rw [eq, show (2 : Int) ^ min (Int.toNat 0) IntKind.u64.bits = 1 from rfl, z1, z2]
              exact ⟨_, rfl, rfl⟩
        · rw [decide_eq_false (show ¬ (r' : Int) ≥ 4294967296 by omega)]
          conv => whnf
          try (refine ⟨by kernel_rfl, ?_⟩; conv => whnf)
          refine next_round (y := (q, r)) G0ok (q', r') [] rfl ⟨⟨_, rfl, conv_nI (rfl)⟩, ⟨_, rfl, conv_nI (rfl)⟩, ⟨_, rfl, conv_nI (rfl)⟩, ⟨_, rfl, conv_nI (rfl)⟩, ⟨_, rfl, conv_nI (rfl)⟩, ⟨_, rfl, conv_nI (rfl)⟩, ⟨_, rfl, conv_nI (rfl)⟩, ⟨_, rfl, conv_nI (rfl)⟩, ⟨_, rfl, conv_nI (rfl)⟩, trivial⟩ trivial ⟨nx, Nat.lt_of_not_le c3, le'⟩ (Kq q0 eq')
      · rw [decide_eq_false (fun h => c2 (mm.1 h))]
        conv => whnf
        try (refine ⟨by kernel_rfl, ?_⟩; conv => whnf)
        have eq : q = Q1 := K3 i1 (Nat.le_of_not_lt c2) e1 lU i3
        rw [eq, j1]
        clear i1 i2 i3 m1 m2 m3 m4 m5 eq
        obtain ⟨qa, ra, eqa, lra, k1, k2⟩ := kk3
        refine vloop_invK G0ok [] 0 (X := Nat × Nat) (fun x => [(18, nI .u64 x.1), (16, nI .u64 x.2), (17, nI .u64 U), (15, nI .u64 Q1), (14, nI .u64 l0), (10, nI .u64 2313682944), (9, nI .u64 2328306436), (8, nI .u64 0), (2, nI .u64 10000000000000000000)]) (fun _ => []) (fun x => x.1 * 2328306436 + x.2 = U ∧ x.2 < 4294967296 ∧ Q0 ≤ x.1) (fun x => x.1) (qa, ra) rfl
          ⟨⟨_, rfl, conv_nI (k1)⟩, ⟨_, rfl, conv_nI (k2)⟩, ⟨_, rfl, conv_nI (rfl)⟩, ⟨_, rfl, conv_nI (rfl)⟩, ⟨_, rfl, conv_nI (rfl)⟩, ⟨_, rfl, conv_nI (rfl)⟩, ⟨_, rfl, conv_nI (rfl)⟩, ⟨_, rfl, conv_nI (rfl)⟩, ⟨_, rfl, conv_nI (rfl)⟩, trivial⟩ trivial ⟨eqa, Nat.lt_trans lra (by decide), Ki eqa lra e2 d2⟩ ?_
        rintro ⟨q, r⟩ ⟨i1, i2, i3⟩
        dsimp only at i1 i2 i3 ⊢
        refine wpv_ok Γok (by kernel_rfl) _ _ _ ?_; conv => whnf
        have m1 : 4294967296 ≤ q ∨ wS .u64 ((q : Int) * 2313682944) = (q : Int) * 2313682944 := (Nat.lt_or_ge q 4294967296).symm.imp id Km1
        have m2 : wS .u64 (4294967296 * (r : Int)) = 4294967296 * (r : Int) := Km2 i2
        have m3 : wS .u64 (4294967296 * (r : Int) + (l0 : Int)) = 4294967296 * (r : Int) + (l0 : Int) := Km3 i2 d2
        obtain ⟨q', eq'⟩ : ∃ q', q' = q - 1 := ⟨_, rfl⟩
        obtain ⟨r', er'⟩ : ∃ r', r' = r + 2328306436 := ⟨_, rfl⟩
        have m4 : 0 < q → wS .u64 ((q : Int) - 1) = (q' : Int) := Km4 i1 lU eq'
        have m5 : wS .u64 ((r : Int) + 2328306436) = (r' : Int) := Km5 i2 er'
        by_cases c1 : 4294967296 ≤ q
        · rw [decide_eq_true (show (q : Int) ≥ 4294967296 by omega)]
          have q0 : 0 < q := Nat.lt_of_lt_of_le (by decide) c1
          have nx := Kn i1 q0 eq' er'
          have le' : Q0 ≤ q' := eq' ▸ K0 lU d2 c1 e2
          conv => whnf
          try (refine ⟨by kernel_rfl, ?_⟩; conv => whnf)
          rw [m4 q0, m5]
          conv => whnf
          try (refine ⟨by kernel_rfl, ?_⟩; conv => whnf)
          by_cases c3 : 4294967296 ≤ r'
          · rw [decide_eq_true (show (r' : Int) ≥ 4294967296 by omega)]
            conv => whnf
            try (refine ⟨by kernel_rfl, ?_⟩; conv => whnf)
            have eq : q' = Q0 := K1 nx c3 lU d2 e2 lR le'
            rw [eq, show (2 : Int) ^ min (Int.toNat 0) IntKind.u64.bits = 1 from rfl, z1, z2]
            exact ⟨_, rfl, rfl⟩
          · rw [decide_eq_false (show ¬ (r' : Int) ≥ 4294967296 by omega)]
            conv => whnf
            try (refine ⟨by kernel_rfl, ?_⟩; conv => whnf)
            refine next_round (y := (q, r)) G0ok (q', r') [] rfl ⟨⟨_, rfl, conv_nI (rfl)⟩, ⟨_, rfl, conv_nI (rfl)⟩, ⟨_, rfl, conv_nI (rfl)⟩, ⟨_, rfl, conv_nI (rfl)⟩, ⟨_, rfl, conv_nI (rfl)⟩, ⟨_, rfl, conv_nI (rfl)⟩, ⟨_, rfl, conv_nI (rfl)⟩, ⟨_, rfl, conv_nI (rfl)⟩, ⟨_, rfl, conv_nI (rfl)⟩, trivial⟩ trivial ⟨nx, Nat.lt_of_not_le c3, le'⟩ (Kq q0 eq')
        · rw [decide_eq_false (show ¬ (q : Int) ≥ 4294967296 by omega)]
          conv => whnf
          try (refine ⟨by kernel_rfl, ?_⟩; conv => whnf)
          have mm : (wS .u64 ((q : Int) * 2313682944) > wS .u64 (wS .u64 (4294967296 * (r : Int)) + (l0 : Int))) ↔ 4294967296 * r + l0 < q * 2313682944 := by
            rw [m1.resolve_left c1, m2, m3]
            exact ⟨Kgt', Kgt⟩
          by_cases c2 : 4294967296 * r + l0 < q * 2313682944
          · rw [decide_eq_true (mm.2 c2)]
            have q0 : 0 < q := Kp c2
            have nx := Kn i1 q0 eq' er'
            have le' : Q0 ≤ q' := eq' ▸ K2 i1 c2 e2 i3
            conv => whnf
            try (refine ⟨by kernel_rfl, ?_⟩; conv => whnf)
            rw [m4 q0, m5]
            conv => whnf
            try (refine ⟨by kernel_rfl, ?_⟩; conv => whnf)
            by_cases c3 : 4294967296 ≤ r'
            · rw [decide_eq_true (show (r' : Int) ≥ 4294967296 by omega)]
              conv => whnf
              try (refine ⟨by kernel_rfl, ?_⟩; conv => whnf)
              have eq : q' = Q0 := K1 nx c3 lU d2 e2 lR le'
              rw [eq, show (2 : Int) ^ min (Int.toNat 0) IntKind.u64.bits = 1 from rfl, z1, z2]
              exact ⟨_, rfl, rfl⟩
            · rw [decide_eq_false (show ¬ (r' : Int) ≥ 4294967296 by omega)]
              conv => whnf
              try (refine ⟨by kernel_rfl, ?_⟩; conv => whnf)
              refine next_round (y := (q, r)) G0ok (q', r') [] rfl ⟨⟨_, rfl, conv_nI (rfl)⟩, ⟨_, rfl, conv_nI (rfl)⟩, ⟨_, rfl, conv_nI (rfl)⟩, ⟨_, rfl, conv_nI (rfl)⟩, ⟨_, rfl, conv_nI (rfl)⟩, ⟨_, rfl, conv_nI (rfl)⟩, ⟨_, rfl, conv_nI (rfl)⟩, ⟨_, rfl, conv_nI (rfl)⟩, ⟨_, rfl, conv_nI (rfl)⟩, trivial⟩ trivial ⟨nx, Nat.lt_of_not_le c3, le'⟩ (Kq q0 eq')
          · rw [decide_eq_false (fun h => c2 (mm.1 h))]
            conv => whnf
            try (refine ⟨by kernel_rfl, ?_⟩; conv => whnf)
            have eq : q = Q0 := K3 i1 (Nat.le_of_not_lt c2) e2 lR i3
            rw [eq, show (2 : Int) ^ min (Int.toNat 0) IntKind.u64.bits = 1 from rfl, z1, z2]
            exact ⟨_, rfl, rfl⟩
end Go.Proofs.Ytlecdiopokalgaa
namespace Go.Proofs.Ytlecdiopokalgaa
set_option linter.unusedVariables false
set_option linter.unusedSimpArgs false
set_option linter.unusedSectionVars false
/-- Digits, the lowest one first. -/
def digF : Nat → Nat → List Nat
  | 0, _ => []
  | f + 1, n => if n = 0 then [] else n % 10 :: digF f (n / 10)
def dig (n : Nat) : List Nat := digF 80 n
def valL : List Nat → Nat
  | [] => 0
  | d :: t => d + 10 * valL t
theorem digF_zero (f : Nat) : digF f 0 = [] := by cases f <;> rfl
theorem digF_fuel : ∀ (f g n : Nat), n < 10 ^ f → n < 10 ^ g → digF f n = digF g n
  | 0, g, n, h, _ => by
    have : n = 0 := by simpa using h
    subst this
    rw [digF_zero, digF_zero]
  | f + 1, 0, n, _, h => by
    have : n = 0 := by simpa using h
    subst this
    rw [digF_zero, digF_zero]
  | f + 1, g + 1, n, hf, hg => by
    unfold digF
    rw [digF_fuel f g (n / 10) (by rw [Nat.pow_succ] at hf; omega) (by rw [Nat.pow_succ] at hg; omega)]
theorem digF_step {f n : Nat} (h : n < 10 ^ f) (h0 : 0 < n) : digF f n = n % 10 :: digF f (n / 10) := by
  have hf : 0 < f := by
    rcases Nat.eq_zero_or_pos f with e | e
    · subst e; simp at h; omega
    · exact e
  obtain ⟨g, rfl⟩ : ∃ g, f = g + 1 := ⟨f - 1, by omega⟩
  rw [digF, if_neg (by omega), digF_fuel g (g + 1) (n / 10) (by rw [Nat.pow_succ] at h; omega) (by omega)]
theorem digF_lt : ∀ (f n : Nat), ∀ d ∈ digF f n, d < 10
  | 0, _, d, h => by cases h
  | f + 1, n, d, h => by
    unfold digF at h
    split at h
    · cases h
    · rcases List.mem_cons.1 h with e | e
      · omega
      · exact digF_lt f _ d e
theorem valL_digF : ∀ (f n : Nat), n < 10 ^ f → valL (digF f n) = n
  | 0, n, h => by
    have : n = 0 := by simpa using h
    subst this; rfl
  | f + 1, n, h => by
    unfold digF
    split
    · rename_i e; subst e; rfl
    · show n % 10 + 10 * valL (digF f (n / 10)) = n
      rw [valL_digF f (n / 10) (by rw [Nat.pow_succ] at h; omega)]
      omega
theorem digF_len : ∀ (f n k : Nat), n < 10 ^ k → (digF f n).length ≤ k
  | 0, _, _, _ => Nat.zero_le _
  | f + 1, n, k, h => by
    unfold digF
    split
    · exact Nat.zero_le _
    · rename_i h0
      cases k with
      | zero => simp at h; omega
      | succ k =>
        have := digF_len f (n / 10) k (by rw [Nat.pow_succ] at h; omega)
        simp only [List.length_cons]
        omega
/-- The last digit is not nought. -/
theorem digF_last : ∀ (f n : Nat) (l : List Nat) (d : Nat), n < 10 ^ f → digF f n = l ++ [d] → d ≠ 0
  | 0, n, l, d, _, e => by
    have := congrArg List.length e
    simp [digF] at this
  | f + 1, n, l, d, h, e => by
    unfold digF at e
    split at e
    · have := congrArg List.length e
      simp at this
    · rename_i h0
      cases l with
      | nil =>
        have e := List.cons.inj e
        have h2 : n / 10 < 10 ^ f := by rw [Nat.pow_succ] at h; omega
        have := valL_digF f (n / 10) h2
        rw [e.2] at this
        have : n / 10 = 0 := this.symm
        omega
      | cons x l =>
        have e := List.cons.inj e
        exact digF_last f (n / 10) l d (by rw [Nat.pow_succ] at h; omega) e.2
theorem valL_app (l : List Nat) (d : Nat) : valL (l ++ [d]) = valL l + 10 ^ l.length * d := by
  induction l with
  | nil => simp [valL]
  | cons x l ih =>
    show x + 10 * valL (l ++ [d]) = x + 10 * valL l + 10 ^ (l.length + 1) * d
    rw [ih, Nat.pow_succ, Nat.mul_add, Nat.mul_comm (10 ^ l.length) 10, Nat.mul_assoc, Nat.add_assoc]
theorem valL_lt : ∀ (l : List Nat), (∀ d ∈ l, d < 10) → valL l < 10 ^ l.length
  | [], _ => by decide
  | x :: l, h => by
    have := valL_lt l fun d hd => h d (List.mem_cons_of_mem _ hd)
    have := h x List.mem_cons_self
    show x + 10 * valL l < 10 ^ (l.length + 1)
    rw [Nat.pow_succ]
    omega
theorem digF_valL : ∀ (l : List Nat) (f : Nat), (∀ d ∈ l, d < 10) → (∀ m d, l = m ++ [d] → d ≠ 0) → l.length ≤ f → digF f (valL l) = l
  | [], f, _, _, _ => digF_zero f
  | x :: l, 0, _, _, h => by cases h
  | x :: l, f + 1, hd, hl, h => by
    have hx := hd x List.mem_cons_self
    have h0 : valL (x :: l) ≠ 0 := by
      intro e
      have e : x + 10 * valL l = 0 := e
      cases l with
      | nil => exact hl [] x rfl (by omega)
      | cons y t =>
        obtain ⟨m, d, em⟩ : ∃ m d, y :: t = m ++ [d] := ⟨(y :: t).dropLast, (y :: t).getLast (by simp), (List.dropLast_concat_getLast (by simp)).symm⟩
        have := hl (x :: m) d (by rw [em]; rfl)
        rw [em, valL_app] at e
        have : 0 < 10 ^ m.length * d := Nat.mul_pos (Nat.pow_pos (by decide)) (by omega)
        omega
    unfold digF
    rw [if_neg h0]
    have e1 : valL (x :: l) % 10 = x := by show (x + 10 * valL l) % 10 = x; omega
    have e2 : valL (x :: l) / 10 = valL l := by show (x + 10 * valL l) / 10 = valL l; omega
    rw [e1, e2, digF_valL l f (fun d h => hd d (List.mem_cons_of_mem _ h)) (fun m d e => hl (x :: m) d (by rw [e]; rfl)) (by simpa using h)]
theorem T256_dig : T256 < 10 ^ 78 := by decide
theorem dig_step {n : Nat} (h : n < T256) (h0 : 0 < n) : dig n = n % 10 :: dig (n / 10) := digF_step (Nat.lt_trans h (by decide)) h0
theorem dig_zero : dig 0 = [] := rfl
theorem dig_lt {n : Nat} : ∀ d ∈ dig n, d < 10 := digF_lt 80 n
theorem dig_len {n : Nat} (h : n < T256) : (dig n).length ≤ 78 := digF_len 80 n 78 (Nat.lt_trans h T256_dig)
theorem dig_val {n : Nat} (h : n < T256) : valL (dig n) = n := valL_digF 80 n (Nat.lt_trans h (by decide))
theorem dig_pos {n : Nat} (h : n < T256) (h0 : 0 < n) : 0 < (dig n).length := by rw [dig_step h h0]; exact Nat.succ_pos _
/-- A number by 10^19. -/
theorem div_limbs {a0 a1 a2 a3 t : Nat} (ht : t = 10000000000000000000) (h3 : a3 < B64) (h2 : a2 < B64) (h1 : a1 < B64) (h0 : a0 < B64) :
    val4 (((((a3 % t) * B64 + a2) % t * B64 + a1) % t * B64 + a0) / t) ((((a3 % t) * B64 + a2) % t * B64 + a1) / t) (((a3 % t) * B64 + a2) / t) (a3 / t) = val4 a0 a1 a2 a3 / t ∧
    ((((a3 % t) * B64 + a2) % t * B64 + a1) % t * B64 + a0) % t = val4 a0 a1 a2 a3 % t := by
  subst ht
  unfold val4
  have e3 := Nat.mod_add_div a3 10000000000000000000
  have l3 := Nat.mod_lt a3 (show 0 < 10000000000000000000 by decide)
  revert e3 l3
  generalize a3 % 10000000000000000000 = r3
  generalize a3 / 10000000000000000000 = q3
  intro e3 l3
  have e2 := Nat.mod_add_div (r3 * B64 + a2) 10000000000000000000
  have l2 := Nat.mod_lt (r3 * B64 + a2) (show 0 < 10000000000000000000 by decide)
  revert e2 l2
  generalize (r3 * B64 + a2) % 10000000000000000000 = r2
  generalize (r3 * B64 + a2) / 10000000000000000000 = q2
  intro e2 l2
  have e1 := Nat.mod_add_div (r2 * B64 + a1) 10000000000000000000
  have l1 := Nat.mod_lt (r2 * B64 + a1) (show 0 < 10000000000000000000 by decide)
  revert e1 l1
  generalize (r2 * B64 + a1) % 10000000000000000000 = r1
  generalize (r2 * B64 + a1) / 10000000000000000000 = q1
  intro e1 l1
  have e0 := Nat.mod_add_div (r1 * B64 + a0) 10000000000000000000
  have l0 := Nat.mod_lt (r1 * B64 + a0) (show 0 < 10000000000000000000 by decide)
  revert e0 l0
  generalize (r1 * B64 + a0) % 10000000000000000000 = r0
  generalize (r1 * B64 + a0) / 10000000000000000000 = q0
  intro e0 l0
  have key : a0 + B64 * a1 + B64 * B64 * a2 + B64 * B64 * B64 * a3 = r0 + 10000000000000000000 * (q0 + B64 * q1 + B64 * B64 * q2 + B64 * B64 * B64 * q3) := by
    unfold B64 at *
    omega
  rw [key]
  constructor
  · rw [Nat.add_mul_div_left _ _ (by decide), Nat.div_eq_of_lt l0, Nat.zero_add]
  · rw [Nat.add_mul_mod_self_left, Nat.mod_eq_of_lt l0]
theorem chunk {N k : Nat} (hk : k < 19) : N % 10000000000000000000 / 10 ^ k % 10 = N / 10 ^ k % 10 ∧ (N % 10000000000000000000 / 10 ^ k = 0 ∧ N / 10000000000000000000 = 0 ↔ N / 10 ^ k = 0) := by
  have e : (10000000000000000000 : Nat) = 10 ^ k * (10 * 10 ^ (18 - k)) := by
    rw [← Nat.pow_succ', ← Nat.pow_add, show k + (18 - k).succ = 19 by omega]
  have p : 0 < 10 ^ k := Nat.pow_pos (by decide)
  have p2 : 0 < 10 ^ (18 - k) := Nat.pow_pos (by decide)
  have d := Nat.mod_add_div N 10000000000000000000
  revert d
  generalize N % 10000000000000000000 = r
  generalize N / 10000000000000000000 = q
  intro d
  have s : N / 10 ^ k = r / 10 ^ k + 10 * 10 ^ (18 - k) * q := by
    rw [← d, e, Nat.mul_assoc, Nat.add_mul_div_left _ _ p]
  rw [s]
  constructor
  · rw [Nat.mul_assoc, Nat.add_mul_mod_self_left]
  · constructor
    · rintro ⟨h1, h2⟩; rw [h1, h2]; rfl
    · intro h
      obtain ⟨h1, h2⟩ := Nat.add_eq_zero_iff.1 h
      refine ⟨h1, ?_⟩
      rcases Nat.mul_eq_zero.1 h2 with g | g
      · omega
      · exact g
/-- A list half turned round. -/
def swapL (D : List Nat) (i : Nat) : List Nat := (List.range D.length).map fun x => if x < i ∨ D.length ≤ x + i then D.getD (D.length - 1 - x) 0 else D.getD x 0
theorem swapL_len (D : List Nat) (i : Nat) : (swapL D i).length = D.length := by unfold swapL; rw [List.length_map, List.length_range]
theorem swapL_get {D : List Nat} {i x : Nat} (hx : x < (swapL D i).length) : (swapL D i)[x] = if x < i ∨ D.length ≤ x + i then D.getD (D.length - 1 - x) 0 else D.getD x 0 := by
  simp only [swapL, List.getElem_map, List.getElem_range]
theorem swapL_zero (D : List Nat) : swapL D 0 = D := by
  apply List.ext_getElem (swapL_len D 0)
  intro x h1 h2
  rw [swapL_get h1, if_neg (by omega), List.getD_eq_getElem?_getD, List.getElem?_eq_getElem h2]
  rfl
theorem swapL_end {D : List Nat} {i : Nat} (h : D.length ≤ 2 * i + 1) : swapL D i = D.reverse := by
  apply List.ext_getElem (by rw [swapL_len, List.length_reverse])
  intro x h1 h2
  have hx : x < D.length := by rw [swapL_len] at h1; exact h1
  rw [swapL_get h1, List.getElem_reverse]
  split
  · rw [List.getD_eq_getElem?_getD, List.getElem?_eq_getElem (by omega)]; rfl
  · rw [List.getD_eq_getElem?_getD, List.getElem?_eq_getElem hx]
    have e : x = D.length - 1 - x := by omega
    simp only [Option.getD_some]
    congr 1
theorem swapL_step {D : List Nat} {i j : Nat} (h : i < j) (e : i + j + 1 = D.length) : ((swapL D i).set i (D.getD j 0)).set j (D.getD i 0) = swapL D (i + 1) := by
  apply List.ext_getElem (by rw [List.length_set, List.length_set, swapL_len, swapL_len])
  intro x h1 h2
  have hx : x < D.length := by rw [swapL_len] at h2; exact h2
  rw [swapL_get h2, List.getElem_set, List.getElem_set]
  by_cases xj : j = x
  · subst xj
    rw [if_pos rfl, if_pos (by omega)]
    congr 1
    omega
  · rw [if_neg xj]
    by_cases xi : i = x
    · subst xi
      rw [if_pos rfl, if_pos (by omega)]
      congr 1
      omega
    · rw [if_neg xi, swapL_get]
      by_cases g : x < i ∨ D.length ≤ x + i
      · rw [if_pos g, if_pos (by omega)]
      · rw [if_neg g, if_neg (by omega)]
/-- A number of its digits, the highest one first. -/
def valB : List Nat → Nat → Nat
  | l, 0 => 0
  | l, i + 1 => valB l i * 10 + (l.getD i 0 - 48)
end Go.Proofs.Ytlecdiopokalgaa
namespace Go.Proofs.Ytlecdiopokalgaa
set_option linter.unusedVariables false
set_option linter.unusedSimpArgs false
set_option linter.unusedSectionVars false
open Go.ChangeShapes Go.WideShapes Go.ChangeAt Go.RowKit Go.Joins
set_option maxRecDepth 10000
/-- The bytes of digits. -/
def asc (l : List Nat) : List Nat := l.map fun d => 48 + d
theorem nez_uW {a : Nat} (ha : a < T256) : EqAgg Try.prog .neq 42 (uC a) (words [0, 0, 0, 0]) (!decide (a = 0)) := by
  have h := ne_uC ha (b := 0) (by decide)
  rwa [uC_lit (n := 0) (by decide)] at h
theorem div64_of {hi lo Q R : Nat} (h1 : hi < 10000000000000000000) (h2 : lo < 18446744073709551616) (e : hi * 18446744073709551616 + lo = 10000000000000000000 * Q + R) (lR : R < 10000000000000000000) : FnV Try.prog G0 68 [nI .u64 hi, nI .u64 lo, nI .u64 10000000000000000000] (.tup [nI .u64 Q, nI .u64 R]) := by
  obtain ⟨a, b⟩ := div_of e lR
  have := div64_fn h1 h2
  rw [a, b] at this
  exact this
theorem lim_step {A B t X r c q s : Nat} (a : A = t * X + r) (e : r * B + c = t * q + s) : c + B * A = t * (q + B * X) + s := by
  have : B * (t * X + r) = t * (B * X) + r * B := by rw [Nat.mul_add, Nat.mul_left_comm, Nat.mul_comm B r]
  rw [a, this, Nat.mul_add]
  omega
theorem val4_horner (a b c d : Nat) : val4 a b c d = a + 18446744073709551616 * (b + 18446744073709551616 * (c + 18446744073709551616 * d)) := by
  show a + B64 * b + B64 * B64 * c + B64 * B64 * B64 * d = a + B64 * (b + B64 * (c + B64 * d))
  simp only [Nat.mul_add, Nat.mul_assoc]
  omega
theorem lim_div {a0 a1 a2 a3 q0 q1 q2 q3 r0 r1 r2 r3 : Nat} (e3 : 0 * 18446744073709551616 + a3 = 10000000000000000000 * q3 + r3) (e2 : r3 * 18446744073709551616 + a2 = 10000000000000000000 * q2 + r2) (e1 : r2 * 18446744073709551616 + a1 = 10000000000000000000 * q1 + r1) (e0 : r1 * 18446744073709551616 + a0 = 10000000000000000000 * q0 + r0) :
    val4 a0 a1 a2 a3 = 10000000000000000000 * val4 q0 q1 q2 q3 + r0 := by
  have h3 : a3 = 10000000000000000000 * q3 + r3 := by rw [Nat.zero_mul, Nat.zero_add] at e3; exact e3
  have h2 := lim_step (B := 18446744073709551616) h3 e2
  have h1 := lim_step (B := 18446744073709551616) h2 e1
  have h0 := lim_step (B := 18446744073709551616) h1 e0
  rw [val4_horner, val4_horner]
  exact h0
theorem q_lt {hi lo Q R : Nat} (h1 : hi < 10000000000000000000) (h2 : lo < B64) (e : hi * 18446744073709551616 + lo = 10000000000000000000 * Q + R) : Q < B64 := by
  unfold B64 at *
  omega
theorem show_lt {n N r : Nat} (e : n = 10000000000000000000 * N + r) (np : 0 < n) (hn : n < T256) : N < n ∧ N < T256 := by omega
theorem dig_byte {L : Nat} (h : L < 18446744073709551616) : wS .u8 (wS .u64 (48 + (L : Int).tmod 10)) = ((48 + L % 10 : Nat) : Int) := by
  rw [Int.tmod_eq_emod_of_nonneg (by omega), ws_u64n (by omega) (by omega), ws_u8]
  omega
theorem dig_ten {L : Nat} (h : L < 18446744073709551616) : wS .u64 ((L : Int).tdiv 10) = ((L / 10 : Nat) : Int) := by
  rw [Int.tdiv_eq_ediv_of_nonneg (by omega), ws_u64n (by omega) (by omega)]
  omega
theorem uC_noH (n : Nat) : noHs (uC n) = true := rfl
theorem bts_swap (l : List Nat) (i j x y : Nat) : ((bts l).set i (nI .u8 (x : Int))).set j (nI .u8 (y : Int)) = bts ((l.set i x).set j y) := by rw [bts_set, bts_set]
theorem bts_byV (l : List Nat) (h : ∀ x ∈ l, x < 256) : bts l = (l.map fun n => n.toUInt8).map byV := by
  unfold bts
  rw [List.map_map]
  refine List.map_congr_left fun x hx => ?_
  have := h x hx
  show nI .u8 (x : Int) = .v (.int .u8 ((x.toUInt8.toNat : Nat) : Int))
  rw [show x.toUInt8.toNat = x from by simp; omega]
  rfl
theorem show_fn {a : Nat} (ha : a < T256) : FnV Try.prog G0 41 [uV a] (.v (.string ⟨((if a = 0 then [48] else (asc (dig a)).reverse).map fun n => n.toUInt8).toArray⟩)) := by
  unfold uV
  refine fn_of_vwp Γok Try.func41 (by kernel_rfl) rfl (by simp [Try.ntmps41]) (wpv_ok Γok (by kernel_rfl) _ _ _ ?_); conv => whnf
  have nO : ∀ l, noHs (bts (asc l)) = true := fun l => bts_noHs _
  refine vloop_invK G0ok [(0, some 0), (1, none)] 2 (X := Nat × List Nat) (fun x => [(3, .sl 1 0 x.2.length 1), (2, .v (.string ⟨#[]⟩)), (1, .ptr 0 0)]) (fun x => [(0, some (uC x.1)), (1, some (bts (asc x.2)))]) (fun x => x.2 ++ dig x.1 = dig a ∧ x.1 < T256) (fun x => x.1) (a, []) rfl
    ⟨⟨_, rfl, .null rfl⟩, ⟨_, rfl, .same rfl⟩, ⟨_, rfl, .ptr rfl⟩, trivial⟩ ⟨.inr ⟨_, _, rfl, rfl, .same rfl⟩, .inl ⟨rfl, rfl⟩, trivial⟩ ⟨rfl, ha⟩ ?_
  rintro ⟨n, O⟩ ⟨hO, hn⟩
  dsimp only at hO hn ⊢
  refine wpv_ok Γok (by kernel_rfl) _ _ _ ?_; conv => whnf
  refine ⟨_, nez_uW hn, ?_⟩
  by_cases h0 : n = 0
  · rw [decide_eq_true h0]
    subst h0
    rw [dig_zero, List.append_nil] at hO
    subst hO
    conv => whnf
    try (refine ⟨by kernel_rfl, ?_⟩; conv => whnf)
    by_cases a0 : a = 0
    · subst a0
      conv => whnf
      try (refine ⟨by kernel_rfl, ?_⟩; conv => whnf)
      rw [if_pos rfl]
      exact ⟨_, rfl, rfl⟩
    · have dp := dig_pos ha (by omega)
      have dl := dig_len ha
      rw [show (((dig a).length : Int) == 0) = false from (beq_lit _ 0).trans (decide_eq_false (by omega))]
      rw [if_neg a0]
      conv => whnf
      try (refine ⟨by kernel_rfl, ?_⟩; conv => whnf)
      rw [ws_i64 (x := ((dig a).length : Int) - 1) (by omega) (by omega)]
      have al : (asc (dig a)).length = (dig a).length := by rw [asc, List.length_map]
      have ad : ∀ x ∈ asc (dig a), x < 256 := fun x hx => by
        obtain ⟨d, hd, rfl⟩ := List.mem_map.1 hx
        have := dig_lt d hd
        omega
      rw [← al] at dp dl ⊢
      clear al
      refine gen_ex (asc (dig a)) fun D eD => ?_
      rw [← eD] at dp dl ad ⊢
      have nS : ∀ l : List Nat, noHs (bts l) = true := bts_noHs
      refine vloop_invK G0ok [(0, some 1)] 1 (X := Nat) (fun i => [(8, nI .i64 ((D.length : Int) - 1 - i)), (7, nI .i64 i), (3, .sl 0 0 D.length 1), (2, .v (.string ⟨#[]⟩))]) (fun i => [(0, some (bts (swapL D i)))]) (fun i => 2 * i ≤ D.length) (fun i => D.length - i) 0 rfl
        ⟨⟨_, rfl, conv_nI (by omega)⟩, ⟨_, rfl, conv_nI (rfl)⟩, ⟨_, rfl, .sl rfl⟩, ⟨_, rfl, .same rfl⟩, trivial⟩ ⟨.inr ⟨_, _, rfl, rfl, convs_eq (by rw [swapL_zero]) (nS _)⟩, trivial⟩ (Nat.zero_le _) ?_
      intro i hi
      try dsimp only at hi ⊢
      refine wpv_ok Γok (by kernel_rfl) _ _ _ ?_; conv => whnf
      have sl := swapL_len D i
      refine bool_cases (fun hc => ?_) (fun hc => ?_)
      · have hc := of_decide_eq_true hc
        obtain ⟨j, hj⟩ : ∃ j, i + j + 1 = D.length := ⟨D.length - 1 - i, by omega⟩
        have ij : i < j := by omega
        have gi : (swapL D i).getD i 0 = D.getD i 0 := by
          rw [List.getD_eq_getElem?_getD, List.getElem?_eq_getElem (by omega), Option.getD_some, swapL_get, if_neg (by omega)]
        have gj : (swapL D i).getD j 0 = D.getD j 0 := by
          rw [List.getD_eq_getElem?_getD, List.getElem?_eq_getElem (by omega), Option.getD_some, swapL_get, if_neg (by omega)]
        have st := swapL_step ij hj
        rw [show (D.length : Int) - 1 - i = (j : Int) by omega]
        conv => whnf
        try (refine ⟨by kernel_rfl, ?_⟩; conv => whnf)
        refine bindP_intro (if_pos (inB_ok (by omega) (by omega))) ?_; conv => whnf
        refine bindP_intro (bts_ix (i := j) (by dsimp only; omega) (by omega)) ?_
        rw [gj]
        conv => whnf
        try (refine ⟨by kernel_rfl, ?_⟩; conv => whnf)
        refine bindP_intro (if_pos (inB_ok (by omega) (by omega))) ?_; conv => whnf
        refine bindP_intro (bts_ix (i := i) (by dsimp only; omega) (by omega)) ?_
        rw [gi]
        conv => whnf
        try (refine ⟨by kernel_rfl, ?_⟩; conv => whnf)
        refine bindP_intro (if_pos (inB_ok (by omega) (by omega))) ?_; conv => whnf
        refine onlyIf_intro (by simp [bts_length, sl]; omega) ?_
        conv => whnf
        try (refine ⟨by kernel_rfl, ?_⟩; conv => whnf)
        refine bindP_intro (if_pos (inB_ok (by omega) (by omega))) ?_; conv => whnf
        refine onlyIf_intro (by simp [bts_length, sl]; omega) ?_
        conv => whnf
        try (refine ⟨by kernel_rfl, ?_⟩; conv => whnf)
        refine next_round (y := i) G0ok (i + 1) [(0, some 0)] rfl ⟨⟨_, rfl, conv_nI (by rw [ws_i64 (x := (j : Int) - 1) (by omega) (by omega)]; omega)⟩, ⟨_, rfl, conv_nI (ws_i64 (by omega) (by omega))⟩, ⟨_, rfl, .sl rfl⟩, ⟨_, rfl, .same rfl⟩, trivial⟩ ⟨.inr ⟨_, _, rfl, rfl, convs_eq (by simp only [Int.toNat_natCast, Nat.mul_one, Nat.zero_add]; exact (bts_swap _ _ _ _ _).trans (by rw [st])) (nS _)⟩, trivial⟩ (by omega) (by omega)
      · have hc := of_decide_eq_false hc
        have se := swapL_end (D := D) (i := i) (by omega)
        rw [se]
        have lr : (bts D.reverse).length = D.length := by rw [bts_length, List.length_reverse]
        conv => whnf
        try (refine ⟨by kernel_rfl, ?_⟩; conv => whnf)
        refine bindP_intro (view_whole rfl (by rw [lr]; simp)) ?_
        refine ⟨D.reverse.map fun n => n.toUInt8, ?_, ?_, ?_⟩
        · exact bts_byV _ fun x hx => ad x (List.mem_reverse.1 hx)
        · simp
        · conv => whnf
          try (refine ⟨by kernel_rfl, ?_⟩; conv => whnf)
          exact ⟨_, rfl, rfl⟩
  · rw [decide_eq_false h0]
    have np : 0 < n := by omega
    obtain ⟨a0, a1, a2, a3, k0, k1, k2, k3, en⟩ := limbs hn
    have eu : uC n = words [a0, a1, a2, a3] := by subst en; exact VV.agg.inj (uV_val4 k0 k1 k2 k3)
    rw [eu]
    conv => whnf
    try (refine ⟨by kernel_rfl, ?_⟩; conv => whnf)
    clear eu
    obtain ⟨q3, r3, e3, l3⟩ := divmod_ex (0 * 18446744073709551616 + a3) (show 0 < 10000000000000000000 by decide)
    obtain ⟨q2, r2, e2, l2⟩ := divmod_ex (r3 * 18446744073709551616 + a2) (show 0 < 10000000000000000000 by decide)
    obtain ⟨q1, r1, e1, l1⟩ := divmod_ex (r2 * 18446744073709551616 + a1) (show 0 < 10000000000000000000 by decide)
    obtain ⟨q0, r0, e0, l0⟩ := divmod_ex (r1 * 18446744073709551616 + a0) (show 0 < 10000000000000000000 by decide)
    have c3 := div64_of (by decide) k3 e3 l3
    have c2 := div64_of l3 k2 e2 l2
    have c1 := div64_of l2 k1 e1 l1
    have c0 := div64_of l1 k0 e0 l0
    have m3 := q_lt (by decide) k3 e3
    have m2 := q_lt l3 k2 e2
    have m1 := q_lt l2 k1 e1
    have m0 := q_lt l1 k0 e0
    have en2 := lim_div e3 e2 e1 e0
    rw [← en] at en2
    clear e0 e1 e2 e3
    have eu : uC (val4 q0 q1 q2 q3) = words [q0, q1, q2, q3] := VV.agg.inj (uV_val4 m0 m1 m2 m3)
    have hN : val4 q0 q1 q2 q3 < n ∧ val4 q0 q1 q2 q3 < T256 := show_lt en2 np hn
    refine vloop_unroll ?_
    refine wpv_ok Γok (by kernel_rfl) _ _ _ ?_; conv => whnf
    refine ⟨_, ret_of_fn G0ok (c3) (by first | rfl | simp only [noHs, noH, nI, bI, Bool.and_self, Bool.and_true, Bool.true_and, ]) (by first | rfl | simp only [noHs, noH, nI, bI, Bool.and_self, Bool.and_true, Bool.true_and, ]), ?_⟩; (conv => whnf); (try (refine ⟨by kernel_rfl, ?_⟩; conv => whnf))
    rw [ws_i64 (x := 3 - 1) (by decide) (by decide)]
    refine vloop_unroll ?_
    refine wpv_ok Γok (by kernel_rfl) _ _ _ ?_; conv => whnf
    refine ⟨_, ret_of_fn G0ok (c2) (by first | rfl | simp only [noHs, noH, nI, bI, Bool.and_self, Bool.and_true, Bool.true_and, ]) (by first | rfl | simp only [noHs, noH, nI, bI, Bool.and_self, Bool.and_true, Bool.true_and, ]), ?_⟩; (conv => whnf); (try (refine ⟨by kernel_rfl, ?_⟩; conv => whnf))
    rw [ws_i64 (x := 3 - 1 - 1) (by decide) (by decide)]
    refine vloop_unroll ?_
    refine wpv_ok Γok (by kernel_rfl) _ _ _ ?_; conv => whnf
    refine ⟨_, ret_of_fn G0ok (c1) (by first | rfl | simp only [noHs, noH, nI, bI, Bool.and_self, Bool.and_true, Bool.true_and, ]) (by first | rfl | simp only [noHs, noH, nI, bI, Bool.and_self, Bool.and_true, Bool.true_and, ]), ?_⟩; (conv => whnf); (try (refine ⟨by kernel_rfl, ?_⟩; conv => whnf))
    rw [ws_i64 (x := 3 - 1 - 1 - 1) (by decide) (by decide)]
    refine vloop_unroll ?_
    refine wpv_ok Γok (by kernel_rfl) _ _ _ ?_; conv => whnf
    refine ⟨_, ret_of_fn G0ok (c0) (by first | rfl | simp only [noHs, noH, nI, bI, Bool.and_self, Bool.and_true, Bool.true_and, ]) (by first | rfl | simp only [noHs, noH, nI, bI, Bool.and_self, Bool.and_true, Bool.true_and, ]), ?_⟩; (conv => whnf); (try (refine ⟨by kernel_rfl, ?_⟩; conv => whnf))
    rw [ws_i64 (x := 3 - 1 - 1 - 1 - 1) (by decide) (by decide)]
    refine vloop_unroll ?_
    refine wpv_ok Γok (by kernel_rfl) _ _ _ ?_; conv => whnf
    obtain ⟨dn, mn⟩ := div_of en2 l0
    refine gen_ex (val4 q0 q1 q2 q3) fun N eN => ?_
    rw [← eN] at eu hN dn
    refine vloop_invK G0ok [(0, some 0), (1, some 1)] 2 (X := Nat × Nat × List Nat) (fun x => [(6, nI .i64 x.1), (4, nI .u64 x.2.1), (3, .sl 1 0 x.2.2.length 1), (2, .v (.string ⟨#[]⟩)), (1, .ptr 0 0)]) (fun x => [(0, some (uC N)), (1, some (bts (asc x.2.2)))]) (fun x => x.1 ≤ 19 ∧ x.2.1 = n % 10000000000000000000 / 10 ^ x.1 ∧ x.2.1 < 18446744073709551616 ∧ x.2.2.length ≤ 100 ∧ x.2.2 ++ dig (n / 10 ^ x.1) = dig a) (fun x => 19 - x.1) (0, r0, O) rfl
      ⟨⟨_, rfl, conv_nI (rfl)⟩, ⟨_, rfl, conv_nI (rfl)⟩, ⟨_, rfl, .sl rfl⟩, ⟨_, rfl, .same rfl⟩, ⟨_, rfl, .ptr rfl⟩, trivial⟩ ⟨.inr ⟨_, _, rfl, rfl, convs_eq (eu.symm) (rfl)⟩, .inr ⟨_, _, rfl, rfl, .same (nO _)⟩, trivial⟩ ⟨Nat.zero_le _, by show r0 = _; rw [mn, Nat.pow_zero, Nat.div_one], Nat.lt_trans l0 (by decide), by show O.length ≤ 100; have := congrArg List.length hO; have := dig_len ha; rw [List.length_append] at *; omega, by show O ++ dig (n / 10 ^ 0) = _; rw [Nat.pow_zero, Nat.div_one]; exact hO⟩ ?_
    rintro ⟨k, L, P⟩ ⟨i1, i2, i4, i5, i3⟩
    dsimp only at i1 i2 i3 i4 i5 ⊢
    refine wpv_ok Γok (by kernel_rfl) _ _ _ ?_; conv => whnf
    have ez := nez_uW hN.2
    have again : k < 19 → 0 < n / 10 ^ k → k + 1 ≤ 19 ∧ L / 10 = n % 10000000000000000000 / 10 ^ (k + 1) ∧ L / 10 < 18446744073709551616 ∧ (P ++ [L % 10]).length ≤ 100 ∧ (P ++ [L % 10]) ++ dig (n / 10 ^ (k + 1)) = dig a := fun hk hp => by
      have ck := (chunk (N := n) hk).1
      have dl := dig_len ha
      have nl : n / 10 ^ k < T256 := Nat.lt_of_le_of_lt (Nat.div_le_self _ _) hn
      rw [← i2] at ck
      have st := dig_step nl hp
      rw [Nat.div_div_eq_div_mul, ← Nat.pow_succ] at st
      have e3 : (P ++ [L % 10]) ++ dig (n / 10 ^ (k + 1)) = dig a := by rw [List.append_assoc, ck, ← i3, st]; rfl
      refine ⟨hk, by rw [i2, Nat.div_div_eq_div_mul, ← Nat.pow_succ], by omega, ?_, e3⟩
      have := congrArg List.length e3
      rw [List.length_append] at this
      omega
    have done : n / 10 ^ k = 0 ∨ k = 19 → P ++ dig N = dig a := fun h => by
      rcases h with h | h
      · rw [h] at i3
        rw [show N = 0 from ?_]
        · exact i3
        · have : n / 10000000000000000000 ≤ n / 10 ^ k := Nat.div_le_div_left (show 10 ^ k ≤ 10 ^ 19 from Nat.pow_le_pow_right (by decide) i1) (Nat.pow_pos (by decide))
          omega
      · rw [← dn]; rw [h] at i3; exact i3
    by_cases hk : k < 19
    · have ck := (chunk (N := n) hk).2
      rw [← i2, dn] at ck
      rw [decide_eq_true (show (k : Int) < 19 by omega)]
      conv => whnf
      try (refine ⟨by kernel_rfl, ?_⟩; conv => whnf)
      by_cases hL : 0 < L
      · have ag := again hk (Nat.pos_of_ne_zero fun q => absurd (ck.2 q).1 (by omega))
        rw [decide_eq_true (show (L : Int) > 0 by omega)]
        conv => whnf
        try (refine ⟨by kernel_rfl, ?_⟩; conv => whnf)
        rw [dig_byte i4]
        refine gen_ex (L % 10) fun d ed => ?_
        rw [← ed] at ag ⊢
        refine .ownAs 1 [nI .u8 (48 + d : Nat)] rfl rfl ?_
        conv => whnf
        try (refine ⟨by kernel_rfl, ?_⟩; conv => whnf)
        have pl : (bts (asc P)).length = P.length := by rw [bts_length, asc, List.length_map]
        refine onlyIf_intro (by show (Nat.beq (bts (asc P)).length _ && _) = true; rw [pl]; simp [maxLen]; omega) ?_
        refine .ownAs (P.length + 1) (bts (asc (P ++ [d]))) rfl (by simp [bts, asc]) ?_
        conv => whnf
        try (refine ⟨by kernel_rfl, ?_⟩; conv => whnf)
        rw [dig_ten i4]
        refine gen_ex (L / 10) fun L' eL => ?_
        rw [← eL] at ag ⊢
        refine next_round (y := (k, L, P)) G0ok (k + 1, L', P ++ [d]) [(0, some 0), (1, some 3)] rfl ⟨⟨_, rfl, conv_nI (ws_i64 (by omega) (by omega))⟩, ⟨_, rfl, conv_nI (rfl)⟩, ⟨_, rfl, conv_slE rfl rfl (by simp) rfl⟩, ⟨_, rfl, .same rfl⟩, ⟨_, rfl, .ptr rfl⟩, trivial⟩ ⟨.inr ⟨_, _, rfl, rfl, .same (uC_noH _)⟩, .inr ⟨_, _, rfl, rfl, .same (nO _)⟩, trivial⟩ ag (by dsimp only; omega)
      · have l0 : L = 0 := by omega
        rw [decide_eq_false (show ¬ (L : Int) > 0 by omega)]
        conv => whnf
        try (refine ⟨by kernel_rfl, ?_⟩; conv => whnf)
        refine ⟨_, ez, ?_⟩
        by_cases hz : N = 0
        · rw [decide_eq_true hz]
          conv => whnf
          try (refine ⟨by kernel_rfl, ?_⟩; conv => whnf)
          refine next_round (y := (n, O)) G0ok (N, P) [(0, some 0), (1, some 1)] rfl ⟨⟨_, rfl, .sl rfl⟩, ⟨_, rfl, .same rfl⟩, ⟨_, rfl, .ptr rfl⟩, trivial⟩ ⟨.inr ⟨_, _, rfl, rfl, .same (uC_noH _)⟩, .inr ⟨_, _, rfl, rfl, .same (nO _)⟩, trivial⟩ ⟨done (.inl (ck.1 ⟨l0, hz⟩)), hN.2⟩ hN.1
        · have ag := again hk (Nat.pos_of_ne_zero fun q => hz (ck.2 q).2)
          rw [decide_eq_false hz]
          conv => whnf
          try (refine ⟨by kernel_rfl, ?_⟩; conv => whnf)
          rw [dig_byte i4]
          refine gen_ex (L % 10) fun d ed => ?_
          rw [← ed] at ag ⊢
          refine .ownAs 1 [nI .u8 (48 + d : Nat)] rfl rfl ?_
          conv => whnf
          try (refine ⟨by kernel_rfl, ?_⟩; conv => whnf)
          have pl : (bts (asc P)).length = P.length := by rw [bts_length, asc, List.length_map]
          refine onlyIf_intro (by show (Nat.beq (bts (asc P)).length _ && _) = true; rw [pl]; simp [maxLen]; omega) ?_
          refine .ownAs (P.length + 1) (bts (asc (P ++ [d]))) rfl (by simp [bts, asc]) ?_
          conv => whnf
          try (refine ⟨by kernel_rfl, ?_⟩; conv => whnf)
          rw [dig_ten i4]
          refine gen_ex (L / 10) fun L' eL => ?_
          rw [← eL] at ag ⊢
          refine next_round (y := (k, L, P)) G0ok (k + 1, L', P ++ [d]) [(0, some 0), (1, some 3)] rfl ⟨⟨_, rfl, conv_nI (ws_i64 (by omega) (by omega))⟩, ⟨_, rfl, conv_nI (rfl)⟩, ⟨_, rfl, conv_slE rfl rfl (by simp) rfl⟩, ⟨_, rfl, .same rfl⟩, ⟨_, rfl, .ptr rfl⟩, trivial⟩ ⟨.inr ⟨_, _, rfl, rfl, .same (uC_noH _)⟩, .inr ⟨_, _, rfl, rfl, .same (nO _)⟩, trivial⟩ ag (by dsimp only; omega)
    · rw [decide_eq_false (show ¬ (k : Int) < 19 by omega)]
      conv => whnf
      try (refine ⟨by kernel_rfl, ?_⟩; conv => whnf)
      refine next_round (y := (n, O)) G0ok (N, P) [(0, some 0), (1, some 1)] rfl ⟨⟨_, rfl, .sl rfl⟩, ⟨_, rfl, .same rfl⟩, ⟨_, rfl, .ptr rfl⟩, trivial⟩ ⟨.inr ⟨_, _, rfl, rfl, .same (uC_noH _)⟩, .inr ⟨_, _, rfl, rfl, .same (nO _)⟩, trivial⟩ ⟨done (.inr (by omega)), hN.2⟩ hN.1
end Go.Proofs.Ytlecdiopokalgaa
namespace Go.Proofs.Ytlecdiopokalgaa
set_option linter.unusedVariables false
set_option linter.unusedSimpArgs false
set_option linter.unusedSectionVars false
open Go.ChangeShapes Go.WideShapes Go.ChangeAt Go.RowKit Go.Joins
set_option maxRecDepth 10000
theorem mul64_fn {x y : Nat} (hx : x < B64) (hy : y < B64) : FnV Try.prog G0 78 [nI .u64 x, nI .u64 y] (.tup [nI .u64 (x * y / B64 : Nat), nI .u64 (x * y % B64 : Nat)]) :=
  fn_calls (us := [.int .u64 x, .int .u64 y]) (r := .tuple #[.int .u64 (x * y / B64 : Nat), .int .u64 (x * y % B64 : Nat)]) Try.func78 (by kernel_rfl) rfl (fun w => (Try.bits_Mul64 x y hx hy w).mono (by rintro e w' ⟨rfl, rfl⟩; exact ⟨rfl, rfl⟩)) (fun E => by simp [VR, VRs, nI])
theorem mulL_ex : ∃ f : Nat → Nat → Nat, ∀ a b, f a b = a * b % T256 := ⟨_, fun _ _ => rfl⟩
noncomputable def mulL : Nat → Nat → Nat := Classical.choose mulL_ex
theorem mulL_def (a b : Nat) : mulL a b = a * b % T256 := Classical.choose_spec mulL_ex a b
theorem mulH_ex : ∃ f : Nat → Nat → Nat, ∀ a b, f a b = a * b / T256 := ⟨_, fun _ _ => rfl⟩
noncomputable def mulH : Nat → Nat → Nat := Classical.choose mulH_ex
theorem mulH_def (a b : Nat) : mulH a b = a * b / T256 := Classical.choose_spec mulH_ex a b
theorem mulL_lt (a b : Nat) : mulL a b < T256 := by rw [mulL_def]; exact Nat.mod_lt _ (by decide)
theorem mulH_lt {a b : Nat} (ha : a < T256) (hb : b < T256) : mulH a b < T256 := by
  rw [mulH_def]; exact Nat.div_lt_of_lt_mul (Nat.mul_lt_mul'' ha hb)
theorem mstep_le {a b c p : Nat} (hp : p ≤ 18446744073709551615 * 18446744073709551615) (q1 : a ≤ 1) (q2 : b ≤ 1) (o l1 l2 : Nat) (ho : o < B64) (hc : c < B64) (e1 : p % B64 + o = l1 + B64 * a) (e2 : l1 + c = l2 + B64 * b) : p / B64 + a < B64 ∧ p / B64 + a + b < B64 ∧ p + o + c = l2 + B64 * (p / B64 + a + b) := by
  have e0 := Nat.mod_add_div p B64
  simp only [B64] at *
  omega
/-- One step of the product by columns. -/
theorem mstep (x y o c : Nat) (hx : x < B64) (hy : y < B64) (ho : o < B64) (hc : c < B64) :
    ∃ hi lo l1 c1 h1 l2 c2 k : Nat, FnV Try.prog G0 78 [nI .u64 x, nI .u64 y] (.tup [nI .u64 hi, nI .u64 lo]) ∧
      FnV Try.prog G0 63 [nI .u64 lo, nI .u64 o, nI .u64 0] (.tup [nI .u64 l1, nI .u64 c1]) ∧ wS .u64 ((hi : Int) + (c1 : Int)) = h1 ∧
      FnV Try.prog G0 63 [nI .u64 l1, nI .u64 c, nI .u64 0] (.tup [nI .u64 l2, nI .u64 c2]) ∧ wS .u64 ((h1 : Int) + (c2 : Int)) = k ∧
      l2 < B64 ∧ k < B64 ∧ x * y + o + c = l2 + B64 * k := by
  have hp : x * y ≤ 18446744073709551615 * 18446744073709551615 := Nat.mul_le_mul (by unfold B64 at hx; omega) (by unfold B64 at hy; omega)
  have e1 := acc_car (x * y % B64) o 0
  have e2 := acc_car (acc (x * y % B64) o 0) c 0
  have q1 := car_le (x := x * y % B64) (y := o) (c := 0) (Nat.mod_lt _ (by decide)) ho (by omega)
  have q2 := car_le (x := acc (x * y % B64) o 0) (y := c) (c := 0) (acc_lt _ _ _) hc (by omega)
  obtain ⟨s1, s2, s3⟩ := mstep_le hp q1 q2 o _ _ ho hc e1 e2
  have w : ∀ a b : Nat, a + b < B64 → wS .u64 ((a : Int) + (b : Int)) = ((a + b : Nat) : Int) := fun a b h => by
    rw [ws_u64n (by omega) (by unfold B64 at h; omega)]; omega
  exact ⟨_, _, _, _, _, _, _, _, mul64_fn hx hy, add64_fn (c := 0) (by omega), w _ _ s1, add64_fn (c := 0) (by omega), w _ _ s2, acc_lt _ _ _, s2, s3⟩
theorem mul_val4 {a0 a1 a2 a3 b0 b1 b2 b3 o00 k00 o01 k01 o02 k02 o03 k03 o10 k10 o11 k11 o12 k12 o13 k13 o20 k20 o21 k21 o22 k22 o23 k23 o30 k30 o31 k31 o32 k32 o33 k33 : Nat}
    (l0 : o00 < B64) (l1 : o10 < B64) (l2 : o20 < B64) (l3 : o30 < B64)
    (e00 : a0 * b0 + 0 + 0 = o00 + B64 * k00)
    (e01 : a0 * b1 + 0 + k00 = o01 + B64 * k01)
    (e02 : a0 * b2 + 0 + k01 = o02 + B64 * k02)
    (e03 : a0 * b3 + 0 + k02 = o03 + B64 * k03)
    (e10 : a1 * b0 + o01 + 0 = o10 + B64 * k10)
    (e11 : a1 * b1 + o02 + k10 = o11 + B64 * k11)
    (e12 : a1 * b2 + o03 + k11 = o12 + B64 * k12)
    (e13 : a1 * b3 + k03 + k12 = o13 + B64 * k13)
    (e20 : a2 * b0 + o11 + 0 = o20 + B64 * k20)
    (e21 : a2 * b1 + o12 + k20 = o21 + B64 * k21)
    (e22 : a2 * b2 + o13 + k21 = o22 + B64 * k22)
    (e23 : a2 * b3 + k13 + k22 = o23 + B64 * k23)
    (e30 : a3 * b0 + o21 + 0 = o30 + B64 * k30)
    (e31 : a3 * b1 + o22 + k30 = o31 + B64 * k31)
    (e32 : a3 * b2 + o23 + k31 = o32 + B64 * k32)
    (e33 : a3 * b3 + k23 + k32 = o33 + B64 * k33) :
    mulL (val4 a0 a1 a2 a3) (val4 b0 b1 b2 b3) = val4 o00 o10 o20 o30 ∧ mulH (val4 a0 a1 a2 a3) (val4 b0 b1 b2 b3) = val4 o31 o32 o33 k33 := by
  have hl := val4_lt l0 l1 l2 l3
  have e : val4 a0 a1 a2 a3 * val4 b0 b1 b2 b3 = val4 o00 o10 o20 o30 + T256 * val4 o31 o32 o33 k33 := by
    have x : ∀ x y z u a : Nat, val4 x y z u * a = x * a + B64 * (y * a) + B64 * B64 * (z * a) + B64 * B64 * B64 * (u * a) := fun x y z u a => by
      unfold val4; simp only [Nat.add_mul, Nat.mul_assoc]
    have y : ∀ x y z u a : Nat, a * val4 x y z u = a * x + B64 * (a * y) + B64 * B64 * (a * z) + B64 * B64 * B64 * (a * u) := fun x y z u a => by
      unfold val4; simp only [Nat.mul_add, Nat.mul_left_comm a]
    rw [x, y, y, y, y, T256_eq]
    unfold val4
    generalize a0 * b0 = p00 at *
    generalize a0 * b1 = p01 at *
    generalize a0 * b2 = p02 at *
    generalize a0 * b3 = p03 at *
    generalize a1 * b0 = p10 at *
    generalize a1 * b1 = p11 at *
    generalize a1 * b2 = p12 at *
    generalize a1 * b3 = p13 at *
    generalize a2 * b0 = p20 at *
    generalize a2 * b1 = p21 at *
    generalize a2 * b2 = p22 at *
    generalize a2 * b3 = p23 at *
    generalize a3 * b0 = p30 at *
    generalize a3 * b1 = p31 at *
    generalize a3 * b2 = p32 at *
    generalize a3 * b3 = p33 at *
    simp only [B64] at *
    omega
  rw [mulL_def, mulH_def, e]
  refine ⟨by rw [Nat.add_mul_mod_self_left, Nat.mod_eq_of_lt hl], by rw [Nat.add_mul_div_left _ _ (by decide), Nat.div_eq_of_lt hl, Nat.zero_add]⟩

set_option maxHeartbeats 16000000 in
theorem mul_fn4 (a0 a1 a2 a3 b0 b1 b2 b3 : Nat) (ka0 : a0 < B64) (ka1 : a1 < B64) (ka2 : a2 < B64) (ka3 : a3 < B64) (kb0 : b0 < B64) (kb1 : b1 < B64) (kb2 : b2 < B64) (kb3 : b3 < B64) :
    FnV Try.prog G0 69 [.agg (words [a0, a1, a2, a3]), .agg (words [b0, b1, b2, b3])] (.tup [uV (mulL (val4 a0 a1 a2 a3) (val4 b0 b1 b2 b3)), uV (mulH (val4 a0 a1 a2 a3) (val4 b0 b1 b2 b3))]) := by
  refine fn_of_vwp Γok Try.func69 (by kernel_rfl) rfl (by simp [Try.ntmps69]) (wpv_ok Γok (by kernel_rfl) _ _ _ ?_); conv => whnf
  refine vloop_clean G0ok [(1, some 1), (2, some 2), (3, some 3), (4, some 4)] 5 [(16, nI .i64 0), (15, .agg (words [a0, a1, a2, a3])), (6, .ptr 4 0), (5, .ptr 3 0), (4, .ptr 2 0), (3, .ptr 1 0)] [(1, some (words [b0, b1, b2, b3])), (2, some (words [0, 0, 0, 0])), (3, some (words [0, 0, 0, 0])), (4, some (words [0, 0, 0, 0, 0, 0, 0, 0]))] rfl ⟨⟨_, rfl, conv_nI (rfl)⟩, ⟨_, rfl, conv_eq rfl (words_noHs _)⟩, ⟨_, rfl, .ptr rfl⟩, ⟨_, rfl, .ptr rfl⟩, ⟨_, rfl, .ptr rfl⟩, ⟨_, rfl, .ptr rfl⟩, trivial⟩ ⟨.inr ⟨_, _, rfl, rfl, convs_eq rfl (words_noHs _)⟩, .inr ⟨_, _, rfl, rfl, convs_eq rfl (words_noHs _)⟩, .inr ⟨_, _, rfl, rfl, convs_eq rfl (words_noHs _)⟩, .inr ⟨_, _, rfl, rfl, convs_eq rfl (words_noHs _)⟩, trivial⟩ ?_
  refine vloop_unroll ?_
  refine wpv_ok Γok (by kernel_rfl) _ _ _ ?_; conv => whnf
  refine vloop_clean G0ok [(1, some 1), (2, some 2), (3, some 3), (4, some 4)] 5 [(21, nI .i64 0), (20, .agg (words [b0, b1, b2, b3])), (9, nI .u64 (0 : Nat)), (8, nI .u64 (a0 : Nat)), (7, nI .i64 0), (16, nI .i64 0), (15, .agg (words [a0, a1, a2, a3])), (6, .ptr 4 0), (5, .ptr 3 0), (4, .ptr 2 0), (3, .ptr 1 0)] [(1, some (words [b0, b1, b2, b3])), (2, some (words [0, 0, 0, 0])), (3, some (words [0, 0, 0, 0])), (4, some (words [0, 0, 0, 0, 0, 0, 0, 0]))] rfl ⟨⟨_, rfl, conv_nI (rfl)⟩, ⟨_, rfl, conv_eq rfl (words_noHs _)⟩, ⟨_, rfl, conv_nI (rfl)⟩, ⟨_, rfl, conv_nI (rfl)⟩, ⟨_, rfl, conv_nI (rfl)⟩, ⟨_, rfl, conv_nI (rfl)⟩, ⟨_, rfl, conv_eq rfl (words_noHs _)⟩, ⟨_, rfl, .ptr rfl⟩, ⟨_, rfl, .ptr rfl⟩, ⟨_, rfl, .ptr rfl⟩, ⟨_, rfl, .ptr rfl⟩, trivial⟩ ⟨.inr ⟨_, _, rfl, rfl, convs_eq rfl (words_noHs _)⟩, .inr ⟨_, _, rfl, rfl, convs_eq rfl (words_noHs _)⟩, .inr ⟨_, _, rfl, rfl, convs_eq rfl (words_noHs _)⟩, .inr ⟨_, _, rfl, rfl, convs_eq rfl (words_noHs _)⟩, trivial⟩ ?_
  refine vloop_unroll ?_
  refine wpv_ok Γok (by kernel_rfl) _ _ _ ?_; conv => whnf
  obtain ⟨hi, lo, l1, c1, h1, o00, c2, k00, m1, m2, m3, m4, m5, bo00, bk00, e00⟩ := mstep a0 b0 0 0 ka0 kb0 (by decide) (by decide)
  refine ⟨_, ret_of_fn G0ok (m1) (by first | rfl | simp only [noHs, noH, nI, bI, Bool.and_self, Bool.and_true, Bool.true_and, ]) (by first | rfl | simp only [noHs, noH, nI, bI, Bool.and_self, Bool.and_true, Bool.true_and, ]), ?_⟩; (conv => whnf); (try (refine ⟨by kernel_rfl, ?_⟩; conv => whnf))
  rw [ws_i64 (by decide) (by decide)]
  conv => whnf
  try (refine ⟨by kernel_rfl, ?_⟩; conv => whnf)
  refine ⟨_, ret_of_fn G0ok (m2) (by first | rfl | simp only [noHs, noH, nI, bI, Bool.and_self, Bool.and_true, Bool.true_and, ]) (by first | rfl | simp only [noHs, noH, nI, bI, Bool.and_self, Bool.and_true, Bool.true_and, ]), ?_⟩; (conv => whnf); (try (refine ⟨by kernel_rfl, ?_⟩; conv => whnf))
  rw [m3]
  conv => whnf
  try (refine ⟨by kernel_rfl, ?_⟩; conv => whnf)
  refine ⟨_, ret_of_fn G0ok (m4) (by first | rfl | simp only [noHs, noH, nI, bI, Bool.and_self, Bool.and_true, Bool.true_and, ]) (by first | rfl | simp only [noHs, noH, nI, bI, Bool.and_self, Bool.and_true, Bool.true_and, ]), ?_⟩; (conv => whnf); (try (refine ⟨by kernel_rfl, ?_⟩; conv => whnf))
  rw [m5]
  (try rw [ws_i64 (by decide) (by decide)])
  conv => whnf
  try (refine ⟨by kernel_rfl, ?_⟩; conv => whnf)
  clear m1 m2 m3 m4 m5
  refine vloop_clean G0ok [(1, some 1), (2, some 2), (3, some 3), (4, some 4)] 5 [(21, nI .i64 1), (20, .agg (words [b0, b1, b2, b3])), (9, nI .u64 (k00 : Nat)), (8, nI .u64 (a0 : Nat)), (7, nI .i64 0), (16, nI .i64 0), (15, .agg (words [a0, a1, a2, a3])), (6, .ptr 4 0), (5, .ptr 3 0), (4, .ptr 2 0), (3, .ptr 1 0)] [(1, some (words [b0, b1, b2, b3])), (2, some (words [0, 0, 0, 0])), (3, some (words [0, 0, 0, 0])), (4, some (words [o00, 0, 0, 0, 0, 0, 0, 0]))] rfl ⟨⟨_, rfl, conv_nI (ws_i64 (by decide) (by decide))⟩, ⟨_, rfl, conv_eq rfl (words_noHs _)⟩, ⟨_, rfl, conv_nI (rfl)⟩, ⟨_, rfl, conv_nI (rfl)⟩, ⟨_, rfl, conv_nI (rfl)⟩, ⟨_, rfl, conv_nI (rfl)⟩, ⟨_, rfl, conv_eq rfl (words_noHs _)⟩, ⟨_, rfl, .ptr rfl⟩, ⟨_, rfl, .ptr rfl⟩, ⟨_, rfl, .ptr rfl⟩, ⟨_, rfl, .ptr rfl⟩, trivial⟩ ⟨.inr ⟨_, _, rfl, rfl, convs_eq rfl (words_noHs _)⟩, .inr ⟨_, _, rfl, rfl, convs_eq rfl (words_noHs _)⟩, .inr ⟨_, _, rfl, rfl, convs_eq rfl (words_noHs _)⟩, .inr ⟨_, _, rfl, rfl, convs_eq rfl (words_noHs _)⟩, trivial⟩ ?_
  refine vloop_unroll ?_
  refine wpv_ok Γok (by kernel_rfl) _ _ _ ?_; conv => whnf
  obtain ⟨hi, lo, l1, c1, h1, o01, c2, k01, m1, m2, m3, m4, m5, bo01, bk01, e01⟩ := mstep a0 b1 0 k00 ka0 kb1 (by decide) bk00
  refine ⟨_, ret_of_fn G0ok (m1) (by first | rfl | simp only [noHs, noH, nI, bI, Bool.and_self, Bool.and_true, Bool.true_and, ]) (by first | rfl | simp only [noHs, noH, nI, bI, Bool.and_self, Bool.and_true, Bool.true_and, ]), ?_⟩; (conv => whnf); (try (refine ⟨by kernel_rfl, ?_⟩; conv => whnf))
  rw [ws_i64 (by decide) (by decide)]
  conv => whnf
  try (refine ⟨by kernel_rfl, ?_⟩; conv => whnf)
  refine ⟨_, ret_of_fn G0ok (m2) (by first | rfl | simp only [noHs, noH, nI, bI, Bool.and_self, Bool.and_true, Bool.true_and, ]) (by first | rfl | simp only [noHs, noH, nI, bI, Bool.and_self, Bool.and_true, Bool.true_and, ]), ?_⟩; (conv => whnf); (try (refine ⟨by kernel_rfl, ?_⟩; conv => whnf))
  rw [m3]
  conv => whnf
  try (refine ⟨by kernel_rfl, ?_⟩; conv => whnf)
  refine ⟨_, ret_of_fn G0ok (m4) (by first | rfl | simp only [noHs, noH, nI, bI, Bool.and_self, Bool.and_true, Bool.true_and, ]) (by first | rfl | simp only [noHs, noH, nI, bI, Bool.and_self, Bool.and_true, Bool.true_and, ]), ?_⟩; (conv => whnf); (try (refine ⟨by kernel_rfl, ?_⟩; conv => whnf))
  rw [m5]
  (try rw [ws_i64 (by decide) (by decide)])
  conv => whnf
  try (refine ⟨by kernel_rfl, ?_⟩; conv => whnf)
  clear m1 m2 m3 m4 m5
  refine vloop_clean G0ok [(1, some 1), (2, some 2), (3, some 3), (4, some 4)] 5 [(21, nI .i64 2), (20, .agg (words [b0, b1, b2, b3])), (9, nI .u64 (k01 : Nat)), (8, nI .u64 (a0 : Nat)), (7, nI .i64 0), (16, nI .i64 0), (15, .agg (words [a0, a1, a2, a3])), (6, .ptr 4 0), (5, .ptr 3 0), (4, .ptr 2 0), (3, .ptr 1 0)] [(1, some (words [b0, b1, b2, b3])), (2, some (words [0, 0, 0, 0])), (3, some (words [0, 0, 0, 0])), (4, some (words [o00, o01, 0, 0, 0, 0, 0, 0]))] rfl ⟨⟨_, rfl, conv_nI (ws_i64 (by decide) (by decide))⟩, ⟨_, rfl, conv_eq rfl (words_noHs _)⟩, ⟨_, rfl, conv_nI (rfl)⟩, ⟨_, rfl, conv_nI (rfl)⟩, ⟨_, rfl, conv_nI (rfl)⟩, ⟨_, rfl, conv_nI (rfl)⟩, ⟨_, rfl, conv_eq rfl (words_noHs _)⟩, ⟨_, rfl, .ptr rfl⟩, ⟨_, rfl, .ptr rfl⟩, ⟨_, rfl, .ptr rfl⟩, ⟨_, rfl, .ptr rfl⟩, trivial⟩ ⟨.inr ⟨_, _, rfl, rfl, convs_eq rfl (words_noHs _)⟩, .inr ⟨_, _, rfl, rfl, convs_eq rfl (words_noHs _)⟩, .inr ⟨_, _, rfl, rfl, convs_eq rfl (words_noHs _)⟩, .inr ⟨_, _, rfl, rfl, convs_eq rfl (words_noHs _)⟩, trivial⟩ ?_
  refine vloop_unroll ?_
  refine wpv_ok Γok (by kernel_rfl) _ _ _ ?_; conv => whnf
  obtain ⟨hi, lo, l1, c1, h1, o02, c2, k02, m1, m2, m3, m4, m5, bo02, bk02, e02⟩ := mstep a0 b2 0 k01 ka0 kb2 (by decide) bk01
  refine ⟨_, ret_of_fn G0ok (m1) (by first | rfl | simp only [noHs, noH, nI, bI, Bool.and_self, Bool.and_true, Bool.true_and, ]) (by first | rfl | simp only [noHs, noH, nI, bI, Bool.and_self, Bool.and_true, Bool.true_and, ]), ?_⟩; (conv => whnf); (try (refine ⟨by kernel_rfl, ?_⟩; conv => whnf))
  rw [ws_i64 (by decide) (by decide)]
  conv => whnf
  try (refine ⟨by kernel_rfl, ?_⟩; conv => whnf)
  refine ⟨_, ret_of_fn G0ok (m2) (by first | rfl | simp only [noHs, noH, nI, bI, Bool.and_self, Bool.and_true, Bool.true_and, ]) (by first | rfl | simp only [noHs, noH, nI, bI, Bool.and_self, Bool.and_true, Bool.true_and, ]), ?_⟩; (conv => whnf); (try (refine ⟨by kernel_rfl, ?_⟩; conv => whnf))
  rw [m3]
  conv => whnf
  try (refine ⟨by kernel_rfl, ?_⟩; conv => whnf)
  refine ⟨_, ret_of_fn G0ok (m4) (by first | rfl | simp only [noHs, noH, nI, bI, Bool.and_self, Bool.and_true, Bool.true_and, ]) (by first | rfl | simp only [noHs, noH, nI, bI, Bool.and_self, Bool.and_true, Bool.true_and, ]), ?_⟩; (conv => whnf); (try (refine ⟨by kernel_rfl, ?_⟩; conv => whnf))
  rw [m5]
  (try rw [ws_i64 (by decide) (by decide)])
  conv => whnf
  try (refine ⟨by kernel_rfl, ?_⟩; conv => whnf)
  clear m1 m2 m3 m4 m5
  refine vloop_clean G0ok [(1, some 1), (2, some 2), (3, some 3), (4, some 4)] 5 [(21, nI .i64 3), (20, .agg (words [b0, b1, b2, b3])), (9, nI .u64 (k02 : Nat)), (8, nI .u64 (a0 : Nat)), (7, nI .i64 0), (16, nI .i64 0), (15, .agg (words [a0, a1, a2, a3])), (6, .ptr 4 0), (5, .ptr 3 0), (4, .ptr 2 0), (3, .ptr 1 0)] [(1, some (words [b0, b1, b2, b3])), (2, some (words [0, 0, 0, 0])), (3, some (words [0, 0, 0, 0])), (4, some (words [o00, o01, o02, 0, 0, 0, 0, 0]))] rfl ⟨⟨_, rfl, conv_nI (ws_i64 (by decide) (by decide))⟩, ⟨_, rfl, conv_eq rfl (words_noHs _)⟩, ⟨_, rfl, conv_nI (rfl)⟩, ⟨_, rfl, conv_nI (rfl)⟩, ⟨_, rfl, conv_nI (rfl)⟩, ⟨_, rfl, conv_nI (rfl)⟩, ⟨_, rfl, conv_eq rfl (words_noHs _)⟩, ⟨_, rfl, .ptr rfl⟩, ⟨_, rfl, .ptr rfl⟩, ⟨_, rfl, .ptr rfl⟩, ⟨_, rfl, .ptr rfl⟩, trivial⟩ ⟨.inr ⟨_, _, rfl, rfl, convs_eq rfl (words_noHs _)⟩, .inr ⟨_, _, rfl, rfl, convs_eq rfl (words_noHs _)⟩, .inr ⟨_, _, rfl, rfl, convs_eq rfl (words_noHs _)⟩, .inr ⟨_, _, rfl, rfl, convs_eq rfl (words_noHs _)⟩, trivial⟩ ?_
  refine vloop_unroll ?_
  refine wpv_ok Γok (by kernel_rfl) _ _ _ ?_; conv => whnf
  obtain ⟨hi, lo, l1, c1, h1, o03, c2, k03, m1, m2, m3, m4, m5, bo03, bk03, e03⟩ := mstep a0 b3 0 k02 ka0 kb3 (by decide) bk02
  refine ⟨_, ret_of_fn G0ok (m1) (by first | rfl | simp only [noHs, noH, nI, bI, Bool.and_self, Bool.and_true, Bool.true_and, ]) (by first | rfl | simp only [noHs, noH, nI, bI, Bool.and_self, Bool.and_true, Bool.true_and, ]), ?_⟩; (conv => whnf); (try (refine ⟨by kernel_rfl, ?_⟩; conv => whnf))
  rw [ws_i64 (by decide) (by decide)]
  conv => whnf
  try (refine ⟨by kernel_rfl, ?_⟩; conv => whnf)
  refine ⟨_, ret_of_fn G0ok (m2) (by first | rfl | simp only [noHs, noH, nI, bI, Bool.and_self, Bool.and_true, Bool.true_and, ]) (by first | rfl | simp only [noHs, noH, nI, bI, Bool.and_self, Bool.and_true, Bool.true_and, ]), ?_⟩; (conv => whnf); (try (refine ⟨by kernel_rfl, ?_⟩; conv => whnf))
  rw [m3]
  conv => whnf
  try (refine ⟨by kernel_rfl, ?_⟩; conv => whnf)
  refine ⟨_, ret_of_fn G0ok (m4) (by first | rfl | simp only [noHs, noH, nI, bI, Bool.and_self, Bool.and_true, Bool.true_and, ]) (by first | rfl | simp only [noHs, noH, nI, bI, Bool.and_self, Bool.and_true, Bool.true_and, ]), ?_⟩; (conv => whnf); (try (refine ⟨by kernel_rfl, ?_⟩; conv => whnf))
  rw [m5]
  (try rw [ws_i64 (by decide) (by decide)])
  conv => whnf
  try (refine ⟨by kernel_rfl, ?_⟩; conv => whnf)
  clear m1 m2 m3 m4 m5
  refine vloop_unroll ?_
  refine wpv_ok Γok (by kernel_rfl) _ _ _ ?_; conv => whnf
  rw [ws_i64 (by decide) (by decide)]
  conv => whnf
  try (refine ⟨by kernel_rfl, ?_⟩; conv => whnf)
  rw [ws_i64 (by decide) (by decide)]
  conv => whnf
  try (refine ⟨by kernel_rfl, ?_⟩; conv => whnf)
  refine vloop_clean G0ok [(1, some 1), (2, some 2), (3, some 3), (4, some 4)] 5 [(16, nI .i64 1), (15, .agg (words [a0, a1, a2, a3])), (6, .ptr 4 0), (5, .ptr 3 0), (4, .ptr 2 0), (3, .ptr 1 0)] [(1, some (words [b0, b1, b2, b3])), (2, some (words [0, 0, 0, 0])), (3, some (words [0, 0, 0, 0])), (4, some (words [o00, o01, o02, o03, k03, 0, 0, 0]))] rfl ⟨⟨_, rfl, conv_nI (ws_i64 (by decide) (by decide))⟩, ⟨_, rfl, conv_eq rfl (words_noHs _)⟩, ⟨_, rfl, .ptr rfl⟩, ⟨_, rfl, .ptr rfl⟩, ⟨_, rfl, .ptr rfl⟩, ⟨_, rfl, .ptr rfl⟩, trivial⟩ ⟨.inr ⟨_, _, rfl, rfl, convs_eq rfl (words_noHs _)⟩, .inr ⟨_, _, rfl, rfl, convs_eq rfl (words_noHs _)⟩, .inr ⟨_, _, rfl, rfl, convs_eq rfl (words_noHs _)⟩, .inr ⟨_, _, rfl, rfl, convs_eq rfl (words_noHs _)⟩, trivial⟩ ?_
  refine vloop_unroll ?_
  refine wpv_ok Γok (by kernel_rfl) _ _ _ ?_; conv => whnf
  refine vloop_clean G0ok [(1, some 1), (2, some 2), (3, some 3), (4, some 4)] 5 [(21, nI .i64 0), (20, .agg (words [b0, b1, b2, b3])), (9, nI .u64 (0 : Nat)), (8, nI .u64 (a1 : Nat)), (7, nI .i64 1), (16, nI .i64 1), (15, .agg (words [a0, a1, a2, a3])), (6, .ptr 4 0), (5, .ptr 3 0), (4, .ptr 2 0), (3, .ptr 1 0)] [(1, some (words [b0, b1, b2, b3])), (2, some (words [0, 0, 0, 0])), (3, some (words [0, 0, 0, 0])), (4, some (words [o00, o01, o02, o03, k03, 0, 0, 0]))] rfl ⟨⟨_, rfl, conv_nI (rfl)⟩, ⟨_, rfl, conv_eq rfl (words_noHs _)⟩, ⟨_, rfl, conv_nI (rfl)⟩, ⟨_, rfl, conv_nI (rfl)⟩, ⟨_, rfl, conv_nI (rfl)⟩, ⟨_, rfl, conv_nI (rfl)⟩, ⟨_, rfl, conv_eq rfl (words_noHs _)⟩, ⟨_, rfl, .ptr rfl⟩, ⟨_, rfl, .ptr rfl⟩, ⟨_, rfl, .ptr rfl⟩, ⟨_, rfl, .ptr rfl⟩, trivial⟩ ⟨.inr ⟨_, _, rfl, rfl, convs_eq rfl (words_noHs _)⟩, .inr ⟨_, _, rfl, rfl, convs_eq rfl (words_noHs _)⟩, .inr ⟨_, _, rfl, rfl, convs_eq rfl (words_noHs _)⟩, .inr ⟨_, _, rfl, rfl, convs_eq rfl (words_noHs _)⟩, trivial⟩ ?_
  refine vloop_unroll ?_
  refine wpv_ok Γok (by kernel_rfl) _ _ _ ?_; conv => whnf
  obtain ⟨hi, lo, l1, c1, h1, o10, c2, k10, m1, m2, m3, m4, m5, bo10, bk10, e10⟩ := mstep a1 b0 o01 0 ka1 kb0 bo01 (by decide)
  refine ⟨_, ret_of_fn G0ok (m1) (by first | rfl | simp only [noHs, noH, nI, bI, Bool.and_self, Bool.and_true, Bool.true_and, ]) (by first | rfl | simp only [noHs, noH, nI, bI, Bool.and_self, Bool.and_true, Bool.true_and, ]), ?_⟩; (conv => whnf); (try (refine ⟨by kernel_rfl, ?_⟩; conv => whnf))
  rw [ws_i64 (by decide) (by decide)]
  conv => whnf
  try (refine ⟨by kernel_rfl, ?_⟩; conv => whnf)
  refine ⟨_, ret_of_fn G0ok (m2) (by first | rfl | simp only [noHs, noH, nI, bI, Bool.and_self, Bool.and_true, Bool.true_and, ]) (by first | rfl | simp only [noHs, noH, nI, bI, Bool.and_self, Bool.and_true, Bool.true_and, ]), ?_⟩; (conv => whnf); (try (refine ⟨by kernel_rfl, ?_⟩; conv => whnf))
  rw [m3]
  conv => whnf
  try (refine ⟨by kernel_rfl, ?_⟩; conv => whnf)
  refine ⟨_, ret_of_fn G0ok (m4) (by first | rfl | simp only [noHs, noH, nI, bI, Bool.and_self, Bool.and_true, Bool.true_and, ]) (by first | rfl | simp only [noHs, noH, nI, bI, Bool.and_self, Bool.and_true, Bool.true_and, ]), ?_⟩; (conv => whnf); (try (refine ⟨by kernel_rfl, ?_⟩; conv => whnf))
  rw [m5]
  (try rw [ws_i64 (by decide) (by decide)])
  conv => whnf
  try (refine ⟨by kernel_rfl, ?_⟩; conv => whnf)
  clear m1 m2 m3 m4 m5
  refine vloop_clean G0ok [(1, some 1), (2, some 2), (3, some 3), (4, some 4)] 5 [(21, nI .i64 1), (20, .agg (words [b0, b1, b2, b3])), (9, nI .u64 (k10 : Nat)), (8, nI .u64 (a1 : Nat)), (7, nI .i64 1), (16, nI .i64 1), (15, .agg (words [a0, a1, a2, a3])), (6, .ptr 4 0), (5, .ptr 3 0), (4, .ptr 2 0), (3, .ptr 1 0)] [(1, some (words [b0, b1, b2, b3])), (2, some (words [0, 0, 0, 0])), (3, some (words [0, 0, 0, 0])), (4, some (words [o00, o10, o02, o03, k03, 0, 0, 0]))] rfl ⟨⟨_, rfl, conv_nI (ws_i64 (by decide) (by decide))⟩, ⟨_, rfl, conv_eq rfl (words_noHs _)⟩, ⟨_, rfl, conv_nI (rfl)⟩, ⟨_, rfl, conv_nI (rfl)⟩, ⟨_, rfl, conv_nI (rfl)⟩, ⟨_, rfl, conv_nI (rfl)⟩, ⟨_, rfl, conv_eq rfl (words_noHs _)⟩, ⟨_, rfl, .ptr rfl⟩, ⟨_, rfl, .ptr rfl⟩, ⟨_, rfl, .ptr rfl⟩, ⟨_, rfl, .ptr rfl⟩, trivial⟩ ⟨.inr ⟨_, _, rfl, rfl, convs_eq rfl (words_noHs _)⟩, .inr ⟨_, _, rfl, rfl, convs_eq rfl (words_noHs _)⟩, .inr ⟨_, _, rfl, rfl, convs_eq rfl (words_noHs _)⟩, .inr ⟨_, _, rfl, rfl, convs_eq rfl (words_noHs _)⟩, trivial⟩ ?_
  refine vloop_unroll ?_
  refine wpv_ok Γok (by kernel_rfl) _ _ _ ?_; conv => whnf
  obtain ⟨hi, lo, l1, c1, h1, o11, c2, k11, m1, m2, m3, m4, m5, bo11, bk11, e11⟩ := mstep a1 b1 o02 k10 ka1 kb1 bo02 bk10
  refine ⟨_, ret_of_fn G0ok (m1) (by first | rfl | simp only [noHs, noH, nI, bI, Bool.and_self, Bool.and_true, Bool.true_and, ]) (by first | rfl | simp only [noHs, noH, nI, bI, Bool.and_self, Bool.and_true, Bool.true_and, ]), ?_⟩; (conv => whnf); (try (refine ⟨by kernel_rfl, ?_⟩; conv => whnf))
  rw [ws_i64 (by decide) (by decide)]
  conv => whnf
  try (refine ⟨by kernel_rfl, ?_⟩; conv => whnf)
  refine ⟨_, ret_of_fn G0ok (m2) (by first | rfl | simp only [noHs, noH, nI, bI, Bool.and_self, Bool.and_true, Bool.true_and, ]) (by first | rfl | simp only [noHs, noH, nI, bI, Bool.and_self, Bool.and_true, Bool.true_and, ]), ?_⟩; (conv => whnf); (try (refine ⟨by kernel_rfl, ?_⟩; conv => whnf))
  rw [m3]
  conv => whnf
  try (refine ⟨by kernel_rfl, ?_⟩; conv => whnf)
  refine ⟨_, ret_of_fn G0ok (m4) (by first | rfl | simp only [noHs, noH, nI, bI, Bool.and_self, Bool.and_true, Bool.true_and, ]) (by first | rfl | simp only [noHs, noH, nI, bI, Bool.and_self, Bool.and_true, Bool.true_and, ]), ?_⟩; (conv => whnf); (try (refine ⟨by kernel_rfl, ?_⟩; conv => whnf))
  rw [m5]
  (try rw [ws_i64 (by decide) (by decide)])
  conv => whnf
  try (refine ⟨by kernel_rfl, ?_⟩; conv => whnf)
  clear m1 m2 m3 m4 m5
  refine vloop_clean G0ok [(1, some 1), (2, some 2), (3, some 3), (4, some 4)] 5 [(21, nI .i64 2), (20, .agg (words [b0, b1, b2, b3])), (9, nI .u64 (k11 : Nat)), (8, nI .u64 (a1 : Nat)), (7, nI .i64 1), (16, nI .i64 1), (15, .agg (words [a0, a1, a2, a3])), (6, .ptr 4 0), (5, .ptr 3 0), (4, .ptr 2 0), (3, .ptr 1 0)] [(1, some (words [b0, b1, b2, b3])), (2, some (words [0, 0, 0, 0])), (3, some (words [0, 0, 0, 0])), (4, some (words [o00, o10, o11, o03, k03, 0, 0, 0]))] rfl ⟨⟨_, rfl, conv_nI (ws_i64 (by decide) (by decide))⟩, ⟨_, rfl, conv_eq rfl (words_noHs _)⟩, ⟨_, rfl, conv_nI (rfl)⟩, ⟨_, rfl, conv_nI (rfl)⟩, ⟨_, rfl, conv_nI (rfl)⟩, ⟨_, rfl, conv_nI (rfl)⟩, ⟨_, rfl, conv_eq rfl (words_noHs _)⟩, ⟨_, rfl, .ptr rfl⟩, ⟨_, rfl, .ptr rfl⟩, ⟨_, rfl, .ptr rfl⟩, ⟨_, rfl, .ptr rfl⟩, trivial⟩ ⟨.inr ⟨_, _, rfl, rfl, convs_eq rfl (words_noHs _)⟩, .inr ⟨_, _, rfl, rfl, convs_eq rfl (words_noHs _)⟩, .inr ⟨_, _, rfl, rfl, convs_eq rfl (words_noHs _)⟩, .inr ⟨_, _, rfl, rfl, convs_eq rfl (words_noHs _)⟩, trivial⟩ ?_
  refine vloop_unroll ?_
  refine wpv_ok Γok (by kernel_rfl) _ _ _ ?_; conv => whnf
  obtain ⟨hi, lo, l1, c1, h1, o12, c2, k12, m1, m2, m3, m4, m5, bo12, bk12, e12⟩ := mstep a1 b2 o03 k11 ka1 kb2 bo03 bk11
  refine ⟨_, ret_of_fn G0ok (m1) (by first | rfl | simp only [noHs, noH, nI, bI, Bool.and_self, Bool.and_true, Bool.true_and, ]) (by first | rfl | simp only [noHs, noH, nI, bI, Bool.and_self, Bool.and_true, Bool.true_and, ]), ?_⟩; (conv => whnf); (try (refine ⟨by kernel_rfl, ?_⟩; conv => whnf))
  rw [ws_i64 (by decide) (by decide)]
  conv => whnf
  try (refine ⟨by kernel_rfl, ?_⟩; conv => whnf)
  refine ⟨_, ret_of_fn G0ok (m2) (by first | rfl | simp only [noHs, noH, nI, bI, Bool.and_self, Bool.and_true, Bool.true_and, ]) (by first | rfl | simp only [noHs, noH, nI, bI, Bool.and_self, Bool.and_true, Bool.true_and, ]), ?_⟩; (conv => whnf); (try (refine ⟨by kernel_rfl, ?_⟩; conv => whnf))
  rw [m3]
  conv => whnf
  try (refine ⟨by kernel_rfl, ?_⟩; conv => whnf)
  refine ⟨_, ret_of_fn G0ok (m4) (by first | rfl | simp only [noHs, noH, nI, bI, Bool.and_self, Bool.and_true, Bool.true_and, ]) (by first | rfl | simp only [noHs, noH, nI, bI, Bool.and_self, Bool.and_true, Bool.true_and, ]), ?_⟩; (conv => whnf); (try (refine ⟨by kernel_rfl, ?_⟩; conv => whnf))
  rw [m5]
  (try rw [ws_i64 (by decide) (by decide)])
  conv => whnf
  try (refine ⟨by kernel_rfl, ?_⟩; conv => whnf)
  clear m1 m2 m3 m4 m5
  refine vloop_clean G0ok [(1, some 1), (2, some 2), (3, some 3), (4, some 4)] 5 [(21, nI .i64 3), (20, .agg (words [b0, b1, b2, b3])), (9, nI .u64 (k12 : Nat)), (8, nI .u64 (a1 : Nat)), (7, nI .i64 1), (16, nI .i64 1), (15, .agg (words [a0, a1, a2, a3])), (6, .ptr 4 0), (5, .ptr 3 0), (4, .ptr 2 0), (3, .ptr 1 0)] [(1, some (words [b0, b1, b2, b3])), (2, some (words [0, 0, 0, 0])), (3, some (words [0, 0, 0, 0])), (4, some (words [o00, o10, o11, o12, k03, 0, 0, 0]))] rfl ⟨⟨_, rfl, conv_nI (ws_i64 (by decide) (by decide))⟩, ⟨_, rfl, conv_eq rfl (words_noHs _)⟩, ⟨_, rfl, conv_nI (rfl)⟩, ⟨_, rfl, conv_nI (rfl)⟩, ⟨_, rfl, conv_nI (rfl)⟩, ⟨_, rfl, conv_nI (rfl)⟩, ⟨_, rfl, conv_eq rfl (words_noHs _)⟩, ⟨_, rfl, .ptr rfl⟩, ⟨_, rfl, .ptr rfl⟩, ⟨_, rfl, .ptr rfl⟩, ⟨_, rfl, .ptr rfl⟩, trivial⟩ ⟨.inr ⟨_, _, rfl, rfl, convs_eq rfl (words_noHs _)⟩, .inr ⟨_, _, rfl, rfl, convs_eq rfl (words_noHs _)⟩, .inr ⟨_, _, rfl, rfl, convs_eq rfl (words_noHs _)⟩, .inr ⟨_, _, rfl, rfl, convs_eq rfl (words_noHs _)⟩, trivial⟩ ?_
  refine vloop_unroll ?_
  refine wpv_ok Γok (by kernel_rfl) _ _ _ ?_; conv => whnf
  obtain ⟨hi, lo, l1, c1, h1, o13, c2, k13, m1, m2, m3, m4, m5, bo13, bk13, e13⟩ := mstep a1 b3 k03 k12 ka1 kb3 bk03 bk12
  refine ⟨_, ret_of_fn G0ok (m1) (by first | rfl | simp only [noHs, noH, nI, bI, Bool.and_self, Bool.and_true, Bool.true_and, ]) (by first | rfl | simp only [noHs, noH, nI, bI, Bool.and_self, Bool.and_true, Bool.true_and, ]), ?_⟩; (conv => whnf); (try (refine ⟨by kernel_rfl, ?_⟩; conv => whnf))
  rw [ws_i64 (by decide) (by decide)]
  conv => whnf
  try (refine ⟨by kernel_rfl, ?_⟩; conv => whnf)
  refine ⟨_, ret_of_fn G0ok (m2) (by first | rfl | simp only [noHs, noH, nI, bI, Bool.and_self, Bool.and_true, Bool.true_and, ]) (by first | rfl | simp only [noHs, noH, nI, bI, Bool.and_self, Bool.and_true, Bool.true_and, ]), ?_⟩; (conv => whnf); (try (refine ⟨by kernel_rfl, ?_⟩; conv => whnf))
  rw [m3]
  conv => whnf
  try (refine ⟨by kernel_rfl, ?_⟩; conv => whnf)
  refine ⟨_, ret_of_fn G0ok (m4) (by first | rfl | simp only [noHs, noH, nI, bI, Bool.and_self, Bool.and_true, Bool.true_and, ]) (by first | rfl | simp only [noHs, noH, nI, bI, Bool.and_self, Bool.and_true, Bool.true_and, ]), ?_⟩; (conv => whnf); (try (refine ⟨by kernel_rfl, ?_⟩; conv => whnf))
  rw [m5]
  (try rw [ws_i64 (by decide) (by decide)])
  conv => whnf
  try (refine ⟨by kernel_rfl, ?_⟩; conv => whnf)
  clear m1 m2 m3 m4 m5
  refine vloop_unroll ?_
  refine wpv_ok Γok (by kernel_rfl) _ _ _ ?_; conv => whnf
  rw [ws_i64 (by decide) (by decide)]
  conv => whnf
  try (refine ⟨by kernel_rfl, ?_⟩; conv => whnf)
  rw [ws_i64 (by decide) (by decide)]
  conv => whnf
  try (refine ⟨by kernel_rfl, ?_⟩; conv => whnf)
  refine vloop_clean G0ok [(1, some 1), (2, some 2), (3, some 3), (4, some 4)] 5 [(16, nI .i64 2), (15, .agg (words [a0, a1, a2, a3])), (6, .ptr 4 0), (5, .ptr 3 0), (4, .ptr 2 0), (3, .ptr 1 0)] [(1, some (words [b0, b1, b2, b3])), (2, some (words [0, 0, 0, 0])), (3, some (words [0, 0, 0, 0])), (4, some (words [o00, o10, o11, o12, o13, k13, 0, 0]))] rfl ⟨⟨_, rfl, conv_nI (ws_i64 (by decide) (by decide))⟩, ⟨_, rfl, conv_eq rfl (words_noHs _)⟩, ⟨_, rfl, .ptr rfl⟩, ⟨_, rfl, .ptr rfl⟩, ⟨_, rfl, .ptr rfl⟩, ⟨_, rfl, .ptr rfl⟩, trivial⟩ ⟨.inr ⟨_, _, rfl, rfl, convs_eq rfl (words_noHs _)⟩, .inr ⟨_, _, rfl, rfl, convs_eq rfl (words_noHs _)⟩, .inr ⟨_, _, rfl, rfl, convs_eq rfl (words_noHs _)⟩, .inr ⟨_, _, rfl, rfl, convs_eq rfl (words_noHs _)⟩, trivial⟩ ?_
  refine vloop_unroll ?_
  refine wpv_ok Γok (by kernel_rfl) _ _ _ ?_; conv => whnf
  refine vloop_clean G0ok [(1, some 1), (2, some 2), (3, some 3), (4, some 4)] 5 [(21, nI .i64 0), (20, .agg (words [b0, b1, b2, b3])), (9, nI .u64 (0 : Nat)), (8, nI .u64 (a2 : Nat)), (7, nI .i64 2), (16, nI .i64 2), (15, .agg (words [a0, a1, a2, a3])), (6, .ptr 4 0), (5, .ptr 3 0), (4, .ptr 2 0), (3, .ptr 1 0)] [(1, some (words [b0, b1, b2, b3])), (2, some (words [0, 0, 0, 0])), (3, some (words [0, 0, 0, 0])), (4, some (words [o00, o10, o11, o12, o13, k13, 0, 0]))] rfl ⟨⟨_, rfl, conv_nI (rfl)⟩, ⟨_, rfl, conv_eq rfl (words_noHs _)⟩, ⟨_, rfl, conv_nI (rfl)⟩, ⟨_, rfl, conv_nI (rfl)⟩, ⟨_, rfl, conv_nI (rfl)⟩, ⟨_, rfl, conv_nI (rfl)⟩, ⟨_, rfl, conv_eq rfl (words_noHs _)⟩, ⟨_, rfl, .ptr rfl⟩, ⟨_, rfl, .ptr rfl⟩, ⟨_, rfl, .ptr rfl⟩, ⟨_, rfl, .ptr rfl⟩, trivial⟩ ⟨.inr ⟨_, _, rfl, rfl, convs_eq rfl (words_noHs _)⟩, .inr ⟨_, _, rfl, rfl, convs_eq rfl (words_noHs _)⟩, .inr ⟨_, _, rfl, rfl, convs_eq rfl (words_noHs _)⟩, .inr ⟨_, _, rfl, rfl, convs_eq rfl (words_noHs _)⟩, trivial⟩ ?_
  refine vloop_unroll ?_
  refine wpv_ok Γok (by kernel_rfl) _ _ _ ?_; conv => whnf
  obtain ⟨hi, lo, l1, c1, h1, o20, c2, k20, m1, m2, m3, m4, m5, bo20, bk20, e20⟩ := mstep a2 b0 o11 0 ka2 kb0 bo11 (by decide)
  refine ⟨_, ret_of_fn G0ok (m1) (by first | rfl | simp only [noHs, noH, nI, bI, Bool.and_self, Bool.and_true, Bool.true_and, ]) (by first | rfl | simp only [noHs, noH, nI, bI, Bool.and_self, Bool.and_true, Bool.true_and, ]), ?_⟩; (conv => whnf); (try (refine ⟨by kernel_rfl, ?_⟩; conv => whnf))
  rw [ws_i64 (by decide) (by decide)]
  conv => whnf
  try (refine ⟨by kernel_rfl, ?_⟩; conv => whnf)
  refine ⟨_, ret_of_fn G0ok (m2) (by first | rfl | simp only [noHs, noH, nI, bI, Bool.and_self, Bool.and_true, Bool.true_and, ]) (by first | rfl | simp only [noHs, noH, nI, bI, Bool.and_self, Bool.and_true, Bool.true_and, ]), ?_⟩; (conv => whnf); (try (refine ⟨by kernel_rfl, ?_⟩; conv => whnf))
  rw [m3]
  conv => whnf
  try (refine ⟨by kernel_rfl, ?_⟩; conv => whnf)
  refine ⟨_, ret_of_fn G0ok (m4) (by first | rfl | simp only [noHs, noH, nI, bI, Bool.and_self, Bool.and_true, Bool.true_and, ]) (by first | rfl | simp only [noHs, noH, nI, bI, Bool.and_self, Bool.and_true, Bool.true_and, ]), ?_⟩; (conv => whnf); (try (refine ⟨by kernel_rfl, ?_⟩; conv => whnf))
  rw [m5]
  (try rw [ws_i64 (by decide) (by decide)])
  conv => whnf
  try (refine ⟨by kernel_rfl, ?_⟩; conv => whnf)
  clear m1 m2 m3 m4 m5
  refine vloop_clean G0ok [(1, some 1), (2, some 2), (3, some 3), (4, some 4)] 5 [(21, nI .i64 1), (20, .agg (words [b0, b1, b2, b3])), (9, nI .u64 (k20 : Nat)), (8, nI .u64 (a2 : Nat)), (7, nI .i64 2), (16, nI .i64 2), (15, .agg (words [a0, a1, a2, a3])), (6, .ptr 4 0), (5, .ptr 3 0), (4, .ptr 2 0), (3, .ptr 1 0)] [(1, some (words [b0, b1, b2, b3])), (2, some (words [0, 0, 0, 0])), (3, some (words [0, 0, 0, 0])), (4, some (words [o00, o10, o20, o12, o13, k13, 0, 0]))] rfl ⟨⟨_, rfl, conv_nI (ws_i64 (by decide) (by decide))⟩, ⟨_, rfl, conv_eq rfl (words_noHs _)⟩, ⟨_, rfl, conv_nI (rfl)⟩, ⟨_, rfl, conv_nI (rfl)⟩, ⟨_, rfl, conv_nI (rfl)⟩, ⟨_, rfl, conv_nI (rfl)⟩, ⟨_, rfl, conv_eq rfl (words_noHs _)⟩, ⟨_, rfl, .ptr rfl⟩, ⟨_, rfl, .ptr rfl⟩, ⟨_, rfl, .ptr rfl⟩, ⟨_, rfl, .ptr rfl⟩, trivial⟩ ⟨.inr ⟨_, _, rfl, rfl, convs_eq rfl (words_noHs _)⟩, .inr ⟨_, _, rfl, rfl, convs_eq rfl (words_noHs _)⟩, .inr ⟨_, _, rfl, rfl, convs_eq rfl (words_noHs _)⟩, .inr ⟨_, _, rfl, rfl, convs_eq rfl (words_noHs _)⟩, trivial⟩ ?_
  refine vloop_unroll ?_
  refine wpv_ok Γok (by kernel_rfl) _ _ _ ?_; conv => whnf
  obtain ⟨hi, lo, l1, c1, h1, o21, c2, k21, m1, m2, m3, m4, m5, bo21, bk21, e21⟩ := mstep a2 b1 o12 k20 ka2 kb1 bo12 bk20
  refine ⟨_, ret_of_fn G0ok (m1) (by first | rfl | simp only [noHs, noH, nI, bI, Bool.and_self, Bool.and_true, Bool.true_and, ]) (by first | rfl | simp only [noHs, noH, nI, bI, Bool.and_self, Bool.and_true, Bool.true_and, ]), ?_⟩; (conv => whnf); (try (refine ⟨by kernel_rfl, ?_⟩; conv => whnf))
  rw [ws_i64 (by decide) (by decide)]
  conv => whnf
  try (refine ⟨by kernel_rfl, ?_⟩; conv => whnf)
  refine ⟨_, ret_of_fn G0ok (m2) (by first | rfl | simp only [noHs, noH, nI, bI, Bool.and_self, Bool.and_true, Bool.true_and, ]) (by first | rfl | simp only [noHs, noH, nI, bI, Bool.and_self, Bool.and_true, Bool.true_and, ]), ?_⟩; (conv => whnf); (try (refine ⟨by kernel_rfl, ?_⟩; conv => whnf))
  rw [m3]
  conv => whnf
  try (refine ⟨by kernel_rfl, ?_⟩; conv => whnf)
  refine ⟨_, ret_of_fn G0ok (m4) (by first | rfl | simp only [noHs, noH, nI, bI, Bool.and_self, Bool.and_true, Bool.true_and, ]) (by first | rfl | simp only [noHs, noH, nI, bI, Bool.and_self, Bool.and_true, Bool.true_and, ]), ?_⟩; (conv => whnf); (try (refine ⟨by kernel_rfl, ?_⟩; conv => whnf))
  rw [m5]
  (try rw [ws_i64 (by decide) (by decide)])
  conv => whnf
  try (refine ⟨by kernel_rfl, ?_⟩; conv => whnf)
  clear m1 m2 m3 m4 m5
  refine vloop_clean G0ok [(1, some 1), (2, some 2), (3, some 3), (4, some 4)] 5 [(21, nI .i64 2), (20, .agg (words [b0, b1, b2, b3])), (9, nI .u64 (k21 : Nat)), (8, nI .u64 (a2 : Nat)), (7, nI .i64 2), (16, nI .i64 2), (15, .agg (words [a0, a1, a2, a3])), (6, .ptr 4 0), (5, .ptr 3 0), (4, .ptr 2 0), (3, .ptr 1 0)] [(1, some (words [b0, b1, b2, b3])), (2, some (words [0, 0, 0, 0])), (3, some (words [0, 0, 0, 0])), (4, some (words [o00, o10, o20, o21, o13, k13, 0, 0]))] rfl ⟨⟨_, rfl, conv_nI (ws_i64 (by decide) (by decide))⟩, ⟨_, rfl, conv_eq rfl (words_noHs _)⟩, ⟨_, rfl, conv_nI (rfl)⟩, ⟨_, rfl, conv_nI (rfl)⟩, ⟨_, rfl, conv_nI (rfl)⟩, ⟨_, rfl, conv_nI (rfl)⟩, ⟨_, rfl, conv_eq rfl (words_noHs _)⟩, ⟨_, rfl, .ptr rfl⟩, ⟨_, rfl, .ptr rfl⟩, ⟨_, rfl, .ptr rfl⟩, ⟨_, rfl, .ptr rfl⟩, trivial⟩ ⟨.inr ⟨_, _, rfl, rfl, convs_eq rfl (words_noHs _)⟩, .inr ⟨_, _, rfl, rfl, convs_eq rfl (words_noHs _)⟩, .inr ⟨_, _, rfl, rfl, convs_eq rfl (words_noHs _)⟩, .inr ⟨_, _, rfl, rfl, convs_eq rfl (words_noHs _)⟩, trivial⟩ ?_
  refine vloop_unroll ?_
  refine wpv_ok Γok (by kernel_rfl) _ _ _ ?_; conv => whnf
  obtain ⟨hi, lo, l1, c1, h1, o22, c2, k22, m1, m2, m3, m4, m5, bo22, bk22, e22⟩ := mstep a2 b2 o13 k21 ka2 kb2 bo13 bk21
  refine ⟨_, ret_of_fn G0ok (m1) (by first | rfl | simp only [noHs, noH, nI, bI, Bool.and_self, Bool.and_true, Bool.true_and, ]) (by first | rfl | simp only [noHs, noH, nI, bI, Bool.and_self, Bool.and_true, Bool.true_and, ]), ?_⟩; (conv => whnf); (try (refine ⟨by kernel_rfl, ?_⟩; conv => whnf))
  rw [ws_i64 (by decide) (by decide)]
  conv => whnf
  try (refine ⟨by kernel_rfl, ?_⟩; conv => whnf)
  refine ⟨_, ret_of_fn G0ok (m2) (by first | rfl | simp only [noHs, noH, nI, bI, Bool.and_self, Bool.and_true, Bool.true_and, ]) (by first | rfl | simp only [noHs, noH, nI, bI, Bool.and_self, Bool.and_true, Bool.true_and, ]), ?_⟩; (conv => whnf); (try (refine ⟨by kernel_rfl, ?_⟩; conv => whnf))
  rw [m3]
  conv => whnf
  try (refine ⟨by kernel_rfl, ?_⟩; conv => whnf)
  refine ⟨_, ret_of_fn G0ok (m4) (by first | rfl | simp only [noHs, noH, nI, bI, Bool.and_self, Bool.and_true, Bool.true_and, ]) (by first | rfl | simp only [noHs, noH, nI, bI, Bool.and_self, Bool.and_true, Bool.true_and, ]), ?_⟩; (conv => whnf); (try (refine ⟨by kernel_rfl, ?_⟩; conv => whnf))
  rw [m5]
  (try rw [ws_i64 (by decide) (by decide)])
  conv => whnf
  try (refine ⟨by kernel_rfl, ?_⟩; conv => whnf)
  clear m1 m2 m3 m4 m5
  refine vloop_clean G0ok [(1, some 1), (2, some 2), (3, some 3), (4, some 4)] 5 [(21, nI .i64 3), (20, .agg (words [b0, b1, b2, b3])), (9, nI .u64 (k22 : Nat)), (8, nI .u64 (a2 : Nat)), (7, nI .i64 2), (16, nI .i64 2), (15, .agg (words [a0, a1, a2, a3])), (6, .ptr 4 0), (5, .ptr 3 0), (4, .ptr 2 0), (3, .ptr 1 0)] [(1, some (words [b0, b1, b2, b3])), (2, some (words [0, 0, 0, 0])), (3, some (words [0, 0, 0, 0])), (4, some (words [o00, o10, o20, o21, o22, k13, 0, 0]))] rfl ⟨⟨_, rfl, conv_nI (ws_i64 (by decide) (by decide))⟩, ⟨_, rfl, conv_eq rfl (words_noHs _)⟩, ⟨_, rfl, conv_nI (rfl)⟩, ⟨_, rfl, conv_nI (rfl)⟩, ⟨_, rfl, conv_nI (rfl)⟩, ⟨_, rfl, conv_nI (rfl)⟩, ⟨_, rfl, conv_eq rfl (words_noHs _)⟩, ⟨_, rfl, .ptr rfl⟩, ⟨_, rfl, .ptr rfl⟩, ⟨_, rfl, .ptr rfl⟩, ⟨_, rfl, .ptr rfl⟩, trivial⟩ ⟨.inr ⟨_, _, rfl, rfl, convs_eq rfl (words_noHs _)⟩, .inr ⟨_, _, rfl, rfl, convs_eq rfl (words_noHs _)⟩, .inr ⟨_, _, rfl, rfl, convs_eq rfl (words_noHs _)⟩, .inr ⟨_, _, rfl, rfl, convs_eq rfl (words_noHs _)⟩, trivial⟩ ?_
  refine vloop_unroll ?_
  refine wpv_ok Γok (by kernel_rfl) _ _ _ ?_; conv => whnf
  obtain ⟨hi, lo, l1, c1, h1, o23, c2, k23, m1, m2, m3, m4, m5, bo23, bk23, e23⟩ := mstep a2 b3 k13 k22 ka2 kb3 bk13 bk22
  refine ⟨_, ret_of_fn G0ok (m1) (by first | rfl | simp only [noHs, noH, nI, bI, Bool.and_self, Bool.and_true, Bool.true_and, ]) (by first | rfl | simp only [noHs, noH, nI, bI, Bool.and_self, Bool.and_true, Bool.true_and, ]), ?_⟩; (conv => whnf); (try (refine ⟨by kernel_rfl, ?_⟩; conv => whnf))
  rw [ws_i64 (by decide) (by decide)]
  conv => whnf
  try (refine ⟨by kernel_rfl, ?_⟩; conv => whnf)
  refine ⟨_, ret_of_fn G0ok (m2) (by first | rfl | simp only [noHs, noH, nI, bI, Bool.and_self, Bool.and_true, Bool.true_and, ]) (by first | rfl | simp only [noHs, noH, nI, bI, Bool.and_self, Bool.and_true, Bool.true_and, ]), ?_⟩; (conv => whnf); (try (refine ⟨by kernel_rfl, ?_⟩; conv => whnf))
  rw [m3]
  conv => whnf
  try (refine ⟨by kernel_rfl, ?_⟩; conv => whnf)
  refine ⟨_, ret_of_fn G0ok (m4) (by first | rfl | simp only [noHs, noH, nI, bI, Bool.and_self, Bool.and_true, Bool.true_and, ]) (by first | rfl | simp only [noHs, noH, nI, bI, Bool.and_self, Bool.and_true, Bool.true_and, ]), ?_⟩; (conv => whnf); (try (refine ⟨by kernel_rfl, ?_⟩; conv => whnf))
  rw [m5]
  (try rw [ws_i64 (by decide) (by decide)])
  conv => whnf
  try (refine ⟨by kernel_rfl, ?_⟩; conv => whnf)
  clear m1 m2 m3 m4 m5
  refine vloop_unroll ?_
  refine wpv_ok Γok (by kernel_rfl) _ _ _ ?_; conv => whnf
  rw [ws_i64 (by decide) (by decide)]
  conv => whnf
  try (refine ⟨by kernel_rfl, ?_⟩; conv => whnf)
  rw [ws_i64 (by decide) (by decide)]
  conv => whnf
  try (refine ⟨by kernel_rfl, ?_⟩; conv => whnf)
  refine vloop_clean G0ok [(1, some 1), (2, some 2), (3, some 3), (4, some 4)] 5 [(16, nI .i64 3), (15, .agg (words [a0, a1, a2, a3])), (6, .ptr 4 0), (5, .ptr 3 0), (4, .ptr 2 0), (3, .ptr 1 0)] [(1, some (words [b0, b1, b2, b3])), (2, some (words [0, 0, 0, 0])), (3, some (words [0, 0, 0, 0])), (4, some (words [o00, o10, o20, o21, o22, o23, k23, 0]))] rfl ⟨⟨_, rfl, conv_nI (ws_i64 (by decide) (by decide))⟩, ⟨_, rfl, conv_eq rfl (words_noHs _)⟩, ⟨_, rfl, .ptr rfl⟩, ⟨_, rfl, .ptr rfl⟩, ⟨_, rfl, .ptr rfl⟩, ⟨_, rfl, .ptr rfl⟩, trivial⟩ ⟨.inr ⟨_, _, rfl, rfl, convs_eq rfl (words_noHs _)⟩, .inr ⟨_, _, rfl, rfl, convs_eq rfl (words_noHs _)⟩, .inr ⟨_, _, rfl, rfl, convs_eq rfl (words_noHs _)⟩, .inr ⟨_, _, rfl, rfl, convs_eq rfl (words_noHs _)⟩, trivial⟩ ?_
  refine vloop_unroll ?_
  refine wpv_ok Γok (by kernel_rfl) _ _ _ ?_; conv => whnf
  refine vloop_clean G0ok [(1, some 1), (2, some 2), (3, some 3), (4, some 4)] 5 [(21, nI .i64 0), (20, .agg (words [b0, b1, b2, b3])), (9, nI .u64 (0 : Nat)), (8, nI .u64 (a3 : Nat)), (7, nI .i64 3), (16, nI .i64 3), (15, .agg (words [a0, a1, a2, a3])), (6, .ptr 4 0), (5, .ptr 3 0), (4, .ptr 2 0), (3, .ptr 1 0)] [(1, some (words [b0, b1, b2, b3])), (2, some (words [0, 0, 0, 0])), (3, some (words [0, 0, 0, 0])), (4, some (words [o00, o10, o20, o21, o22, o23, k23, 0]))] rfl ⟨⟨_, rfl, conv_nI (rfl)⟩, ⟨_, rfl, conv_eq rfl (words_noHs _)⟩, ⟨_, rfl, conv_nI (rfl)⟩, ⟨_, rfl, conv_nI (rfl)⟩, ⟨_, rfl, conv_nI (rfl)⟩, ⟨_, rfl, conv_nI (rfl)⟩, ⟨_, rfl, conv_eq rfl (words_noHs _)⟩, ⟨_, rfl, .ptr rfl⟩, ⟨_, rfl, .ptr rfl⟩, ⟨_, rfl, .ptr rfl⟩, ⟨_, rfl, .ptr rfl⟩, trivial⟩ ⟨.inr ⟨_, _, rfl, rfl, convs_eq rfl (words_noHs _)⟩, .inr ⟨_, _, rfl, rfl, convs_eq rfl (words_noHs _)⟩, .inr ⟨_, _, rfl, rfl, convs_eq rfl (words_noHs _)⟩, .inr ⟨_, _, rfl, rfl, convs_eq rfl (words_noHs _)⟩, trivial⟩ ?_
  refine vloop_unroll ?_
  refine wpv_ok Γok (by kernel_rfl) _ _ _ ?_; conv => whnf
  obtain ⟨hi, lo, l1, c1, h1, o30, c2, k30, m1, m2, m3, m4, m5, bo30, bk30, e30⟩ := mstep a3 b0 o21 0 ka3 kb0 bo21 (by decide)
  refine ⟨_, ret_of_fn G0ok (m1) (by first | rfl | simp only [noHs, noH, nI, bI, Bool.and_self, Bool.and_true, Bool.true_and, ]) (by first | rfl | simp only [noHs, noH, nI, bI, Bool.and_self, Bool.and_true, Bool.true_and, ]), ?_⟩; (conv => whnf); (try (refine ⟨by kernel_rfl, ?_⟩; conv => whnf))
  rw [ws_i64 (by decide) (by decide)]
  conv => whnf
  try (refine ⟨by kernel_rfl, ?_⟩; conv => whnf)
  refine ⟨_, ret_of_fn G0ok (m2) (by first | rfl | simp only [noHs, noH, nI, bI, Bool.and_self, Bool.and_true, Bool.true_and, ]) (by first | rfl | simp only [noHs, noH, nI, bI, Bool.and_self, Bool.and_true, Bool.true_and, ]), ?_⟩; (conv => whnf); (try (refine ⟨by kernel_rfl, ?_⟩; conv => whnf))
  rw [m3]
  conv => whnf
  try (refine ⟨by kernel_rfl, ?_⟩; conv => whnf)
  refine ⟨_, ret_of_fn G0ok (m4) (by first | rfl | simp only [noHs, noH, nI, bI, Bool.and_self, Bool.and_true, Bool.true_and, ]) (by first | rfl | simp only [noHs, noH, nI, bI, Bool.and_self, Bool.and_true, Bool.true_and, ]), ?_⟩; (conv => whnf); (try (refine ⟨by kernel_rfl, ?_⟩; conv => whnf))
  rw [m5]
  (try rw [ws_i64 (by decide) (by decide)])
  conv => whnf
  try (refine ⟨by kernel_rfl, ?_⟩; conv => whnf)
  clear m1 m2 m3 m4 m5
  refine vloop_clean G0ok [(1, some 1), (2, some 2), (3, some 3), (4, some 4)] 5 [(21, nI .i64 1), (20, .agg (words [b0, b1, b2, b3])), (9, nI .u64 (k30 : Nat)), (8, nI .u64 (a3 : Nat)), (7, nI .i64 3), (16, nI .i64 3), (15, .agg (words [a0, a1, a2, a3])), (6, .ptr 4 0), (5, .ptr 3 0), (4, .ptr 2 0), (3, .ptr 1 0)] [(1, some (words [b0, b1, b2, b3])), (2, some (words [0, 0, 0, 0])), (3, some (words [0, 0, 0, 0])), (4, some (words [o00, o10, o20, o30, o22, o23, k23, 0]))] rfl ⟨⟨_, rfl, conv_nI (ws_i64 (by decide) (by decide))⟩, ⟨_, rfl, conv_eq rfl (words_noHs _)⟩, ⟨_, rfl, conv_nI (rfl)⟩, ⟨_, rfl, conv_nI (rfl)⟩, ⟨_, rfl, conv_nI (rfl)⟩, ⟨_, rfl, conv_nI (rfl)⟩, ⟨_, rfl, conv_eq rfl (words_noHs _)⟩, ⟨_, rfl, .ptr rfl⟩, ⟨_, rfl, .ptr rfl⟩, ⟨_, rfl, .ptr rfl⟩, ⟨_, rfl, .ptr rfl⟩, trivial⟩ ⟨.inr ⟨_, _, rfl, rfl, convs_eq rfl (words_noHs _)⟩, .inr ⟨_, _, rfl, rfl, convs_eq rfl (words_noHs _)⟩, .inr ⟨_, _, rfl, rfl, convs_eq rfl (words_noHs _)⟩, .inr ⟨_, _, rfl, rfl, convs_eq rfl (words_noHs _)⟩, trivial⟩ ?_
  refine vloop_unroll ?_
  refine wpv_ok Γok (by kernel_rfl) _ _ _ ?_; conv => whnf
  obtain ⟨hi, lo, l1, c1, h1, o31, c2, k31, m1, m2, m3, m4, m5, bo31, bk31, e31⟩ := mstep a3 b1 o22 k30 ka3 kb1 bo22 bk30
  refine ⟨_, ret_of_fn G0ok (m1) (by first | rfl | simp only [noHs, noH, nI, bI, Bool.and_self, Bool.and_true, Bool.true_and, ]) (by first | rfl | simp only [noHs, noH, nI, bI, Bool.and_self, Bool.and_true, Bool.true_and, ]), ?_⟩; (conv => whnf); (try (refine ⟨by kernel_rfl, ?_⟩; conv => whnf))
  rw [ws_i64 (by decide) (by decide)]
  conv => whnf
  try (refine ⟨by kernel_rfl, ?_⟩; conv => whnf)
  refine ⟨_, ret_of_fn G0ok (m2) (by first | rfl | simp only [noHs, noH, nI, bI, Bool.and_self, Bool.and_true, Bool.true_and, ]) (by first | rfl | simp only [noHs, noH, nI, bI, Bool.and_self, Bool.and_true, Bool.true_and, ]), ?_⟩; (conv => whnf); (try (refine ⟨by kernel_rfl, ?_⟩; conv => whnf))
  rw [m3]
  conv => whnf
  try (refine ⟨by kernel_rfl, ?_⟩; conv => whnf)
  refine ⟨_, ret_of_fn G0ok (m4) (by first | rfl | simp only [noHs, noH, nI, bI, Bool.and_self, Bool.and_true, Bool.true_and, ]) (by first | rfl | simp only [noHs, noH, nI, bI, Bool.and_self, Bool.and_true, Bool.true_and, ]), ?_⟩; (conv => whnf); (try (refine ⟨by kernel_rfl, ?_⟩; conv => whnf))
  rw [m5]
  (try rw [ws_i64 (by decide) (by decide)])
  conv => whnf
  try (refine ⟨by kernel_rfl, ?_⟩; conv => whnf)
  clear m1 m2 m3 m4 m5
  refine vloop_clean G0ok [(1, some 1), (2, some 2), (3, some 3), (4, some 4)] 5 [(21, nI .i64 2), (20, .agg (words [b0, b1, b2, b3])), (9, nI .u64 (k31 : Nat)), (8, nI .u64 (a3 : Nat)), (7, nI .i64 3), (16, nI .i64 3), (15, .agg (words [a0, a1, a2, a3])), (6, .ptr 4 0), (5, .ptr 3 0), (4, .ptr 2 0), (3, .ptr 1 0)] [(1, some (words [b0, b1, b2, b3])), (2, some (words [0, 0, 0, 0])), (3, some (words [0, 0, 0, 0])), (4, some (words [o00, o10, o20, o30, o31, o23, k23, 0]))] rfl ⟨⟨_, rfl, conv_nI (ws_i64 (by decide) (by decide))⟩, ⟨_, rfl, conv_eq rfl (words_noHs _)⟩, ⟨_, rfl, conv_nI (rfl)⟩, ⟨_, rfl, conv_nI (rfl)⟩, ⟨_, rfl, conv_nI (rfl)⟩, ⟨_, rfl, conv_nI (rfl)⟩, ⟨_, rfl, conv_eq rfl (words_noHs _)⟩, ⟨_, rfl, .ptr rfl⟩, ⟨_, rfl, .ptr rfl⟩, ⟨_, rfl, .ptr rfl⟩, ⟨_, rfl, .ptr rfl⟩, trivial⟩ ⟨.inr ⟨_, _, rfl, rfl, convs_eq rfl (words_noHs _)⟩, .inr ⟨_, _, rfl, rfl, convs_eq rfl (words_noHs _)⟩, .inr ⟨_, _, rfl, rfl, convs_eq rfl (words_noHs _)⟩, .inr ⟨_, _, rfl, rfl, convs_eq rfl (words_noHs _)⟩, trivial⟩ ?_
  refine vloop_unroll ?_
  refine wpv_ok Γok (by kernel_rfl) _ _ _ ?_; conv => whnf
  obtain ⟨hi, lo, l1, c1, h1, o32, c2, k32, m1, m2, m3, m4, m5, bo32, bk32, e32⟩ := mstep a3 b2 o23 k31 ka3 kb2 bo23 bk31
  refine ⟨_, ret_of_fn G0ok (m1) (by first | rfl | simp only [noHs, noH, nI, bI, Bool.and_self, Bool.and_true, Bool.true_and, ]) (by first | rfl | simp only [noHs, noH, nI, bI, Bool.and_self, Bool.and_true, Bool.true_and, ]), ?_⟩; (conv => whnf); (try (refine ⟨by kernel_rfl, ?_⟩; conv => whnf))
  rw [ws_i64 (by decide) (by decide)]
  conv => whnf
  try (refine ⟨by kernel_rfl, ?_⟩; conv => whnf)
  refine ⟨_, ret_of_fn G0ok (m2) (by first | rfl | simp only [noHs, noH, nI, bI, Bool.and_self, Bool.and_true, Bool.true_and, ]) (by first | rfl | simp only [noHs, noH, nI, bI, Bool.and_self, Bool.and_true, Bool.true_and, ]), ?_⟩; (conv => whnf); (try (refine ⟨by kernel_rfl, ?_⟩; conv => whnf))
  rw [m3]
  conv => whnf
  try (refine ⟨by kernel_rfl, ?_⟩; conv => whnf)
  refine ⟨_, ret_of_fn G0ok (m4) (by first | rfl | simp only [noHs, noH, nI, bI, Bool.and_self, Bool.and_true, Bool.true_and, ]) (by first | rfl | simp only [noHs, noH, nI, bI, Bool.and_self, Bool.and_true, Bool.true_and, ]), ?_⟩; (conv => whnf); (try (refine ⟨by kernel_rfl, ?_⟩; conv => whnf))
  rw [m5]
  (try rw [ws_i64 (by decide) (by decide)])
  conv => whnf
  try (refine ⟨by kernel_rfl, ?_⟩; conv => whnf)
  clear m1 m2 m3 m4 m5
  refine vloop_clean G0ok [(1, some 1), (2, some 2), (3, some 3), (4, some 4)] 5 [(21, nI .i64 3), (20, .agg (words [b0, b1, b2, b3])), (9, nI .u64 (k32 : Nat)), (8, nI .u64 (a3 : Nat)), (7, nI .i64 3), (16, nI .i64 3), (15, .agg (words [a0, a1, a2, a3])), (6, .ptr 4 0), (5, .ptr 3 0), (4, .ptr 2 0), (3, .ptr 1 0)] [(1, some (words [b0, b1, b2, b3])), (2, some (words [0, 0, 0, 0])), (3, some (words [0, 0, 0, 0])), (4, some (words [o00, o10, o20, o30, o31, o32, k23, 0]))] rfl ⟨⟨_, rfl, conv_nI (ws_i64 (by decide) (by decide))⟩, ⟨_, rfl, conv_eq rfl (words_noHs _)⟩, ⟨_, rfl, conv_nI (rfl)⟩, ⟨_, rfl, conv_nI (rfl)⟩, ⟨_, rfl, conv_nI (rfl)⟩, ⟨_, rfl, conv_nI (rfl)⟩, ⟨_, rfl, conv_eq rfl (words_noHs _)⟩, ⟨_, rfl, .ptr rfl⟩, ⟨_, rfl, .ptr rfl⟩, ⟨_, rfl, .ptr rfl⟩, ⟨_, rfl, .ptr rfl⟩, trivial⟩ ⟨.inr ⟨_, _, rfl, rfl, convs_eq rfl (words_noHs _)⟩, .inr ⟨_, _, rfl, rfl, convs_eq rfl (words_noHs _)⟩, .inr ⟨_, _, rfl, rfl, convs_eq rfl (words_noHs _)⟩, .inr ⟨_, _, rfl, rfl, convs_eq rfl (words_noHs _)⟩, trivial⟩ ?_
  refine vloop_unroll ?_
  refine wpv_ok Γok (by kernel_rfl) _ _ _ ?_; conv => whnf
  obtain ⟨hi, lo, l1, c1, h1, o33, c2, k33, m1, m2, m3, m4, m5, bo33, bk33, e33⟩ := mstep a3 b3 k23 k32 ka3 kb3 bk23 bk32
  refine ⟨_, ret_of_fn G0ok (m1) (by first | rfl | simp only [noHs, noH, nI, bI, Bool.and_self, Bool.and_true, Bool.true_and, ]) (by first | rfl | simp only [noHs, noH, nI, bI, Bool.and_self, Bool.and_true, Bool.true_and, ]), ?_⟩; (conv => whnf); (try (refine ⟨by kernel_rfl, ?_⟩; conv => whnf))
  rw [ws_i64 (by decide) (by decide)]
  conv => whnf
  try (refine ⟨by kernel_rfl, ?_⟩; conv => whnf)
  refine ⟨_, ret_of_fn G0ok (m2) (by first | rfl | simp only [noHs, noH, nI, bI, Bool.and_self, Bool.and_true, Bool.true_and, ]) (by first | rfl | simp only [noHs, noH, nI, bI, Bool.and_self, Bool.and_true, Bool.true_and, ]), ?_⟩; (conv => whnf); (try (refine ⟨by kernel_rfl, ?_⟩; conv => whnf))
  rw [m3]
  conv => whnf
  try (refine ⟨by kernel_rfl, ?_⟩; conv => whnf)
  refine ⟨_, ret_of_fn G0ok (m4) (by first | rfl | simp only [noHs, noH, nI, bI, Bool.and_self, Bool.and_true, Bool.true_and, ]) (by first | rfl | simp only [noHs, noH, nI, bI, Bool.and_self, Bool.and_true, Bool.true_and, ]), ?_⟩; (conv => whnf); (try (refine ⟨by kernel_rfl, ?_⟩; conv => whnf))
  rw [m5]
  (try rw [ws_i64 (by decide) (by decide)])
  conv => whnf
  try (refine ⟨by kernel_rfl, ?_⟩; conv => whnf)
  clear m1 m2 m3 m4 m5
  refine vloop_unroll ?_
  refine wpv_ok Γok (by kernel_rfl) _ _ _ ?_; conv => whnf
  rw [ws_i64 (by decide) (by decide)]
  conv => whnf
  try (refine ⟨by kernel_rfl, ?_⟩; conv => whnf)
  rw [ws_i64 (by decide) (by decide)]
  conv => whnf
  try (refine ⟨by kernel_rfl, ?_⟩; conv => whnf)
  refine vloop_unroll ?_
  refine wpv_ok Γok (by kernel_rfl) _ _ _ ?_; conv => whnf
  rw [ws_i64 (by decide) (by decide)]
  conv => whnf
  try (refine ⟨by kernel_rfl, ?_⟩; conv => whnf)
  obtain ⟨r1, r2⟩ := mul_val4 bo00 bo10 bo20 bo30 e00 e01 e02 e03 e10 e11 e12 e13 e20 e21 e22 e23 e30 e31 e32 e33
  rw [r1, r2, uV_val4 bo00 bo10 bo20 bo30, uV_val4 bo31 bo32 bo33 bk33]
  exact ⟨_, rfl, rfl⟩
theorem mul_fn {a b : Nat} (ha : a < T256) (hb : b < T256) : FnV Try.prog G0 69 [uV a, uV b] (.tup [uV (mulL a b), uV (mulH a b)]) := by
  obtain ⟨a0, a1, a2, a3, k0, k1, k2, k3, rfl⟩ := limbs ha
  obtain ⟨b0, b1, b2, b3, m0, m1, m2, m3, rfl⟩ := limbs hb
  have := mul_fn4 a0 a1 a2 a3 b0 b1 b2 b3 k0 k1 k2 k3 m0 m1 m2 m3
  rwa [← uV_val4 k0 k1 k2 k3, ← uV_val4 m0 m1 m2 m3] at this
end Go.Proofs.Ytlecdiopokalgaa
namespace Go.Proofs.Ytlecdiopokalgaa
set_option linter.unusedVariables false
set_option linter.unusedSimpArgs false
set_option linter.unusedSectionVars false
open Go.ChangeShapes Go.WideShapes Go.ChangeAt Go.RowKit Go.Joins
set_option maxRecDepth 10000
abbrev strV (L : List UInt8) : VV := .v (.string ⟨L.toArray⟩)
def bl (L : List UInt8) : List Nat := L.map fun b => b.toNat
theorem bl_len (L : List UInt8) : (bl L).length = L.length := by unfold bl; rw [List.length_map]
theorem bl_lt (L : List UInt8) : ∀ x ∈ bl L, x < 256 := fun x hx => by
  obtain ⟨b, _, rfl⟩ := List.mem_map.1 hx
  exact b.toNat_lt
theorem bl_cells (L : List UInt8) : L.map byV = bts (bl L) := by
  unfold bl bts
  rw [List.map_map]
  rfl
/-- How far all are digits. -/
def digs (B : List Nat) : Nat → Bool
  | 0 => true
  | i + 1 => digs B i && decide (48 ≤ B.getD i 0 ∧ B.getD i 0 ≤ 57)
/-- What is read of bytes without a nought ahead. -/
noncomputable def parV (B : List Nat) : VV :=
  if digs B B.length = false then .tup [.agg (words [0, 0, 0, 0]), nI .i64 3]
  else if T256 ≤ valB B B.length then .tup [.agg (words [0, 0, 0, 0]), nI .i64 6]
  else .tup [uV (valB B B.length), nI .i64 0]
theorem digs_not {B : List Nat} {i : Nat} (h : digs B i = false) : ∀ k, digs B (i + k) = false
  | 0 => h
  | k + 1 => by
    show (digs B (i + k) && _) = false
    rw [digs_not h k, Bool.false_and]
theorem parV_bad {B : List Nat} {i : Nat} (hi : i + 1 ≤ B.length) (h : digs B (i + 1) = false) : parV B = .tup [.agg (words [0, 0, 0, 0]), nI .i64 3] := by
  have := digs_not h (B.length - (i + 1))
  rw [show i + 1 + (B.length - (i + 1)) = B.length by omega] at this
  unfold parV
  rw [if_pos this]
theorem stepP (V d : Nat) : (V * 10 + d) % T256 = (V % T256 * 10 % T256 + d) % T256 ∧ (decide (T256 ≤ V) || (decide (T256 ≤ V % T256 * 10 % T256 + d) || !decide (V % T256 * 10 / T256 = 0))) = decide (T256 ≤ V * 10 + d) := by
  constructor
  · simp [Nat.add_mod, Nat.mul_mod]
  · by_cases h : T256 ≤ V
    · rw [decide_eq_true h, Bool.true_or, decide_eq_true (show T256 ≤ V * 10 + d from Nat.le_trans h (by omega))]
    · rw [decide_eq_false h, Bool.false_or, Nat.mod_eq_of_lt (show V < T256 by omega)]
      have e := Nat.mod_add_div (V * 10) T256
      by_cases g : V * 10 / T256 = 0
      · rw [g, Nat.mul_zero, Nat.add_zero] at e
        rw [e, decide_eq_true g, Bool.not_true, Bool.or_false]
      · rw [decide_eq_false g, Bool.not_false, Bool.or_true]
        have : T256 * 1 ≤ T256 * (V * 10 / T256) := Nat.mul_le_mul_left _ (Nat.pos_of_ne_zero g)
        rw [decide_eq_true (show T256 ≤ V * 10 + d by omega)]
theorem hl_lt (V : Nat) : V % T256 * 10 / T256 < T256 := by
  have h := Nat.mod_lt V (show 0 < T256 by decide)
  have h2 : T256 * 10 ≤ T256 * T256 := Nat.mul_le_mul_left _ (by decide)
  exact Nat.div_lt_of_lt_mul (by omega)
theorem vindex_str {t : TypeId} {L : List UInt8} {i : Nat} {j : Int} {k : IntKind} (ht : tdOf Γ t = some .str) (hj : j = i) (hi : i < L.length) : vindex Γ t (strV L) (.v (.int k j)) = some (nI .u8 (((bl L).getD i 0 : Nat) : Int)) := by
  subst hj
  unfold vindex
  have e : (ByteArray.mk L.toArray)[((i : Nat) : Int).toNat]? = some L[i] := getElem?_pos (ByteArray.mk L.toArray) i hi
  simp only [ht]
  rw [if_pos (Int.natCast_nonneg _), e]
  dsimp only
  rw [List.getD_eq_getElem?_getD, List.getElem?_eq_getElem (by rw [bl_len]; exact hi), Option.getD_some]
  unfold bl
  rw [List.getElem_map]
theorem vpure_indexS {t : TypeId} {x i : Operand} {ev : Operand → VV} {v : VV} (h : vindex Γ t (ev x) (ev i) = some v) : vpure Γ (.index t x i) ev = some v := h
theorem parse_big {L : List UInt8} (h78 : 78 < L.length) (hm : L.length ≤ maxLen) : FnV Try.prog G0 42 [strV L] (.tup [.agg (words [0, 0, 0, 0]), nI .i64 1]) := by
  have sz : (ByteArray.mk L.toArray).size = L.length := rfl
  refine fn_of_vwp Γok Try.func42 (by kernel_rfl) rfl (by simp [Try.ntmps42]) (wpv_ok Γok (by kernel_rfl) _ _ _ ?_); conv => whnf
  rw [sz, decide_eq_true (show ((L.length : Nat) : Int) > 78 by omega)]
  conv => whnf
  try (refine ⟨by kernel_rfl, ?_⟩; conv => whnf)
  exact ⟨_, rfl, rfl⟩
theorem parse_none : FnV Try.prog G0 42 [strV []] (.tup [.agg (words [0, 0, 0, 0]), nI .i64 3]) := by
  have e := str_eq [] []
  rw [decide_eq_true rfl] at e
  refine fn_of_vwp Γok Try.func42 (by kernel_rfl) rfl (by simp [Try.ntmps42]) (wpv_ok Γok (by kernel_rfl) _ _ _ ?_); conv => whnf
  rw [show hid ((ByteArray.mk ([] : List UInt8).toArray).toList == (ByteArray.mk #[]).toList) = true from e]
  conv => whnf
  try (refine ⟨by kernel_rfl, ?_⟩; conv => whnf)
  exact ⟨_, rfl, rfl⟩
theorem parse_lead {L : List UInt8} (h78 : L.length ≤ 78) (h1 : 1 < L.length) (h0 : (bl L).getD 0 0 = 48) : FnV Try.prog G0 42 [strV L] (.tup [.agg (words [0, 0, 0, 0]), nI .i64 3]) := by
  have sz : (ByteArray.mk L.toArray).size = L.length := rfl
  refine fn_of_vwp Γok Try.func42 (by kernel_rfl) rfl (by simp [Try.ntmps42]) (wpv_ok Γok (by kernel_rfl) _ _ _ ?_); conv => whnf
  rw [sz, decide_eq_false (show ¬ ((L.length : Nat) : Int) > 78 by omega)]
  conv => whnf
  try (refine ⟨by kernel_rfl, ?_⟩; conv => whnf)
  rw [show (ByteArray.mk #[]) = ByteArray.mk ([] : List UInt8).toArray from rfl, str_eq, decide_eq_false (show ¬ L = [] from fun h => by rw [h] at h1; exact absurd h1 (by decide))]
  conv => whnf
  try (refine ⟨by kernel_rfl, ?_⟩; conv => whnf)
  rw [sz, decide_eq_true (show ((L.length : Nat) : Int) > 1 by omega)]
  conv => whnf
  try (refine ⟨by kernel_rfl, ?_⟩; conv => whnf)
  refine bindP_intro (vpure_indexS (vindex_str (t := 9) (i := 0) rfl rfl (by omega))) ?_
  rw [h0]
  conv => whnf
  try (refine ⟨by kernel_rfl, ?_⟩; conv => whnf)
  exact ⟨_, rfl, rfl⟩
theorem parse_go {L : List UInt8} (h78 : L.length ≤ 78) (h1 : 0 < L.length) (h0 : L.length = 1 ∨ (bl L).getD 0 0 ≠ 48) : FnV Try.prog G0 42 [strV L] (parV (bl L)) := by
  have sz : (ByteArray.mk L.toArray).size = L.length := rfl
  refine fn_of_vwp Γok Try.func42 (by kernel_rfl) rfl (by simp [Try.ntmps42]) (wpv_ok Γok (by kernel_rfl) _ _ _ ?_); conv => whnf
  rw [sz, decide_eq_false (show ¬ ((L.length : Nat) : Int) > 78 by omega)]
  conv => whnf
  try (refine ⟨by kernel_rfl, ?_⟩; conv => whnf)
  rw [show (ByteArray.mk #[]) = ByteArray.mk ([] : List UInt8).toArray from rfl, str_eq, decide_eq_false (show ¬ L = [] from fun h => by rw [h] at h1; exact absurd h1 (by decide))]
  conv => whnf
  try (refine ⟨by kernel_rfl, ?_⟩; conv => whnf)
  by_cases l1 : L.length = 1
  · rw [sz, decide_eq_false (show ¬ ((L.length : Nat) : Int) > 1 by omega)]
    conv => whnf
    try (refine ⟨by kernel_rfl, ?_⟩; conv => whnf)
    refine onlyIf_intro (by show Nat.ble L.length 140737488355328 = true; exact Nat.ble_eq_true_of_le (by omega)) ?_
    refine .read L.length (bts (bl L)) sz (bl_cells L) (by rw [bts_length, bl_len, Nat.mul_one]) (bts_noHs _) ?_
    conv => whnf
    try (refine ⟨by kernel_rfl, ?_⟩; conv => whnf)
    have nB' : noHs (bts (bl L)) = true := bts_noHs _
    have len := bl_len L
    refine gen_ex (bl L) fun B eB => ?_
    rw [← eB] at nB' len ⊢
    clear eB
    refine vloop_invK G0ok [(0, some 0), (1, some 1)] 2 (X := Nat) (fun i => [(32, nI .i64 i), (31, nI .i64 L.length), (30, .ds false L.length (bts B)), (5, bI (decide (T256 ≤ valB B i))), (4, .ptr 1 0), (3, nI .i64 0), (2, .ptr 0 0)]) (fun i => [(0, some [nI .u64 0, nI .u64 0, nI .u64 0, nI .u64 0]), (1, some (uC (valB B i % T256)))]) (fun i => i ≤ L.length ∧ digs B i = true) (fun i => L.length - i) 0 rfl
      ⟨⟨_, rfl, conv_nI (rfl)⟩, ⟨_, rfl, conv_nI (rfl)⟩, ⟨_, rfl, conv_eq rfl (nB')⟩, ⟨_, rfl, conv_eq (by rw [decide_eq_false (show ¬ T256 ≤ valB B 0 by show ¬ T256 ≤ 0; decide)]; rfl) rfl⟩, ⟨_, rfl, .ptr rfl⟩, ⟨_, rfl, conv_nI (rfl)⟩, ⟨_, rfl, .ptr rfl⟩, trivial⟩ ⟨.inr ⟨_, _, rfl, rfl, .same rfl⟩, .inr ⟨_, _, rfl, rfl, convs_eq ((uC_lit (n := 0) (by decide)).symm) (rfl)⟩, trivial⟩ ⟨Nat.zero_le _, rfl⟩ ?_
    rintro i ⟨hi, hd⟩
    dsimp only at hi hd ⊢
    refine wpv_ok Γok (by kernel_rfl) _ _ _ ?_; conv => whnf
    refine bool_cases (fun hc => ?_) (fun hc => ?_)
    · have hc := of_decide_eq_true hc
      have hc : i < L.length := by omega
      have dn : digs B (i + 1) = (digs B i && decide (48 ≤ B.getD i 0 ∧ B.getD i 0 ≤ 57)) := rfl
      have vn : valB B (i + 1) = valB B i * 10 + (B.getD i 0 - 48) := rfl
      rw [hd, Bool.true_and] at dn
      conv => whnf
      try (refine ⟨by kernel_rfl, ?_⟩; conv => whnf)
      refine bindP_intro (if_pos (inB_ok (by omega) (by omega))) ?_; conv => whnf
      refine bindP_intro (bts_ix (i := i) (by dsimp only; omega) (by omega)) ?_
      refine gen_ex (B.getD i 0) fun c ec => ?_
      rw [← ec] at dn vn ⊢
      clear ec
      conv => whnf
      try (refine ⟨by kernel_rfl, ?_⟩; conv => whnf)
      have mf := mul_fn (a := valB B i % T256) (b := 10) (Nat.mod_lt _ (by decide)) (by decide)
      rw [show uV 10 = .agg (words [10, 0, 0, 0]) from congrArg VV.agg (uC_lit (n := 10) (by decide))] at mf
      rw [mulL_def, mulH_def] at mf
      by_cases c1 : c < 48
      · rw [decide_eq_true (show (c : Int) < 48 by omega)]
        conv => whnf
        try (refine ⟨by kernel_rfl, ?_⟩; conv => whnf)
        rw [show parV B = .tup [.agg (words [0, 0, 0, 0]), nI .i64 3] from parV_bad (i := i) (by omega) (by rw [dn]; exact decide_eq_false (by omega))]
        exact ⟨_, rfl, rfl⟩
      · rw [decide_eq_false (show ¬ (c : Int) < 48 by omega)]
        conv => whnf
        try (refine ⟨by kernel_rfl, ?_⟩; conv => whnf)
        by_cases c2 : 57 < c
        · rw [decide_eq_true (show (c : Int) > 57 by omega)]
          conv => whnf
          try (refine ⟨by kernel_rfl, ?_⟩; conv => whnf)
          rw [show parV B = .tup [.agg (words [0, 0, 0, 0]), nI .i64 3] from parV_bad (i := i) (by omega) (by rw [dn]; exact decide_eq_false (by omega))]
          exact ⟨_, rfl, rfl⟩
        · rw [decide_eq_false (show ¬ (c : Int) > 57 by omega)]
          obtain ⟨d, hd2⟩ : ∃ d, c = 48 + d := ⟨c - 48, by omega⟩
          have d10 : d < 10 := by omega
          rw [show c - 48 = d by omega] at vn
          rw [decide_eq_true (show 48 ≤ c ∧ c ≤ 57 by omega)] at dn
          obtain ⟨al, ao⟩ := stepP (valB B i) d
          rw [← vn] at al ao
          have lt0 : valB B i % T256 * 10 % T256 < T256 := Nat.mod_lt _ (by decide)
          have hl0 := hl_lt (valB B i)
          have ad := add_fn (a := valB B i % T256 * 10 % T256) (b := d) lt0 (Nat.lt_trans d10 (by decide))
          rw [show uV d = .agg (words [d, 0, 0, 0]) from congrArg VV.agg (uC_lit (n := d) (Nat.lt_trans d10 (by decide))), addS_def, addO_def, ← al] at ad
          refine gen_ex (valB B i % T256 * 10 % T256) fun lo elo => ?_
          rw [← elo] at mf ad ao
          refine gen_ex (valB B i % T256 * 10 / T256) fun hg ehg => ?_
          rw [← ehg] at mf ao hl0
          conv => whnf
          try (refine ⟨by kernel_rfl, ?_⟩; conv => whnf)
          refine ⟨_, ret_of_fn G0ok (mf) (by first | rfl | simp only [noHs, noH, nI, bI, Bool.and_self, Bool.and_true, Bool.true_and, words_noHs]) (by first | rfl | simp only [noHs, noH, nI, bI, Bool.and_self, Bool.and_true, Bool.true_and, words_noHs]), ?_⟩; (conv => whnf); (try (refine ⟨by kernel_rfl, ?_⟩; conv => whnf))
          rw [show wS .u8 ((c : Int) - 48) = (d : Int) from by rw [ws_u8]; omega, ws_u64n (x := (d : Int)) (by omega) (by omega)]
          conv => whnf
          try (refine ⟨by kernel_rfl, ?_⟩; conv => whnf)
          refine ⟨_, ret_of_fn G0ok (ad) (by first | rfl | simp only [noHs, noH, nI, bI, Bool.and_self, Bool.and_true, Bool.true_and, words_noHs]) (by first | rfl | simp only [noHs, noH, nI, bI, Bool.and_self, Bool.and_true, Bool.true_and, words_noHs]), ?_⟩; (conv => whnf); (try (refine ⟨by kernel_rfl, ?_⟩; conv => whnf))
          by_cases w0 : T256 ≤ valB B i
          · rw [decide_eq_true w0]
            rw [decide_eq_true w0, Bool.true_or] at ao
            conv => whnf
            try (refine ⟨by kernel_rfl, ?_⟩; conv => whnf)
            refine next_round (y := i) G0ok (i + 1) [(0, some 0), (1, some 1)] rfl ⟨⟨_, rfl, conv_nI (ws_i64 (by omega) (by omega))⟩, ⟨_, rfl, conv_nI (rfl)⟩, ⟨_, rfl, conv_eq rfl (nB')⟩, ⟨_, rfl, conv_eq (by rw [← ao]; rfl) rfl⟩, ⟨_, rfl, .ptr rfl⟩, ⟨_, rfl, conv_nI (rfl)⟩, ⟨_, rfl, .ptr rfl⟩, trivial⟩ ⟨.inr ⟨_, _, rfl, rfl, .same rfl⟩, .inr ⟨_, _, rfl, rfl, .same rfl⟩, trivial⟩ ⟨by omega, dn⟩ (by omega)
          · rw [decide_eq_false w0]
            rw [decide_eq_false w0, Bool.false_or] at ao
            by_cases ov : T256 ≤ lo + d
            · rw [decide_eq_true ov]
              rw [decide_eq_true ov, Bool.true_or] at ao
              conv => whnf
              try (refine ⟨by kernel_rfl, ?_⟩; conv => whnf)
              refine next_round (y := i) G0ok (i + 1) [(0, some 0), (1, some 1)] rfl ⟨⟨_, rfl, conv_nI (ws_i64 (by omega) (by omega))⟩, ⟨_, rfl, conv_nI (rfl)⟩, ⟨_, rfl, conv_eq rfl (nB')⟩, ⟨_, rfl, conv_eq (by rw [← ao]; rfl) rfl⟩, ⟨_, rfl, .ptr rfl⟩, ⟨_, rfl, conv_nI (rfl)⟩, ⟨_, rfl, .ptr rfl⟩, trivial⟩ ⟨.inr ⟨_, _, rfl, rfl, .same rfl⟩, .inr ⟨_, _, rfl, rfl, .same rfl⟩, trivial⟩ ⟨by omega, dn⟩ (by omega)
            · rw [decide_eq_false ov]
              rw [decide_eq_false ov, Bool.false_or] at ao
              conv => whnf
              try (refine ⟨by kernel_rfl, ?_⟩; conv => whnf)
              refine ⟨_, nez_uW hl0, ?_⟩
              rw [ao]
              conv => whnf
              try (refine ⟨by kernel_rfl, ?_⟩; conv => whnf)
              refine next_round (y := i) G0ok (i + 1) [(0, some 0), (1, some 1)] rfl ⟨⟨_, rfl, conv_nI (ws_i64 (by omega) (by omega))⟩, ⟨_, rfl, conv_nI (rfl)⟩, ⟨_, rfl, conv_eq rfl (nB')⟩, ⟨_, rfl, conv_eq (rfl) rfl⟩, ⟨_, rfl, .ptr rfl⟩, ⟨_, rfl, conv_nI (rfl)⟩, ⟨_, rfl, .ptr rfl⟩, trivial⟩ ⟨.inr ⟨_, _, rfl, rfl, .same rfl⟩, .inr ⟨_, _, rfl, rfl, .same rfl⟩, trivial⟩ ⟨by omega, dn⟩ (by omega)
    · have hc := of_decide_eq_false hc
      have e : i = L.length := by omega
      subst e
      unfold parV
      rw [if_neg (by rw [len, hd]; decide), len]
      by_cases w0 : T256 ≤ valB B L.length
      · rw [decide_eq_true w0, if_pos w0]
        conv => whnf
        try (refine ⟨by kernel_rfl, ?_⟩; conv => whnf)
        exact ⟨_, rfl, rfl⟩
      · rw [decide_eq_false w0, if_neg w0, Nat.mod_eq_of_lt (show valB B L.length < T256 by omega)]
        conv => whnf
        try (refine ⟨by kernel_rfl, ?_⟩; conv => whnf)
        exact ⟨_, rfl, rfl⟩
  · have h0 := h0.resolve_left l1
    rw [sz, decide_eq_true (show ((L.length : Nat) : Int) > 1 by omega)]
    conv => whnf
    try (refine ⟨by kernel_rfl, ?_⟩; conv => whnf)
    refine bindP_intro (vpure_indexS (vindex_str (t := 9) (i := 0) rfl rfl h1)) ?_
    refine gen_ex ((bl L).getD 0 0) fun x ex => ?_
    rw [← ex] at h0 ⊢
    conv => whnf
    try (refine ⟨by kernel_rfl, ?_⟩; conv => whnf)
    rw [show (((x : Nat) : Int) == 48) = false from (beq_lit _ 48).trans (decide_eq_false h0)]
    conv => whnf
    try (refine ⟨by kernel_rfl, ?_⟩; conv => whnf)
    refine onlyIf_intro (by show Nat.ble L.length 140737488355328 = true; exact Nat.ble_eq_true_of_le (by omega)) ?_
    refine .read L.length (bts (bl L)) sz (bl_cells L) (by rw [bts_length, bl_len, Nat.mul_one]) (bts_noHs _) ?_
    conv => whnf
    try (refine ⟨by kernel_rfl, ?_⟩; conv => whnf)
    have nB' : noHs (bts (bl L)) = true := bts_noHs _
    have len := bl_len L
    refine gen_ex (bl L) fun B eB => ?_
    rw [← eB] at nB' len ⊢
    clear eB
    refine vloop_invK G0ok [(0, some 0), (1, some 1)] 2 (X := Nat) (fun i => [(32, nI .i64 i), (31, nI .i64 L.length), (30, .ds false L.length (bts B)), (5, bI (decide (T256 ≤ valB B i))), (4, .ptr 1 0), (3, nI .i64 0), (2, .ptr 0 0)]) (fun i => [(0, some [nI .u64 0, nI .u64 0, nI .u64 0, nI .u64 0]), (1, some (uC (valB B i % T256)))]) (fun i => i ≤ L.length ∧ digs B i = true) (fun i => L.length - i) 0 rfl
      ⟨⟨_, rfl, conv_nI (rfl)⟩, ⟨_, rfl, conv_nI (rfl)⟩, ⟨_, rfl, conv_eq rfl (nB')⟩, ⟨_, rfl, conv_eq (by rw [decide_eq_false (show ¬ T256 ≤ valB B 0 by show ¬ T256 ≤ 0; decide)]; rfl) rfl⟩, ⟨_, rfl, .ptr rfl⟩, ⟨_, rfl, conv_nI (rfl)⟩, ⟨_, rfl, .ptr rfl⟩, trivial⟩ ⟨.inr ⟨_, _, rfl, rfl, .same rfl⟩, .inr ⟨_, _, rfl, rfl, convs_eq ((uC_lit (n := 0) (by decide)).symm) (rfl)⟩, trivial⟩ ⟨Nat.zero_le _, rfl⟩ ?_
    rintro i ⟨hi, hd⟩
    dsimp only at hi hd ⊢
    refine wpv_ok Γok (by kernel_rfl) _ _ _ ?_; conv => whnf
    refine bool_cases (fun hc => ?_) (fun hc => ?_)
    · have hc := of_decide_eq_true hc
      have hc : i < L.length := by omega
      have dn : digs B (i + 1) = (digs B i && decide (48 ≤ B.getD i 0 ∧ B.getD i 0 ≤ 57)) := rfl
      have vn : valB B (i + 1) = valB B i * 10 + (B.getD i 0 - 48) := rfl
      rw [hd, Bool.true_and] at dn
      conv => whnf
      try (refine ⟨by kernel_rfl, ?_⟩; conv => whnf)
      refine bindP_intro (if_pos (inB_ok (by omega) (by omega))) ?_; conv => whnf
      refine bindP_intro (bts_ix (i := i) (by dsimp only; omega) (by omega)) ?_
      refine gen_ex (B.getD i 0) fun c ec => ?_
      rw [← ec] at dn vn ⊢
      clear ec
      conv => whnf
      try (refine ⟨by kernel_rfl, ?_⟩; conv => whnf)
      have mf := mul_fn (a := valB B i % T256) (b := 10) (Nat.mod_lt _ (by decide)) (by decide)
      rw [show uV 10 = .agg (words [10, 0, 0, 0]) from congrArg VV.agg (uC_lit (n := 10) (by decide))] at mf
      rw [mulL_def, mulH_def] at mf
      by_cases c1 : c < 48
      · rw [decide_eq_true (show (c : Int) < 48 by omega)]
        conv => whnf
        try (refine ⟨by kernel_rfl, ?_⟩; conv => whnf)
        rw [show parV B = .tup [.agg (words [0, 0, 0, 0]), nI .i64 3] from parV_bad (i := i) (by omega) (by rw [dn]; exact decide_eq_false (by omega))]
        exact ⟨_, rfl, rfl⟩
      · rw [decide_eq_false (show ¬ (c : Int) < 48 by omega)]
        conv => whnf
        try (refine ⟨by kernel_rfl, ?_⟩; conv => whnf)
        by_cases c2 : 57 < c
        · rw [decide_eq_true (show (c : Int) > 57 by omega)]
          conv => whnf
          try (refine ⟨by kernel_rfl, ?_⟩; conv => whnf)
          rw [show parV B = .tup [.agg (words [0, 0, 0, 0]), nI .i64 3] from parV_bad (i := i) (by omega) (by rw [dn]; exact decide_eq_false (by omega))]
          exact ⟨_, rfl, rfl⟩
        · rw [decide_eq_false (show ¬ (c : Int) > 57 by omega)]
          obtain ⟨d, hd2⟩ : ∃ d, c = 48 + d := ⟨c - 48, by omega⟩
          have d10 : d < 10 := by omega
          rw [show c - 48 = d by omega] at vn
          rw [decide_eq_true (show 48 ≤ c ∧ c ≤ 57 by omega)] at dn
          obtain ⟨al, ao⟩ := stepP (valB B i) d
          rw [← vn] at al ao
          have lt0 : valB B i % T256 * 10 % T256 < T256 := Nat.mod_lt _ (by decide)
          have hl0 := hl_lt (valB B i)
          have ad := add_fn (a := valB B i % T256 * 10 % T256) (b := d) lt0 (Nat.lt_trans d10 (by decide))
          rw [show uV d = .agg (words [d, 0, 0, 0]) from congrArg VV.agg (uC_lit (n := d) (Nat.lt_trans d10 (by decide))), addS_def, addO_def, ← al] at ad
          refine gen_ex (valB B i % T256 * 10 % T256) fun lo elo => ?_
          rw [← elo] at mf ad ao
          refine gen_ex (valB B i % T256 * 10 / T256) fun hg ehg => ?_
          rw [← ehg] at mf ao hl0
          conv => whnf
          try (refine ⟨by kernel_rfl, ?_⟩; conv => whnf)
          refine ⟨_, ret_of_fn G0ok (mf) (by first | rfl | simp only [noHs, noH, nI, bI, Bool.and_self, Bool.and_true, Bool.true_and, words_noHs]) (by first | rfl | simp only [noHs, noH, nI, bI, Bool.and_self, Bool.and_true, Bool.true_and, words_noHs]), ?_⟩; (conv => whnf); (try (refine ⟨by kernel_rfl, ?_⟩; conv => whnf))
          rw [show wS .u8 ((c : Int) - 48) = (d : Int) from by rw [ws_u8]; omega, ws_u64n (x := (d : Int)) (by omega) (by omega)]
          conv => whnf
          try (refine ⟨by kernel_rfl, ?_⟩; conv => whnf)
          refine ⟨_, ret_of_fn G0ok (ad) (by first | rfl | simp only [noHs, noH, nI, bI, Bool.and_self, Bool.and_true, Bool.true_and, words_noHs]) (by first | rfl | simp only [noHs, noH, nI, bI, Bool.and_self, Bool.and_true, Bool.true_and, words_noHs]), ?_⟩; (conv => whnf); (try (refine ⟨by kernel_rfl, ?_⟩; conv => whnf))
          by_cases w0 : T256 ≤ valB B i
          · rw [decide_eq_true w0]
            rw [decide_eq_true w0, Bool.true_or] at ao
            conv => whnf
            try (refine ⟨by kernel_rfl, ?_⟩; conv => whnf)
            refine next_round (y := i) G0ok (i + 1) [(0, some 0), (1, some 1)] rfl ⟨⟨_, rfl, conv_nI (ws_i64 (by omega) (by omega))⟩, ⟨_, rfl, conv_nI (rfl)⟩, ⟨_, rfl, conv_eq rfl (nB')⟩, ⟨_, rfl, conv_eq (by rw [← ao]; rfl) rfl⟩, ⟨_, rfl, .ptr rfl⟩, ⟨_, rfl, conv_nI (rfl)⟩, ⟨_, rfl, .ptr rfl⟩, trivial⟩ ⟨.inr ⟨_, _, rfl, rfl, .same rfl⟩, .inr ⟨_, _, rfl, rfl, .same rfl⟩, trivial⟩ ⟨by omega, dn⟩ (by omega)
          · rw [decide_eq_false w0]
            rw [decide_eq_false w0, Bool.false_or] at ao
            by_cases ov : T256 ≤ lo + d
            · rw [decide_eq_true ov]
              rw [decide_eq_true ov, Bool.true_or] at ao
              conv => whnf
              try (refine ⟨by kernel_rfl, ?_⟩; conv => whnf)
              refine next_round (y := i) G0ok (i + 1) [(0, some 0), (1, some 1)] rfl ⟨⟨_, rfl, conv_nI (ws_i64 (by omega) (by omega))⟩, ⟨_, rfl, conv_nI (rfl)⟩, ⟨_, rfl, conv_eq rfl (nB')⟩, ⟨_, rfl, conv_eq (by rw [← ao]; rfl) rfl⟩, ⟨_, rfl, .ptr rfl⟩, ⟨_, rfl, conv_nI (rfl)⟩, ⟨_, rfl, .ptr rfl⟩, trivial⟩ ⟨.inr ⟨_, _, rfl, rfl, .same rfl⟩, .inr ⟨_, _, rfl, rfl, .same rfl⟩, trivial⟩ ⟨by omega, dn⟩ (by omega)
            · rw [decide_eq_false ov]
              rw [decide_eq_false ov, Bool.false_or] at ao
              conv => whnf
              try (refine ⟨by kernel_rfl, ?_⟩; conv => whnf)
              refine ⟨_, nez_uW hl0, ?_⟩
              rw [ao]
              conv => whnf
              try (refine ⟨by kernel_rfl, ?_⟩; conv => whnf)
              refine next_round (y := i) G0ok (i + 1) [(0, some 0), (1, some 1)] rfl ⟨⟨_, rfl, conv_nI (ws_i64 (by omega) (by omega))⟩, ⟨_, rfl, conv_nI (rfl)⟩, ⟨_, rfl, conv_eq rfl (nB')⟩, ⟨_, rfl, conv_eq (rfl) rfl⟩, ⟨_, rfl, .ptr rfl⟩, ⟨_, rfl, conv_nI (rfl)⟩, ⟨_, rfl, .ptr rfl⟩, trivial⟩ ⟨.inr ⟨_, _, rfl, rfl, .same rfl⟩, .inr ⟨_, _, rfl, rfl, .same rfl⟩, trivial⟩ ⟨by omega, dn⟩ (by omega)
    · have hc := of_decide_eq_false hc
      have e : i = L.length := by omega
      subst e
      unfold parV
      rw [if_neg (by rw [len, hd]; decide), len]
      by_cases w0 : T256 ≤ valB B L.length
      · rw [decide_eq_true w0, if_pos w0]
        conv => whnf
        try (refine ⟨by kernel_rfl, ?_⟩; conv => whnf)
        exact ⟨_, rfl, rfl⟩
      · rw [decide_eq_false w0, if_neg w0, Nat.mod_eq_of_lt (show valB B L.length < T256 by omega)]
        conv => whnf
        try (refine ⟨by kernel_rfl, ?_⟩; conv => whnf)
        exact ⟨_, rfl, rfl⟩
end Go.Proofs.Ytlecdiopokalgaa
namespace Go.Proofs.Ytlecdiopokalgaa
set_option linter.unusedVariables false
set_option linter.unusedSimpArgs false
set_option linter.unusedSectionVars false
open Go.ChangeShapes Go.WideShapes Go.ChangeAt Go.RowKit Go.Joins
/-- A number's bytes. -/
def showB (a : Nat) : List Nat := if a = 0 then [48] else (asc (dig a)).reverse
theorem digs_iff (B : List Nat) : ∀ i, i ≤ B.length → (digs B i = true ↔ ∀ x ∈ B.take i, 48 ≤ x ∧ x ≤ 57)
  | 0, _ => by simp [digs]
  | i + 1, h => by
    have hi : i < B.length := h
    rw [digs, Bool.and_eq_true, digs_iff B i (by omega), List.take_add_one, List.getElem?_eq_getElem hi, List.getD_eq_getElem?_getD, List.getElem?_eq_getElem hi]
    simp only [Option.getD_some, Option.toList_some, List.mem_append, List.mem_singleton, decide_eq_true_eq]
    constructor
    · rintro ⟨h1, h2⟩ x (hx | hx)
      · exact h1 x hx
      · subst hx; exact h2
    · intro h
      exact ⟨fun x hx => h x (.inl hx), h _ (.inr rfl)⟩
theorem valB_take (B : List Nat) : ∀ i, i ≤ B.length → valB B i = valL (((B.take i).map (· - 48)).reverse)
  | 0, _ => rfl
  | i + 1, h => by
    have hi : i < B.length := h
    rw [valB, valB_take B i (by omega), List.take_add_one, List.getElem?_eq_getElem hi, List.getD_eq_getElem?_getD, List.getElem?_eq_getElem hi]
    simp only [Option.getD_some, Option.toList_some, List.map_append, List.map_cons, List.map_nil, List.reverse_append, List.reverse_cons, List.reverse_nil, List.nil_append, List.cons_append]
    show _ = B[i] - 48 + 10 * valL _
    omega
theorem valB_all (B : List Nat) : valB B B.length = valL ((B.map (· - 48)).reverse) := by
  rw [valB_take B _ (Nat.le_refl _), List.take_length]
theorem asc_back (l : List Nat) : ((asc l).reverse.map (· - 48)).reverse = l := by
  rw [List.map_reverse, List.reverse_reverse, asc, List.map_map]
  have : ((· - 48) ∘ fun d : Nat => 48 + d) = id := by
    funext d
    show 48 + d - 48 = d
    omega
  rw [this, List.map_id]
theorem show_facts {a : Nat} (ha : a < T256) : 0 < (showB a).length ∧ (showB a).length ≤ 78 ∧ digs (showB a) (showB a).length = true ∧ valB (showB a) (showB a).length = a ∧ ((showB a).length = 1 ∨ (showB a).getD 0 0 ≠ 48) ∧ ∀ x ∈ showB a, x < 256 := by
  unfold showB
  by_cases h0 : a = 0
  · rw [if_pos h0]
    subst h0
    refine ⟨by decide, by decide, by decide, by decide, .inl rfl, by decide⟩
  · rw [if_neg h0]
    have dp := dig_pos ha (by omega)
    have dl := dig_len ha
    have ll : (asc (dig a)).reverse.length = (dig a).length := by rw [List.length_reverse, asc, List.length_map]
    have dd : ∀ x ∈ (asc (dig a)).reverse, 48 ≤ x ∧ x ≤ 57 := fun x hx => by
      obtain ⟨d, hd, rfl⟩ := List.mem_map.1 (List.mem_reverse.1 hx)
      have := dig_lt d hd
      omega
    refine ⟨by omega, by omega, ?_, ?_, .inr ?_, fun x hx => by have := dd x hx; omega⟩
    · exact (digs_iff _ _ (Nat.le_refl _)).2 (by rw [List.take_length]; exact dd)
    · rw [valB_all, asc_back, dig_val ha]
    · obtain ⟨m, d, em⟩ : ∃ m d, dig a = m ++ [d] := ⟨(dig a).dropLast, (dig a).getLast (by intro e; rw [e] at dp; exact absurd dp (by decide)), (List.dropLast_concat_getLast _).symm⟩
      have := digF_last 80 a m d (Nat.lt_trans ha (by decide)) em
      rw [em]
      show (asc (m ++ [d])).reverse.getD 0 0 ≠ 48
      unfold asc
      rw [List.map_append, List.reverse_append]
      show 48 + d ≠ 48
      omega
theorem show_read {B : List Nat} (h0 : 0 < B.length) (h78 : B.length ≤ 78) (hd : digs B B.length = true) (hf : B.length = 1 ∨ B.getD 0 0 ≠ 48) : showB (valB B B.length) = B := by
  have dd := (digs_iff B _ (Nat.le_refl _)).1 hd
  rw [List.take_length] at dd
  rw [valB_all]
  have D10 : ∀ d ∈ (B.map (· - 48)).reverse, d < 10 := fun d hx => by
    obtain ⟨x, hy, rfl⟩ := List.mem_map.1 (List.mem_reverse.1 hx)
    have := dd x hy
    omega
  have back : (asc (B.map (· - 48)).reverse).reverse = B := by
    rw [asc, ← List.map_reverse, List.reverse_reverse, List.map_map]
    refine (List.map_congr_left fun x hx => ?_).trans (List.map_id B)
    have := dd x hx
    show 48 + (x - 48) = x
    omega
  cases B with
  | nil => cases h0
  | cons b t =>
    by_cases hb : b = 48
    · subst hb
      have l1 : t = [] := by
        rcases hf with h | h
        · exact List.eq_nil_of_length_eq_zero (by simpa using h)
        · exact absurd rfl h
      subst l1
      decide
    · have bd := dd b List.mem_cons_self
      have er : ((b :: t).map (· - 48)).reverse = (t.map (· - 48)).reverse ++ [b - 48] := by rw [List.map_cons, List.reverse_cons]
      have last : ∀ m d, ((b :: t).map (· - 48)).reverse = m ++ [d] → d ≠ 0 := fun m d e => by
        rw [er] at e
        have := (List.append_inj' e rfl).2
        have : b - 48 = d := by simpa using this
        omega
      have dv : dig (valL ((b :: t).map (· - 48)).reverse) = ((b :: t).map (· - 48)).reverse := digF_valL _ 80 D10 last (by rw [List.length_reverse, List.length_map]; omega)
      have v0 : valL ((b :: t).map (· - 48)).reverse ≠ 0 := fun e => by
        rw [e, dig_zero, er] at dv
        have := congrArg List.length dv
        simp at this
      unfold showB
      rw [if_neg v0, dv]
      exact back
def u8L (B : List Nat) : List UInt8 := B.map fun n => n.toUInt8
theorem bl_u8L {B : List Nat} (h : ∀ x ∈ B, x < 256) : bl (u8L B) = B := by
  unfold bl u8L
  rw [List.map_map]
  refine (List.map_congr_left fun x hx => ?_).trans (List.map_id B)
  have := h x hx
  show x.toUInt8.toNat = x
  simp
  omega
theorem u8L_bl (L : List UInt8) : u8L (bl L) = L := by
  unfold bl u8L
  rw [List.map_map]
  refine (List.map_congr_left fun x _ => ?_).trans (List.map_id L)
  show x.toNat.toUInt8 = x
  simp
theorem show_txt {a : Nat} (ha : a < T256) : FnV Try.prog G0 41 [uV a] (strV (u8L (showB a))) := show_fn ha
end Go.Proofs.Ytlecdiopokalgaa
