/- wide.bit and wide.length by the engine. -/
import Derived.Test.YtidkdlaihmpjfaaDoorVWide
import Derived.Test.YtidkdlaihmpjfaaDoorShelf
import Derived.Test.YtidkdlaihmpjfaaDoorVCmp
import Derived.Laws.BitsAllLaws
namespace Go.Proofs.YtidkdlaihmpjfaaDoor
set_option linter.unusedVariables false
set_option linter.unusedSimpArgs false
set_option linter.unusedSectionVars false
open Go.ChangeShapes Go.WideShapes Go.ChangeAt Go.RowKit Go.Joins
set_option maxRecDepth 10000
theorem lt_bitLen : ∀ (n x : Nat), x ≤ n → x < 2 ^ 64 → x < 2 ^ Lib.bitLen x
  | 0, x, h, _ => by
    obtain rfl : x = 0 := by omega
    exact Nat.pow_pos (by decide)
  | n + 1, x, h, hx => by
    by_cases h0 : x = 0
    · subst h0; exact Nat.pow_pos (by decide)
    · rw [Lib.bitLen_half x h0 hx, Nat.pow_add]
      have := lt_bitLen n (x / 2) (by omega) (by omega)
      omega

theorem bitN_ex : ∃ f : Nat → Nat → Nat, ∀ a i, f a i = a / 2 ^ i % 2 := ⟨_, fun _ _ => rfl⟩
noncomputable def bitN : Nat → Nat → Nat := Classical.choose bitN_ex
theorem bitN_def (a i : Nat) : bitN a i = a / 2 ^ i % 2 := Classical.choose_spec bitN_ex a i
theorem bit_limb {a0 a1 a2 a3 : Nat} (k0 : a0 < B64) (k1 : a1 < B64) (k2 : a2 < B64) (k3 : a3 < B64) {s : Nat} (hs : s < 64) :
    bitN (val4 a0 a1 a2 a3) (64 * 0 + s) = a0 / 2 ^ s % 2 ∧ bitN (val4 a0 a1 a2 a3) (64 * 1 + s) = a1 / 2 ^ s % 2 ∧
    bitN (val4 a0 a1 a2 a3) (64 * 2 + s) = a2 / 2 ^ s % 2 ∧ bitN (val4 a0 a1 a2 a3) (64 * 3 + s) = a3 / 2 ^ s % 2 := by
  have hp : B64 = 2 ^ s * (2 * 2 ^ (63 - s)) := by
    rw [B64_eq, ← Nat.pow_succ', ← Nat.pow_add]; congr 1; omega
  have key : ∀ x y : Nat, (x + B64 * y) / 2 ^ s % 2 = x / 2 ^ s % 2 := by
    intro x y
    rw [hp, Nat.mul_assoc, Nat.add_mul_div_left _ _ (Nat.pow_pos (by decide)), Nat.mul_assoc, Nat.add_mul_mod_self_left]
  obtain ⟨l0, l1, l2, l3⟩ := lim_val4 k0 k1 k2 k3
  have hv : val4 a0 a1 a2 a3 = a0 + B64 * (a1 + B64 * (a2 + B64 * a3)) := by unfold val4; simp only [Nat.mul_add, Nat.mul_assoc]; omega
  have d1 : val4 a0 a1 a2 a3 / B64 = a1 + B64 * (a2 + B64 * a3) := by
    rw [hv, Nat.add_mul_div_left _ _ (by decide), Nat.div_eq_of_lt k0, Nat.zero_add]
  have d2 : val4 a0 a1 a2 a3 / B64 / B64 = a2 + B64 * a3 := by
    rw [d1, Nat.add_mul_div_left _ _ (by decide), Nat.div_eq_of_lt k1, Nat.zero_add]
  have d3 : val4 a0 a1 a2 a3 / B64 / B64 / B64 = a3 := by
    rw [d2, Nat.add_mul_div_left _ _ (by decide), Nat.div_eq_of_lt k2, Nat.zero_add]
  simp only [bitN_def]
  refine ⟨?_, ?_, ?_, ?_⟩
  · rw [Nat.mul_zero, Nat.zero_add, hv, key]
  · rw [Nat.pow_add, ← Nat.div_div_eq_div_mul, show 2 ^ (64 * 1) = B64 by decide, d1, key]
  · rw [Nat.pow_add, ← Nat.div_div_eq_div_mul, show 2 ^ (64 * 2) = B64 * B64 by decide, ← Nat.div_div_eq_div_mul, d2, key]
  · rw [Nat.pow_add, ← Nat.div_div_eq_div_mul, show 2 ^ (64 * 3) = B64 * B64 * B64 by decide, ← Nat.div_div_eq_div_mul, ← Nat.div_div_eq_div_mul, d3]

/-- How a number grows by its limbs. -/
def upto (a0 a1 a2 a3 k : Nat) : Nat := if k = 0 then 0 else if k = 1 then a0 else if k = 2 then a0 + B64 * a1 else if k = 3 then a0 + B64 * a1 + B64 * B64 * a2 else val4 a0 a1 a2 a3
theorem upto_step {a0 a1 a2 a3 k x v : Nat} (k0 : a0 < B64) (k1 : a1 < B64) (k2 : a2 < B64) (hk : k < 4) (hx : x < B64) (hxk : x = if k = 0 then a0 else if k = 1 then a1 else if k = 2 then a2 else a3)
    (hv : upto a0 a1 a2 a3 k < 2 ^ v) (hx0 : x ≠ 0) : upto a0 a1 a2 a3 (k + 1) < 2 ^ (64 * k + Lib.bitLen x) := by
  have h1 := lt_bitLen x x (Nat.le_refl _) (by rw [B64_eq] at hx; exact hx)
  have hs : upto a0 a1 a2 a3 (k + 1) < 2 ^ (64 * k) * (x + 1) := by
    have : k = 0 ∨ k = 1 ∨ k = 2 ∨ k = 3 := by omega
    rcases this with rfl | rfl | rfl | rfl <;> (simp [upto] at *; subst hxk; (try simp only [val4] at *); (try simp only [B64] at *); omega)
  rw [Nat.pow_add]
  exact Nat.lt_of_lt_of_le hs (Nat.mul_le_mul_left _ h1)
theorem upto_zero {a0 a1 a2 a3 k v : Nat} (hk : k < 4) (hxk : 0 = if k = 0 then a0 else if k = 1 then a1 else if k = 2 then a2 else a3) (hv : upto a0 a1 a2 a3 k < 2 ^ v) : upto a0 a1 a2 a3 (k + 1) < 2 ^ v := by
  have : k = 0 ∨ k = 1 ∨ k = 2 ∨ k = 3 := by omega
  rcases this with rfl | rfl | rfl | rfl <;> (simp [upto, val4] at *; subst hxk; simpa using hv)

/-- The limb of a number. -/
def limD (l : List Nat) (i : Nat) : Nat := l.getD i 0
theorem bit_fn4 (a0 a1 a2 a3 : Nat) (k0 : a0 < B64) (k1 : a1 < B64) (k2 : a2 < B64) (k3 : a3 < B64) (i : Nat) (hi : i < 256) :
    FnV Tryd.prog G0 59 [.agg (words [a0, a1, a2, a3]), nI .i64 i] (nI .u64 (bitN (val4 a0 a1 a2 a3) i)) := by
  have hb : bitN (val4 a0 a1 a2 a3) i = [a0, a1, a2, a3].getD (i / 64) 0 / 2 ^ (i % 64) % 2 := by
    obtain ⟨b0, b1, b2, b3⟩ := bit_limb k0 k1 k2 k3 (s := i % 64) (by omega)
    have : i / 64 = 0 ∨ i / 64 = 1 ∨ i / 64 = 2 ∨ i / 64 = 3 := by omega
    rcases this with h | h | h | h
    · rw [show i = 64 * 0 + i % 64 by omega, b0, show (64 * 0 + i % 64) / 64 = 0 by omega, show (64 * 0 + i % 64) % 64 = i % 64 by omega]; rfl
    · rw [show i = 64 * 1 + i % 64 by omega, b1, show (64 * 1 + i % 64) / 64 = 1 by omega, show (64 * 1 + i % 64) % 64 = i % 64 by omega]; rfl
    · rw [show i = 64 * 2 + i % 64 by omega, b2, show (64 * 2 + i % 64) / 64 = 2 by omega, show (64 * 2 + i % 64) % 64 = i % 64 by omega]; rfl
    · rw [show i = 64 * 3 + i % 64 by omega, b3, show (64 * 3 + i % 64) / 64 = 3 by omega, show (64 * 3 + i % 64) % 64 = i % 64 by omega]; rfl
  have hx : [a0, a1, a2, a3].getD (i / 64) 0 < 2 ^ 64 := getD_lt (by decide) (by rw [← B64_eq]; intro x hx; simp at hx; rcases hx with rfl | rfl | rfl | rfl <;> assumption) _
  have hx2 : [a0, a1, a2, a3].getD (i / 64) 0 / 2 ^ (i % 64) < 2 ^ 64 := Nat.lt_of_le_of_lt (Nat.div_le_self _ _) hx
  rw [hb]
  refine fn_of_vwp Γok Tryd.func59 (by kernel_rfl) rfl (by simp [Tryd.ntmps59]) (wpv_ok Γok (by kernel_rfl) _ _ _ ?_); conv => whnf
  rw [Int.tdiv_eq_ediv_of_nonneg (by omega), ws_i64 (by omega) (by omega)]
  conv => whnf
  try (refine ⟨by kernel_rfl, ?_⟩; conv => whnf)
  refine bindP_intro (if_pos (inB_ok (by omega) (by omega))) ?_; conv => whnf
  refine bindP_intro (words_ix (i := i / 64) (by dsimp only; omega) (by simp; omega)) ?_
  conv => whnf
  try (refine ⟨by kernel_rfl, ?_⟩; conv => whnf)
  rw [Int.tmod_eq_emod_of_nonneg (by omega), show (i : Int) % 64 = ((i % 64 : Nat) : Int) from by omega]
  conv => whnf
  try (refine ⟨by kernel_rfl, ?_⟩; conv => whnf)
  rw [shr_val (k := .u64) (x := [a0, a1, a2, a3].getD (i / 64) 0) (n := i % 64) (by simp only [IntKind.bits]; omega), u64_and1 hx2]
  exact ⟨_, rfl, rfl⟩
theorem bit_fn {a i : Nat} (ha : a < T256) (hi : i < 256) : FnV Tryd.prog G0 59 [uV a, nI .i64 i] (nI .u64 (bitN a i)) := by
  obtain ⟨a0, a1, a2, a3, k0, k1, k2, k3, rfl⟩ := limbs ha
  rw [uV_val4 k0 k1 k2 k3]
  exact bit_fn4 a0 a1 a2 a3 k0 k1 k2 k3 i hi
def lenV (l : List Nat) : Nat → Nat
  | 0 => 0
  | k + 1 => if l.getD k 0 = 0 then lenV l k else 64 * k + Lib.bitLen (l.getD k 0)
theorem lenV_ok {a0 a1 a2 a3 : Nat} (k0 : a0 < B64) (k1 : a1 < B64) (k2 : a2 < B64) (k3 : a3 < B64) : ∀ k, k ≤ 4 → upto a0 a1 a2 a3 k < 2 ^ lenV [a0, a1, a2, a3] k ∧ lenV [a0, a1, a2, a3] k ≤ 64 * k
  | 0, _ => by simp [upto, lenV]
  | k + 1, hk => by
    obtain ⟨h1, h2⟩ := lenV_ok k0 k1 k2 k3 k (by omega)
    have hx : [a0, a1, a2, a3].getD k 0 = if k = 0 then a0 else if k = 1 then a1 else if k = 2 then a2 else a3 := by
      have : k = 0 ∨ k = 1 ∨ k = 2 ∨ k = 3 := by omega
      rcases this with rfl | rfl | rfl | rfl <;> rfl
    have hb : [a0, a1, a2, a3].getD k 0 < B64 := by
      rw [hx]; split <;> (try assumption); split <;> (try assumption); split <;> assumption
    simp only [lenV]
    split
    · rename_i h0
      exact ⟨upto_zero (by omega) (by rw [← hx, h0]) h1, by omega⟩
    · rename_i h0
      have hl := Lib.bitLen_le ([a0, a1, a2, a3].getD k 0) 64 (by omega) (by rw [B64_eq] at hb; exact hb)
      exact ⟨upto_step k0 k1 k2 (by omega) hb hx h1 h0, by omega⟩
theorem len64_fn {x : Nat} (hx : x < B64) : FnV Tryd.prog G0 80 [nI .u64 x] (nI .i64 (Lib.bitLen x)) :=
  fn_calls (us := [.int .u64 x]) (r := .int .i64 (Lib.bitLen x)) Tryd.func80 (by kernel_rfl) rfl (fun w => (Tryd.bits_Len64 (x : Int) w (by omega) (by unfold B64 at hx; omega)).mono (by rintro e w' ⟨rfl, rfl⟩; exact ⟨by simp, rfl⟩)) (fun E => by simp [VR, nI])
theorem length_fn4 (a0 a1 a2 a3 : Nat) (k0 : a0 < B64) (k1 : a1 < B64) (k2 : a2 < B64) (k3 : a3 < B64) : FnV Tryd.prog G0 57 [.agg (words [a0, a1, a2, a3])] (nI .i64 (lenV [a0, a1, a2, a3] 4)) := by
  have hb : ∀ x ∈ [a0, a1, a2, a3], x < B64 := by intro x hx; simp at hx; rcases hx with rfl | rfl | rfl | rfl <;> assumption
  have hl : [a0, a1, a2, a3].length = 4 := rfl
  have hle := fun k hk => (lenV_ok k0 k1 k2 k3 k hk).2
  refine gen_ex [a0, a1, a2, a3] fun l el => ?_
  rw [← el] at hb hl hle ⊢
  clear el
  refine fn_of_vwp Γok Tryd.func57 (by kernel_rfl) rfl (by simp [Tryd.ntmps57]) (wpv_ok Γok (by kernel_rfl) _ _ _ ?_); conv => whnf
  refine bindP_intro (load_agg rfl rfl (by simp [words_length, *])) ?_; conv => whnf
  refine vloop_invK G0ok [] 0 (X := Nat) (fun k => [(7, nI .i64 k), (6, .agg (words l)), (3, nI .i64 (lenV l k))]) (fun _ => []) (fun k => k ≤ 4) (fun k => 4 - k) 0 rfl ⟨⟨_, rfl, conv_nI (rfl)⟩, ⟨_, rfl, conv_eq rfl (words_noHs _)⟩, ⟨_, rfl, conv_nI (rfl)⟩, trivial⟩ trivial (Nat.zero_le _) ?_
  intro k hk
  dsimp only at hk ⊢
  refine wpv_ok Γok (by kernel_rfl) _ _ _ ?_; conv => whnf
  refine bool_cases (fun hc => ?_) (fun hc => ?_)
  · have hc := of_decide_eq_true hc
    have hk4 : k < 4 := by omega
    have hx : l.getD k 0 < B64 := getD_lt (by decide) hb k
    have hv := hle k hk
    have hv2 := hle (k + 1) (by omega)
    conv => whnf
    refine bindP_intro ((if_pos (inB_ok (by omega) (by omega))).trans (words_ix (i := k) (by dsimp only; omega) (by omega))) ?_
    conv => whnf
    try (refine ⟨by kernel_rfl, ?_⟩; conv => whnf)
    rw [show (((l.getD k 0 : Nat) : Int) != (0 : Int)) = !decide (l.getD k 0 = 0) from bne_lit _ 0]
    by_cases h0 : l.getD k 0 = 0
    · rw [decide_eq_true h0]
      conv => whnf
      try (refine ⟨by kernel_rfl, ?_⟩; conv => whnf)
      refine next_round (y := k) G0ok (k + 1) [] rfl ⟨⟨_, rfl, conv_nI (ws_i64 (by omega) (by omega))⟩, ⟨_, rfl, conv_eq rfl (words_noHs _)⟩, ⟨_, rfl, conv_nI (by simp only [lenV, if_pos h0])⟩, trivial⟩ trivial hk4 (by omega)
    · rw [decide_eq_false h0]
      conv => whnf
      try (refine ⟨by kernel_rfl, ?_⟩; conv => whnf)
      have hL : lenV l (k + 1) = 64 * k + Lib.bitLen (l.getD k 0) := by simp only [lenV, if_neg h0]
      rw [hL] at hv2
      refine gen_ex (Lib.bitLen (l.getD k 0)) fun L eL => ?_
      have hlen := len64_fn hx
      rw [← eL] at hlen hL hv2
      rw [ws_i64 (x := 64 * (k : Int)) (by omega) (by omega)]
      refine ⟨_, ret_of_fn G0ok (hlen) (by first | rfl | simp only [noHs, noH, nI, bI, Bool.and_self, Bool.and_true, Bool.true_and, ]) (by first | rfl | simp only [noHs, noH, nI, bI, Bool.and_self, Bool.and_true, Bool.true_and, ]), ?_⟩; (conv => whnf); (try (refine ⟨by kernel_rfl, ?_⟩; conv => whnf))
      refine next_round (y := k) G0ok (k + 1) [] rfl ⟨⟨_, rfl, conv_nI (ws_i64 (by omega) (by omega))⟩, ⟨_, rfl, conv_eq rfl (words_noHs _)⟩, ⟨_, rfl, conv_nI (by rw [hL, ws_i64 (by omega) (by omega)]; omega)⟩, trivial⟩ trivial hk4 (by omega)
  · have hc := of_decide_eq_false hc
    have : k = 4 := by omega
    subst this
    conv => whnf
    try (refine ⟨by kernel_rfl, ?_⟩; conv => whnf)
    exact ⟨_, rfl, rfl⟩
theorem length_ex {a : Nat} (ha : a < T256) : ∃ n : Nat, a < 2 ^ n ∧ n ≤ 256 ∧ FnV Tryd.prog G0 57 [uV a] (nI .i64 n) := by
  obtain ⟨a0, a1, a2, a3, k0, k1, k2, k3, rfl⟩ := limbs ha
  rw [uV_val4 k0 k1 k2 k3]
  obtain ⟨h1, h2⟩ := lenV_ok k0 k1 k2 k3 4 (Nat.le_refl _)
  exact ⟨_, by simpa [upto] using h1, h2, length_fn4 a0 a1 a2 a3 k0 k1 k2 k3⟩
end Go.Proofs.YtidkdlaihmpjfaaDoor
