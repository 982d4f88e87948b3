/- The contracts of wide.length and wide.bit: how many bits a number has, and what one of them is. -/
import Derived.Test.YtmfgldfldejgcaaRows
import Derived.Test.YtmfgldfldejgcaaNum
import Derived.Test.YtmfgldfldejgcaaMem
import Derived.Test.YtmfgldfldejgcaaShelf
import Derived.WalkKit
import Derived.WalkSpells
import Derived.WalkLawsBesides
namespace Go.Proofs.Ytmfgldfldejgcaa
set_option linter.unusedVariables false
set_option linter.unusedSimpArgs false
open Go.RowKit

theorem lt_bitLen : ∀ (n x : Nat), x ≤ n → x < 2 ^ 64 → x < 2 ^ Lib.bitLen x
  | 0, x, h, _ => by
    obtain rfl : x = 0 := by omega
    exact Nat.pow_pos (by decide)
  | n + 1, x, h, hx => by
    by_cases h0 : x = 0
    · subst h0; exact Nat.pow_pos (by decide)
    · rw [Lib.bitLen_half x h0 hx, Nat.pow_add]
      have := lt_bitLen n (x / 2) (by omega) (by omega)
      omega

theorem bitN_ex : ∃ f : Nat → Nat → Nat, ∀ a i, f a i = a / 2 ^ i % 2 := ⟨_, fun _ _ => rfl⟩
noncomputable def bitN : Nat → Nat → Nat := Classical.choose bitN_ex
theorem bitN_def (a i : Nat) : bitN a i = a / 2 ^ i % 2 := Classical.choose_spec bitN_ex a i
theorem bit_limb {a0 a1 a2 a3 : Nat} (k0 : a0 < B64) (k1 : a1 < B64) (k2 : a2 < B64) (k3 : a3 < B64) {s : Nat} (hs : s < 64) :
    bitN (val4 a0 a1 a2 a3) (64 * 0 + s) = a0 / 2 ^ s % 2 ∧ bitN (val4 a0 a1 a2 a3) (64 * 1 + s) = a1 / 2 ^ s % 2 ∧
    bitN (val4 a0 a1 a2 a3) (64 * 2 + s) = a2 / 2 ^ s % 2 ∧ bitN (val4 a0 a1 a2 a3) (64 * 3 + s) = a3 / 2 ^ s % 2 := by
  have hp : B64 = 2 ^ s * (2 * 2 ^ (63 - s)) := by
    rw [B64_eq, ← Nat.pow_succ', ← Nat.pow_add]; congr 1; omega
  have key : ∀ x y : Nat, (x + B64 * y) / 2 ^ s % 2 = x / 2 ^ s % 2 := by
    intro x y
    rw [hp, Nat.mul_assoc, Nat.add_mul_div_left _ _ (Nat.pow_pos (by decide)), Nat.mul_assoc, Nat.add_mul_mod_self_left]
  obtain ⟨l0, l1, l2, l3⟩ := lim_val4 k0 k1 k2 k3
  have hv : val4 a0 a1 a2 a3 = a0 + B64 * (a1 + B64 * (a2 + B64 * a3)) := by unfold val4; simp only [Nat.mul_add, Nat.mul_assoc]; omega
  have d1 : val4 a0 a1 a2 a3 / B64 = a1 + B64 * (a2 + B64 * a3) := by
    rw [hv, Nat.add_mul_div_left _ _ (by decide), Nat.div_eq_of_lt k0, Nat.zero_add]
  have d2 : val4 a0 a1 a2 a3 / B64 / B64 = a2 + B64 * a3 := by
    rw [d1, Nat.add_mul_div_left _ _ (by decide), Nat.div_eq_of_lt k1, Nat.zero_add]
  have d3 : val4 a0 a1 a2 a3 / B64 / B64 / B64 = a3 := by
    rw [d2, Nat.add_mul_div_left _ _ (by decide), Nat.div_eq_of_lt k2, Nat.zero_add]
  simp only [bitN_def]
  refine ⟨?_, ?_, ?_, ?_⟩
  · rw [Nat.mul_zero, Nat.zero_add, hv, key]
  · rw [Nat.pow_add, ← Nat.div_div_eq_div_mul, show 2 ^ (64 * 1) = B64 by decide, d1, key]
  · rw [Nat.pow_add, ← Nat.div_div_eq_div_mul, show 2 ^ (64 * 2) = B64 * B64 by decide, ← Nat.div_div_eq_div_mul, d2, key]
  · rw [Nat.pow_add, ← Nat.div_div_eq_div_mul, show 2 ^ (64 * 3) = B64 * B64 * B64 by decide, ← Nat.div_div_eq_div_mul, ← Nat.div_div_eq_div_mul, d3]

theorem and_one {x s : Nat} (hx : x < B64) : bits BinOp.and IntKind.u64 ((x : Int) / 2 ^ s) 1 = ((x / 2 ^ s % 2 : Nat) : Int) := by
  have e : ((x : Int) / 2 ^ s) = ((x / 2 ^ s : Nat) : Int) := by simp
  rw [e, and_one_u64]
  · omega
  · exact Int.natCast_nonneg _
  · have := Nat.div_le_self x (2 ^ s)
    unfold B64 at hx
    omega

set_option maxHeartbeats 1000000 in
theorem bit_walk (a0 a1 a2 a3 : Nat) (k0 : a0 < B64) (k1 : a1 < B64) (k2 : a2 < B64) (k3 : a3 < B64) (i d s : Nat) (hi : i = 64 * d + s) (hs : s < 64) (hd : d < 4) (w : World) :
    Calls Try.prog 35 #[.agg #[.int .u64 a0, .int .u64 a1, .int .u64 a2, .int .u64 a3], .int .i64 i] w
      fun e w' => e = .returned (.int .u64 (bitN (val4 a0 a1 a2 a3) i)) ∧ Below w.heap.size w w' := by
  obtain ⟨b0, b1, b2, b3⟩ := bit_limb k0 k1 k2 k3 hs
  have q1 : (i : Int) / 64 = d := by omega
  have q2 : (i : Int) % 64 = s := by omega
  have q3 : (i : Int) ≤ 255 := by omega
  have hs2 : (s : Int) ≤ 64 := by omega
  have M := Mem.begin w
  have hd' : d = 0 ∨ d = 1 ∨ d = 2 ∨ d = 3 := by omega
  have B := Lib.hid (And.intro hi (And.intro b0 (And.intro b1 (And.intro b2 b3))))
  clear b0 b1 b2 b3 hi
  rcases hd' with rfl | rfl | rfl | rfl
  · clear hd hs
    go_enter Try.func35, Try.ntmps35
    go_wp2
    have e : bitN (val4 a0 a1 a2 a3) i = a0 / 2 ^ s % 2 := by
      have h := B.out.2.1
      rw [B.out.1]; exact h
    rw [and_one k0, e]
    go_ret
    exact ⟨rfl, by exact Mem.below (L := _) (by (repeat (first | with_reducible exact M | with_reducible apply Mem.drew | with_reducible apply Mem.alloc | with_reducible apply Mem.allocAny)))⟩
  · clear hd hs
    go_enter Try.func35, Try.ntmps35
    go_wp2
    have e : bitN (val4 a0 a1 a2 a3) i = a1 / 2 ^ s % 2 := by
      have h := B.out.2.2.1
      rw [B.out.1]; exact h
    rw [and_one k1, e]
    go_ret
    exact ⟨rfl, by exact Mem.below (L := _) (by (repeat (first | with_reducible exact M | with_reducible apply Mem.drew | with_reducible apply Mem.alloc | with_reducible apply Mem.allocAny)))⟩
  · clear hd hs
    go_enter Try.func35, Try.ntmps35
    go_wp2
    have e : bitN (val4 a0 a1 a2 a3) i = a2 / 2 ^ s % 2 := by
      have h := B.out.2.2.2.1
      rw [B.out.1]; exact h
    rw [and_one k2, e]
    go_ret
    exact ⟨rfl, by exact Mem.below (L := _) (by (repeat (first | with_reducible exact M | with_reducible apply Mem.drew | with_reducible apply Mem.alloc | with_reducible apply Mem.allocAny)))⟩
  · clear hd hs
    go_enter Try.func35, Try.ntmps35
    go_wp2
    have e : bitN (val4 a0 a1 a2 a3) i = a3 / 2 ^ s % 2 := by
      have h := B.out.2.2.2.2
      rw [B.out.1]; exact h
    rw [and_one k3, e]
    go_ret
    exact ⟨rfl, by exact Mem.below (L := _) (by (repeat (first | with_reducible exact M | with_reducible apply Mem.drew | with_reducible apply Mem.alloc | with_reducible apply Mem.allocAny)))⟩
theorem bit_calls {a i : Nat} (ha : a < T256) (hi : i < 256) (w : World) :
    Calls Try.prog 35 #[u256 a, .int .i64 i] w fun e w' => e = .returned (.int .u64 (bitN a i)) ∧ Below w.heap.size w w' := by
  obtain ⟨a0, a1, a2, a3, k0, k1, k2, k3, rfl⟩ := limbs ha
  rw [u256_val4 k0 k1 k2 k3]
  exact bit_walk a0 a1 a2 a3 k0 k1 k2 k3 i (i / 64) (i % 64) (by omega) (by omega) (by omega) w

/-- How a number grows by its limbs. -/
def upto (a0 a1 a2 a3 k : Nat) : Nat := if k = 0 then 0 else if k = 1 then a0 else if k = 2 then a0 + B64 * a1 else if k = 3 then a0 + B64 * a1 + B64 * B64 * a2 else val4 a0 a1 a2 a3
theorem upto_step {a0 a1 a2 a3 k x v : Nat} (k0 : a0 < B64) (k1 : a1 < B64) (k2 : a2 < B64) (hk : k < 4) (hx : x < B64) (hxk : x = if k = 0 then a0 else if k = 1 then a1 else if k = 2 then a2 else a3)
    (hv : upto a0 a1 a2 a3 k < 2 ^ v) (hx0 : x ≠ 0) : upto a0 a1 a2 a3 (k + 1) < 2 ^ (64 * k + Lib.bitLen x) := by
  have h1 := lt_bitLen x x (Nat.le_refl _) (by rw [B64_eq] at hx; exact hx)
  have hs : upto a0 a1 a2 a3 (k + 1) < 2 ^ (64 * k) * (x + 1) := by
    have : k = 0 ∨ k = 1 ∨ k = 2 ∨ k = 3 := by omega
    rcases this with rfl | rfl | rfl | rfl <;> (simp [upto] at *; subst hxk; (try simp only [val4] at *); (try simp only [B64] at *); omega)
  rw [Nat.pow_add]
  exact Nat.lt_of_lt_of_le hs (Nat.mul_le_mul_left _ h1)
theorem upto_zero {a0 a1 a2 a3 k v : Nat} (hk : k < 4) (hxk : 0 = if k = 0 then a0 else if k = 1 then a1 else if k = 2 then a2 else a3) (hv : upto a0 a1 a2 a3 k < 2 ^ v) : upto a0 a1 a2 a3 (k + 1) < 2 ^ v := by
  have : k = 0 ∨ k = 1 ∨ k = 2 ∨ k = 3 := by omega
  rcases this with rfl | rfl | rfl | rfl <;> (simp [upto, val4] at *; subst hxk; simpa using hv)

def LenOf (a : Nat) (w : World) (e : Ending) (w' : World) : Prop := ∃ n : Nat, a < 2 ^ n ∧ n ≤ 256 ∧ e = .returned (.int .i64 n) ∧ Below w.heap.size w w'
set_option maxHeartbeats 1000000 in
theorem length_walk (a0 a1 a2 a3 : Nat) (k0 : a0 < B64) (k1 : a1 < B64) (k2 : a2 < B64) (k3 : a3 < B64) (w : World) :
    Calls Try.prog 34 #[.agg #[.int .u64 a0, .int .u64 a1, .int .u64 a2, .int .u64 a3]] w (LenOf (val4 a0 a1 a2 a3) w) := by
  have M := Mem.begin w
  go_enter Try.func34, Try.ntmps34
  go_wp2
  go_loop [3, 7] (fun n i => ∃ k v : Nat, k ≤ 4 ∧ v ≤ 64 * k ∧ n = .int .i64 v ∧ i = .int .i64 k ∧ upto a0 a1 a2 a3 k < 2 ^ v) (fun _ i => 4 - (intOf i).toNat)
  case atStart => exact ⟨0, 0, by omega, by omega, rfl, rfl, by simp [upto]⟩
  case round =>
    obtain ⟨k, v, hk, hv, rfl, rfl, hu⟩ := hrel
    by_cases hlt : k < 4
    · obtain ⟨x, hx, hxk, hix⟩ : ∃ x, x < B64 ∧ (x = if k = 0 then a0 else if k = 1 then a1 else if k = 2 then a2 else a3) ∧ ∀ w, (Instr.index 32 (.agg #[.int .u64 a0, .int .u64 a1, .int .u64 a2, .int .u64 a3]) (.int .i64 k)).run Try.prog w = .ok (.int .u64 x) w := by
        have : k = 0 ∨ k = 1 ∨ k = 2 ∨ k = 3 := by omega
        rcases this with rfl | rfl | rfl | rfl
        · exact ⟨a0, k0, rfl, fun _ => by kernel_rfl⟩
        · exact ⟨a1, k1, rfl, fun _ => by kernel_rfl⟩
        · exact ⟨a2, k2, rfl, fun _ => by kernel_rfl⟩
        · exact ⟨a3, k3, rfl, fun _ => by kernel_rfl⟩
      have HX := Lib.hid (And.intro hxk hu)
      clear hxk hu
      have hb := Lib.bitLen_le x 64 (by omega) (by rw [B64_eq] at hx; exact hx)
      have HL := Lib.hid (fun w => Try.bits_Len64 (x : Int) w (by omega) (by unfold B64 at hx; omega))
      rw [Int.toNat_natCast] at HL
      by_cases h0 : x = 0
      · subst h0
        go_wp2
        go_round
        case rel => exact ⟨k + 1, v, by omega, by omega, rfl, by go_num, upto_zero hlt HX.out.1 HX.out.2⟩
        case measure => simp [intOf]; omega
      · have hn : ((x : Int) != 0) = true := by simp; omega
        generalize hg : Lib.bitLen x = L at *
        have HG := Lib.hid hg
        clear hg
        go_wp2_with (go_at_call 37; (refine (HL.out _).mono ?_); rintro e w' ⟨rfl, rfl⟩)
        go_round
        case rel => exact ⟨k + 1, 64 * k + L, by omega, by omega, by go_num, by go_num, by have := upto_step k0 k1 k2 hlt hx HX.out.1 HX.out.2 h0; rw [HG.out] at this; exact this⟩
        case measure => simp [intOf]; omega
    · obtain rfl : k = 4 := by omega
      have HX := Lib.hid hu
      clear hu
      go_wp2
      go_ret
      exact ⟨v, by simpa [upto] using HX.out, by omega, rfl, by exact Mem.below (L := _) (by (repeat (first | with_reducible exact M | with_reducible apply Mem.drew | with_reducible apply Mem.alloc | with_reducible apply Mem.allocAny)))⟩
theorem length_calls {a : Nat} (ha : a < T256) (w : World) : Calls Try.prog 34 #[u256 a] w (LenOf a w) := by
  obtain ⟨a0, a1, a2, a3, k0, k1, k2, k3, rfl⟩ := limbs ha
  rw [u256_val4 k0 k1 k2 k3]
  exact length_walk a0 a1 a2 a3 k0 k1 k2 k3 w
end Go.Proofs.Ytmfgldfldejgcaa
