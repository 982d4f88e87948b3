/- Bytes stand as numbers do. -/
import Derived.Test.YtmfgldfldejgcaaVBytesN
namespace Go.Proofs.Ytmfgldfldejgcaa
set_option linter.unusedVariables false
set_option linter.unusedSimpArgs false
set_option linter.unusedSectionVars false
open Go.ChangeShapes Go.WideShapes Go.ChangeAt Go.RowKit Go.Joins
def beV : List Nat → Nat
  | [] => 0
  | x :: l => x * 256 ^ l.length + beV l
theorem beV_snoc : ∀ (l : List Nat) (x : Nat), beV (l ++ [x]) = beV l * 256 + x
  | [], x => by simp [beV]
  | y :: l, x => by
    simp only [List.cons_append, beV, beV_snoc l x, List.length_append, List.length_cons, List.length_nil, Nat.zero_add, Nat.pow_succ]
    rw [Nat.add_mul, Nat.mul_assoc, Nat.add_assoc]
theorem beV_lt : ∀ (l : List Nat), (∀ x ∈ l, x < 256) → beV l < 256 ^ l.length
  | [], _ => by simp [beV]
  | x :: l, h => by
    have h1 := beV_lt l fun y hy => h y (by simp [hy])
    have h2 := h x (by simp)
    simp only [beV, List.length_cons, Nat.pow_succ]
    have : x * 256 ^ l.length ≤ 255 * 256 ^ l.length := Nat.mul_le_mul_right _ (by omega)
    generalize 256 ^ l.length = p at *
    omega
theorem fromV_beV (c : List Nat) (hc : c.length = 32) : ∀ i, i ≤ 32 → fromV c i = beV (c.take i) * 2 ^ (8 * (32 - i))
  | 0, _ => by simp [fromV, beV]
  | i + 1, h => by
    obtain ⟨k, hk⟩ : ∃ k, 31 - i = k := ⟨_, rfl⟩
    have e : c.take (i + 1) = c.take i ++ [c.getD i 0] := by
      rw [List.take_add_one, List.getElem?_eq_getElem (show i < c.length by omega)]
      simp [List.getD, List.getElem?_eq_getElem (show i < c.length by omega)]
    simp only [fromV]
    rw [fromV_beV c hc i (by omega), e, beV_snoc, hk, show 32 - i = k + 1 by omega, show 32 - (i + 1) = k by omega, show 8 * (k + 1) = 8 * k + 8 by omega, Nat.pow_add, Nat.add_mul, Nat.mul_assoc, Nat.mul_comm (2 ^ (8 * k)) (2 ^ 8)]
theorem fromV_all {c : List Nat} (hc : c.length = 32) : fromV c 32 = beV c := by
  rw [fromV_beV c hc 32 (Nat.le_refl _), List.take_of_length_le (by omega)]
  simp
def u8s (c : List Nat) : List UInt8 := c.map UInt8.ofNat
theorem u8_lt {x y : Nat} (hx : x < 256) (hy : y < 256) : (UInt8.ofNat x < UInt8.ofNat y) ↔ x < y := by
  rw [UInt8.lt_iff_toNat_lt, UInt8.toNat_ofNat', UInt8.toNat_ofNat', Nat.mod_eq_of_lt hx, Nat.mod_eq_of_lt hy]
theorem u8_eq {x y : Nat} (hx : x < 256) (hy : y < 256) : (UInt8.ofNat x = UInt8.ofNat y) ↔ x = y := by
  rw [← UInt8.toNat_inj, UInt8.toNat_ofNat', UInt8.toNat_ofNat', Nat.mod_eq_of_lt hx, Nat.mod_eq_of_lt hy]
theorem bytesLess_beV : ∀ (c d : List Nat), c.length = d.length → (∀ x ∈ c, x < 256) → (∀ x ∈ d, x < 256) → Op.bytesLess (u8s c) (u8s d) = decide (beV c < beV d)
  | [], [], _, _, _ => by simp [u8s, Op.bytesLess, beV]
  | [], _ :: _, h, _, _ => by simp at h
  | _ :: _, [], h, _, _ => by simp at h
  | x :: c, y :: d, h, hc, hd => by
    have hl : c.length = d.length := by simpa using h
    have ih := bytesLess_beV c d hl (fun z hz => hc z (by simp [hz])) (fun z hz => hd z (by simp [hz]))
    have hx := hc x (by simp)
    have hy := hd y (by simp)
    have h1 := beV_lt c (fun z hz => hc z (by simp [hz]))
    have h2 := beV_lt d (fun z hz => hd z (by simp [hz]))
    simp only [u8s, List.map_cons, Op.bytesLess]
    rw [show Op.bytesLess (List.map UInt8.ofNat c) (List.map UInt8.ofNat d) = _ from ih]
    rw [Bool.eq_iff_iff]
    rw [decide_eq_true_iff, show beV (x :: c) = x * 256 ^ c.length + beV c from rfl, show beV (y :: d) = y * 256 ^ d.length + beV d from rfl]
    simp only [Bool.or_eq_true, Bool.and_eq_true, decide_eq_true_iff, beq_iff_eq, u8_lt hx hy, u8_eq hx hy]
    rw [← hl] at h2 ⊢
    generalize 256 ^ c.length = p at *
    constructor
    · rintro (h | ⟨rfl, h⟩)
      · have : (x + 1) * p ≤ y * p := Nat.mul_le_mul_right _ h
        rw [Nat.add_mul] at this
        omega
      · omega
    · intro h
      by_cases e : x < y
      · exact .inl e
      · by_cases e2 : x = y
        · subst e2; exact .inr ⟨rfl, by omega⟩
        · have : (y + 1) * p ≤ x * p := Nat.mul_le_mul_right _ (by omega)
          rw [Nat.add_mul] at this
          omega
theorem u8s_byV {c : List Nat} (h : ∀ x ∈ c, x < 256) : bts c = (u8s c).map byV := by
  unfold bts u8s
  rw [List.map_map]
  refine List.map_congr_left fun x hx => ?_
  simp only [Function.comp, byV, nI]
  rw [UInt8.toNat_ofNat', Nat.mod_eq_of_lt (h x hx)]
theorem btsTo_lt (l : List Nat) (i : Nat) : ∀ x ∈ btsTo l i, x < 256 := by
  intro x hx
  obtain ⟨j, _, rfl⟩ := List.mem_map.1 hx
  split
  · exact Nat.mod_lt _ (by omega)
  · omega
theorem less_num {a b : Nat} (ha : a < T256) (hb : b < T256) : Op.bytesLess (u8s (btsTo (limL a) 32)) (u8s (btsTo (limL b) 32)) = decide (a < b) := by
  rw [bytesLess_beV _ _ (by rw [btsTo_length, btsTo_length]) (btsTo_lt _ _) (btsTo_lt _ _), ← fromV_all (btsTo_length _ _), ← fromV_all (btsTo_length _ _), from_bytes_all ha, from_bytes_all hb]
end Go.Proofs.Ytmfgldfldejgcaa
