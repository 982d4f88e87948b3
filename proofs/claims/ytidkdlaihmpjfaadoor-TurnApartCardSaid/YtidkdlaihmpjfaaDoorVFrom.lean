/- wide.From by the engine. -/
import Derived.Test.YtidkdlaihmpjfaaDoorVBytes
import Derived.Test.YtidkdlaihmpjfaaDoorVPut
namespace Go.Proofs.YtidkdlaihmpjfaaDoor
set_option linter.unusedVariables false
set_option linter.unusedSimpArgs false
set_option linter.unusedSectionVars false
open Go.ChangeShapes Go.WideShapes Go.ChangeAt Go.RowKit Go.Joins
set_option maxRecDepth 10000
noncomputable def limL (n : Nat) : List Nat := [lim n 0, lim n 1, lim n 2, lim n 3]
def fromV (c : List Nat) : Nat → Nat
  | 0 => 0
  | i + 1 => fromV c i + c.getD i 0 * 2 ^ (8 * (31 - i))
theorem bts_ix {c : List Nat} {j i : Nat} (h : j = i) (hi : i < c.length) : (bts c)[j]? = some (nI .u8 ((c.getD i 0 : Nat) : Int)) := by
  subst h
  simp [bts, List.getElem?_eq_getElem hi, List.getD]
/-- A byte more, below all that stands. -/
theorem put_byte {v b k : Nat} (hv : v < T256) (hk : k < 32) (hm : v % 2 ^ (8 * (k + 1)) = 0) (hb : b < 256) :
    (limL v).set (k / 8) ((limL v).getD (k / 8) 0 ||| b * 2 ^ (8 * (k % 8))) = limL (v + b * 2 ^ (8 * k)) ∧ v + b * 2 ^ (8 * k) < T256 ∧ (v + b * 2 ^ (8 * k)) % 2 ^ (8 * k) = 0 ∧ b * 2 ^ (8 * (k % 8)) < 2 ^ 64 ∧ (limL v).getD (k / 8) 0 < 2 ^ 64 := by
  obtain ⟨t, rfl⟩ := Nat.dvd_of_mod_eq_zero hm
  have hd : k / 8 < 4 := by omega
  have e1 : 2 ^ (8 * (k + 1)) = B64 ^ (k / 8) * 2 ^ (8 * (k % 8) + 8) := by
    rw [B64_eq, ← Nat.pow_mul, ← Nat.pow_add]
    congr 1; omega
  have e2 : B64 = 2 ^ (8 * (k % 8) + 8) * 2 ^ (56 - 8 * (k % 8)) := by
    rw [B64_eq, ← Nat.pow_add]
    congr 1; omega
  have hB : 0 < B64 ^ (k / 8) := Nat.pow_pos (by decide)
  have e3 : lim (2 ^ (8 * (k + 1)) * t) (k / 8) = 2 ^ (8 * (k % 8) + 8) * (t % 2 ^ (56 - 8 * (k % 8))) := by
    rw [lim_def, e1, Nat.mul_assoc, Nat.mul_div_cancel_left _ hB, e2, Nat.mul_mod_mul_left]
  have hlt : t % 2 ^ (56 - 8 * (k % 8)) < 2 ^ (56 - 8 * (k % 8)) := Nat.mod_lt _ (Nat.pow_pos (by omega))
  have hb2 : b * 2 ^ (8 * (k % 8)) < 2 ^ (8 * (k % 8) + 8) := by
    rw [Nat.pow_add, Nat.mul_comm]
    exact Nat.mul_lt_mul_of_pos_left (by omega) (Nat.pow_pos (by omega))
  have hsum : lim (2 ^ (8 * (k + 1)) * t) (k / 8) + b * 2 ^ (8 * (k % 8)) < B64 := by
    rw [e3]
    have h1 : 2 ^ (8 * (k % 8) + 8) * (t % 2 ^ (56 - 8 * (k % 8)) + 1) ≤ 2 ^ (8 * (k % 8) + 8) * 2 ^ (56 - 8 * (k % 8)) := Nat.mul_le_mul_left _ hlt
    rw [← e2, Nat.mul_add, Nat.mul_one] at h1
    omega
  have e4 : b * 2 ^ (8 * k) = B64 ^ (k / 8) * (b * 2 ^ (8 * (k % 8))) := by
    have : 2 ^ (8 * k) = B64 ^ (k / 8) * 2 ^ (8 * (k % 8)) := by
      rw [B64_eq, ← Nat.pow_mul, ← Nat.pow_add]
      congr 1; omega
    rw [this, Nat.mul_left_comm]
  obtain ⟨p1, p2, p3⟩ := lim_put hv hd hsum
  have e5 : lim (2 ^ (8 * (k + 1)) * t) (k / 8) ||| b * 2 ^ (8 * (k % 8)) = lim (2 ^ (8 * (k + 1)) * t) (k / 8) + b * 2 ^ (8 * (k % 8)) := by
    rw [e3]
    exact (Nat.two_pow_add_eq_or_of_lt hb2 _).symm
  have e6 : ∀ v, (limL v).getD (k / 8) 0 = lim v (k / 8) := by
    intro v
    have : k / 8 = 0 ∨ k / 8 = 1 ∨ k / 8 = 2 ∨ k / 8 = 3 := by omega
    rcases this with h | h | h | h <;> rw [h] <;> rfl
  refine ⟨?_, by rw [e4]; exact p3, ?_, ?_, ?_⟩
  · rw [e6, e5, ← p1, e4]
    generalize 2 ^ (8 * (k + 1)) * t = v at *
    generalize B64 ^ (k / 8) * (b * 2 ^ (8 * (k % 8))) = q at *
    have : k / 8 = 0 ∨ k / 8 = 1 ∨ k / 8 = 2 ∨ k / 8 = 3 := by omega
    rcases this with h | h | h | h <;> rw [h] at p2 ⊢ <;> simp only [limL, List.set_cons_zero, List.set_cons_succ]
    · rw [p2 1 (by omega) (by omega), p2 2 (by omega) (by omega), p2 3 (by omega) (by omega)]
    · rw [p2 0 (by omega) (by omega), p2 2 (by omega) (by omega), p2 3 (by omega) (by omega)]
    · rw [p2 0 (by omega) (by omega), p2 1 (by omega) (by omega), p2 3 (by omega) (by omega)]
    · rw [p2 0 (by omega) (by omega), p2 1 (by omega) (by omega), p2 2 (by omega) (by omega)]
  · have : 2 ^ (8 * (k + 1)) * t = 2 ^ (8 * k) * (256 * t) := by
      rw [show 8 * (k + 1) = 8 * k + 8 by omega, Nat.pow_add]; rw [Nat.mul_assoc]
    rw [this, Nat.mul_comm b, ← Nat.mul_add, Nat.mul_mod_right]
  · rw [B64_eq] at hsum; omega
  · rw [e6, ← B64_eq]; exact lim_lt _ _
theorem from_fn (c : List Nat) (hc : c.length = 32) (hb : ∀ x ∈ c, x < 256) : FnV Tryd.prog G0 32 [.agg (bts c)] (uV (fromV c 32)) := by
  refine fn_of_vwp Γok Tryd.func32 (by kernel_rfl) rfl (by simp [Tryd.ntmps32]) (wpv_ok Γok (by kernel_rfl) _ _ _ ?_); conv => whnf
  refine bindP_intro (load_agg rfl rfl (by simp [bts_length, *])) ?_
  conv => whnf
  refine vloop_invP (X := Nat) (fun i => ⟨[(8, nI .i64 i), (7, .agg (bts c)), (3, .ptr 2 0), (2, .ptr 1 0)], Tryd.f32.ntmps, [(2, some (words (limL (fromV c i)))), (1, some (words [0, 0, 0, 0]))], 3⟩)
    (fun i => i ≤ 32 ∧ fromV c i < T256 ∧ fromV c i % 2 ^ (8 * (32 - i)) = 0) (fun i => 32 - i) 0
    (sub_conv G0ok [(1, some 1), (2, some 2)] rfl rfl ⟨⟨_, rfl, conv_nI rfl⟩, ⟨_, rfl, conv_eq rfl (bts_noHs _)⟩, ⟨_, rfl, .ptr rfl⟩, ⟨_, rfl, .ptr rfl⟩, trivial⟩
      ⟨.inr ⟨_, _, rfl, rfl, convs_eq (by rw [show limL (fromV c 0) = [0, 0, 0, 0] from by simp [limL, lim_def, fromV]]; rfl) (words_noHs _)⟩, .inr ⟨_, _, rfl, rfl, convs_eq rfl rfl⟩, trivial⟩) ⟨Nat.zero_le _, by simp only [fromV]; decide, by simp only [fromV, Nat.zero_mod]⟩ ?_
  rintro i ⟨hi, hv, hm⟩
  dsimp only at hi ⊢
  refine wpv_ok Γok (by kernel_rfl) _ _ _ ?_; conv => whnf
  refine bool_cases (fun hc' => ?_) (fun hc' => ?_)
  · have hc' := of_decide_eq_true hc'
    have hci : c.getD i 0 < 256 := getD_lt (by omega) hb i
    obtain ⟨k, hk⟩ : ∃ k : Nat, 31 - i = k := ⟨_, rfl⟩
    have hm' : fromV c i % 2 ^ (8 * (k + 1)) = 0 := by rw [show k + 1 = 32 - i by omega]; exact hm
    obtain ⟨q1, q2, q3, q4, q5⟩ := put_byte hv (by omega) hm' hci
    conv => whnf
    refine bindP_intro ((if_pos (inB_ok (by omega) (by omega))).trans (bts_ix (i := i) (by dsimp only; omega) (by omega))) ?_
    conv => whnf
    rw [ws_i64 (x := 31 - (i : Int)) (by omega) (by omega), show (31 : Int) - i = (k : Int) from by omega]
    rw [Int.tdiv_eq_ediv_of_nonneg (by omega), ws_i64 (x := (k : Int) / 8) (by omega) (by omega)]
    conv => whnf
    refine bindP_intro (if_pos (inB_ok (by omega) (by omega))) ?_; conv => whnf
    refine bindP_intro (words_ix (i := k / 8) (by dsimp only; omega) (by simp only [limL, List.length_cons, List.length_nil]; omega)) ?_
    conv => whnf
    rw [ws_u64n (x := ((c.getD i 0 : Nat) : Int)) (by omega) (by omega)]
    rw [Int.tmod_eq_emod_of_nonneg (by omega), ws_i64 (x := 8 * ((k : Int) % 8)) (by omega) (by omega), show 8 * ((k : Int) % 8) = ((8 * (k % 8) : Nat) : Int) from by omega]
    conv => whnf
    rw [shl_val (k := .u64) (x := ((c.getD i 0 : Nat) : Int)) (n := 8 * (k % 8)) (by simp only [IntKind.bits]; omega), ← Int.natCast_mul, u64_wrap q4, u64_or q5 q4]
    conv => whnf
    refine bindP_intro (if_pos (inB_ok (by omega) (by omega))) ?_; conv => whnf
    refine onlyIf_intro ?_ ?_
    · simp [words_length, limL]
      omega
    conv => whnf
    rw [splice_words (i := k / 8) (by dsimp only; omega) (by simp only [limL, List.length_cons, List.length_nil]; omega), q1]
    conv => whnf
    refine ⟨by kernel_rfl, ?_⟩
    conv => whnf
    refine ⟨i + 1, sub_conv G0ok [(1, some 1), (2, some 2)] rfl rfl ⟨⟨_, rfl, conv_nI (ws_i64 (by omega) (by omega))⟩, ⟨_, rfl, conv_eq rfl (bts_noHs _)⟩, ⟨_, rfl, .ptr rfl⟩, ⟨_, rfl, .ptr rfl⟩, trivial⟩
      ⟨.inr ⟨_, _, rfl, rfl, convs_eq (by simp only [fromV, hk]) (words_noHs _)⟩, .inr ⟨_, _, rfl, rfl, convs_eq rfl rfl⟩, trivial⟩, ⟨by omega, by simp only [fromV, hk]; exact q2, ?_⟩, by omega⟩
    simp only [fromV, hk]
    rw [show 32 - (i + 1) = k by omega]
    exact q3
  · have hc' := of_decide_eq_false hc'
    have hi2 : i = 32 := by omega
    subst hi2
    conv => whnf
    exact ⟨_, rfl, rfl⟩
end Go.Proofs.YtidkdlaihmpjfaaDoor
