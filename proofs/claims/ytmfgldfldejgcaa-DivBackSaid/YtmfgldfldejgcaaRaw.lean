/- The contracts of the raw things out of which statements make their numbers: picked, number. -/
import Derived.Test.YtmfgldfldejgcaaRows
import Derived.Test.YtmfgldfldejgcaaNum
import Derived.WalkKit
import Derived.WalkSpells
import Derived.WalkLawsBesides
import Derived.IntWalk
import Derived.OpenShut
import Derived.WalkArith
namespace Go.Proofs.Ytmfgldfldejgcaa
set_option linter.unusedVariables false
set_option linter.unusedSimpArgs false
open Go.RowKit Go.WalkArith

theorem tmod_neg {n m : Int} (hm : 0 < m) (h : n.tmod m < 0) : n.tmod m + m = n % m := by
  rw [Int.tmod_eq_emod] at *
  have h1 := Int.emod_nonneg n (show m ≠ 0 by omega)
  split at h <;> rename_i hc
  · omega
  · rw [if_neg hc]; omega
theorem tmod_nonneg {n m : Int} (hm : 0 < m) (h : 0 ≤ n.tmod m) : n.tmod m = n % m := by
  rw [Int.tmod_eq_emod] at *
  have h2 := Int.emod_lt_of_pos n hm
  split at h <;> rename_i hc
  · rw [if_pos hc]; omega
  · omega
set_option maxHeartbeats 400000 in
theorem picked_calls (n m : Int) (hm : 0 < m) (hm2 : m ≤ 4611686018427387904) (h1 : -9223372036854775808 ≤ n) (h2 : n ≤ 9223372036854775807) (w : World) :
    Calls Try.prog 15 #[.int .i64 n, .int .i64 m] w fun e w' => e = .returned (.int .i64 (n % m)) ∧ w = w' := by
  have hz : ¬ m = 0 := by omega
  go_enter Try.func15, Try.ntmps15
  go_wp2
  · have hb := Int.emod_nonneg n (show m ≠ 0 by omega)
    have hc := Int.emod_lt_of_pos n hm
    have e : wrap64 (n.tmod m + m) = n % m := by
      rw [tmod_neg hm (by assumption)]; unfold wrap64; omega
    rw [e]; go_ret; exact ⟨rfl, rfl⟩
  · rw [tmod_nonneg hm (by assumption)]; go_ret; exact ⟨rfl, rfl⟩

def nat4 (x y z u : Int) : Nat := val4 x.toNat y.toNat z.toNat u.toNat
theorem u64_nat {x : Int} (h : (Lit.int .u64 x).wf = true) : ((x.toNat : Nat) : Int) = x ∧ x.toNat < B64 := by
  have := bounds_u64 h
  unfold B64; omega
theorem agg_nat4 {x y z u : Int} (hx : (Lit.int .u64 x).wf = true) (hy : (Lit.int .u64 y).wf = true) (hz : (Lit.int .u64 z).wf = true) (hu : (Lit.int .u64 u).wf = true) :
    u256 (nat4 x y z u) = .agg #[.int .u64 x, .int .u64 y, .int .u64 z, .int .u64 u] ∧ nat4 x y z u < T256 := by
  obtain ⟨x1, x2⟩ := u64_nat hx
  obtain ⟨y1, y2⟩ := u64_nat hy
  obtain ⟨z1, z2⟩ := u64_nat hz
  obtain ⟨u1, u2⟩ := u64_nat hu
  unfold nat4
  rw [u256_val4 x2 y2 z2 u2, x1, y1, z1, u1]
  exact ⟨rfl, val4_lt x2 y2 z2 u2⟩
def rn0 (a b : Int) : Nat := nat4 (a % 1000) 0 0 0
theorem rn0_spec (a b : Int) : u256 (rn0 a b) = .agg #[.int .u64 (a % 1000), .int .u64 0, .int .u64 0, .int .u64 0] ∧ rn0 a b < T256 := agg_nat4 (wf_u64 (by omega)) (by decide) (by decide) (by decide)
def rn1 (a b : Int) : Nat := nat4 (IntKind.u64.wrap a) 0 0 0
theorem rn1_spec (a b : Int) : u256 (rn1 a b) = .agg #[.int .u64 (IntKind.u64.wrap a), .int .u64 0, .int .u64 0, .int .u64 0] ∧ rn1 a b < T256 := agg_nat4 (wf_wrap _ _) (by decide) (by decide) (by decide)
def rn2 (a b : Int) : Nat := nat4 (IntKind.u64.wrap a) (IntKind.u64.wrap b) 0 0
theorem rn2_spec (a b : Int) : u256 (rn2 a b) = .agg #[.int .u64 (IntKind.u64.wrap a), .int .u64 (IntKind.u64.wrap b), .int .u64 0, .int .u64 0] ∧ rn2 a b < T256 := agg_nat4 (wf_wrap _ _) (wf_wrap _ _) (by decide) (by decide)
def rn3 (a b : Int) : Nat := nat4 (IntKind.u64.wrap (IntKind.u64.wrap a * 11400714819323198485)) (IntKind.u64.wrap b) (bits BinOp.xor IntKind.u64 (IntKind.u64.wrap a) (IntKind.u64.wrap b)) (IntKind.u64.wrap (IntKind.u64.wrap b * 14029467366897019727))
theorem rn3_spec (a b : Int) : u256 (rn3 a b) = .agg #[.int .u64 (IntKind.u64.wrap (IntKind.u64.wrap a * 11400714819323198485)), .int .u64 (IntKind.u64.wrap b), .int .u64 (bits BinOp.xor IntKind.u64 (IntKind.u64.wrap a) (IntKind.u64.wrap b)), .int .u64 (IntKind.u64.wrap (IntKind.u64.wrap b * 14029467366897019727))] ∧ rn3 a b < T256 := agg_nat4 (wf_wrap _ _) (wf_wrap _ _) (wf_bits _ _ _ _) (wf_wrap _ _)
def rn4 (a b : Int) : Nat := nat4 (bits BinOp.xor IntKind.u64 IntKind.u64.max (IntKind.u64.wrap a)) (bits BinOp.xor IntKind.u64 IntKind.u64.max (IntKind.u64.wrap b)) 18446744073709551615 18446744073709551615
theorem rn4_spec (a b : Int) : u256 (rn4 a b) = .agg #[.int .u64 (bits BinOp.xor IntKind.u64 IntKind.u64.max (IntKind.u64.wrap a)), .int .u64 (bits BinOp.xor IntKind.u64 IntKind.u64.max (IntKind.u64.wrap b)), .int .u64 18446744073709551615, .int .u64 18446744073709551615] ∧ rn4 a b < T256 := agg_nat4 (wf_bits _ _ _ _) (wf_bits _ _ _ _) (by decide) (by decide)
/-- The number of a raw thing. -/
def rawNum (k a b : Int) : Nat :=
  if k % 5 = 0 then rn0 a b else if k % 5 = 1 then rn1 a b else if k % 5 = 2 then rn2 a b else if k % 5 = 3 then rn3 a b else rn4 a b
theorem rawNum_lt (k a b : Int) : rawNum k a b < T256 := by
  unfold rawNum
  have h0 := (rn0_spec a b).2
  have h1 := (rn1_spec a b).2
  have h2 := (rn2_spec a b).2
  have h3 := (rn3_spec a b).2
  have h4 := (rn4_spec a b).2
  repeat' split
  all_goals assumption
/-- What is known of a raw thing that came in. -/
def RawV (v : Value) (k a b : Int) (s : ByteArray) : Prop :=
  v = .agg #[.int .i64 k, .int .i64 a, .int .i64 b, .string s] ∧ (-9223372036854775808 ≤ k ∧ k ≤ 9223372036854775807) ∧ (-9223372036854775808 ≤ a ∧ a ≤ 9223372036854775807) ∧ (-9223372036854775808 ≤ b ∧ b ≤ 9223372036854775807) ∧ s.size ≤ maxLen

set_option maxHeartbeats 2000000 in
theorem number_calls {v : Value} {k a b : Int} {s : ByteArray} (hv : RawV v k a b s) (w : World) :
    Calls Try.prog 18 #[v] w fun e w' => e = .returned (u256 (rawNum k a b)) ∧ Below w.heap.size w w' := by
  obtain ⟨rfl, ⟨hk1, hk2⟩, ⟨ha1, ha2⟩, _, _⟩ := hv
  go_enter Try.func18, Try.ntmps18
  go_wp2_with (go_at_call 15; refine (picked_calls _ _ (by omega) (by omega) (by omega) (by omega) _).mono ?_; rintro e w' ⟨rfl, rfl⟩)
  go_region
  go_wp2_with (go_at_call 15; refine (picked_calls _ _ (by omega) (by omega) (by omega) (by omega) _).mono ?_; rintro e w' ⟨rfl, rfl⟩)
  · have e : rawNum k a b = rn0 a b := by
      have t0 : (k % 5 == 0) = true := by assumption
      simp only [beq_iff_eq, beq_eq_false_iff_ne, ne_eq] at t0
      unfold rawNum; rw [if_pos t0]
    rw [e, (rn0_spec a b).1]
    exact bodyPost_ret (v := .agg #[.int .u64 (a % 1000), .int .u64 0, .int .u64 0, .int .u64 0]) (by simp [results, Try.results18, go_sem]) rfl ⟨rfl, by repeat (first | exact Below.refl _ _ | refine Below.drew ?_ | refine Below.alloc ?_ (by simp <;> omega) _ | refine Below.setCell ?_ (by simp) _)⟩
  · have e : rawNum k a b = rn1 a b := by
      have t0 : (k % 5 == 0) = false := by assumption
      have t1 : (k % 5 == 1) = true := by assumption
      simp only [beq_iff_eq, beq_eq_false_iff_ne, ne_eq] at t0 t1
      unfold rawNum; rw [if_neg t0, if_pos t1]
    rw [e, (rn1_spec a b).1]
    exact bodyPost_ret (v := .agg #[.int .u64 (IntKind.u64.wrap a), .int .u64 0, .int .u64 0, .int .u64 0]) (by simp [results, Try.results18, go_sem]) rfl ⟨rfl, by repeat (first | exact Below.refl _ _ | refine Below.drew ?_ | refine Below.alloc ?_ (by simp <;> omega) _ | refine Below.setCell ?_ (by simp) _)⟩
  · have e : rawNum k a b = rn2 a b := by
      have t0 : (k % 5 == 0) = false := by assumption
      have t1 : (k % 5 == 1) = false := by assumption
      have t2 : (k % 5 == 2) = true := by assumption
      simp only [beq_iff_eq, beq_eq_false_iff_ne, ne_eq] at t0 t1 t2
      unfold rawNum; rw [if_neg t0, if_neg t1, if_pos t2]
    rw [e, (rn2_spec a b).1]
    exact bodyPost_ret (v := .agg #[.int .u64 (IntKind.u64.wrap a), .int .u64 (IntKind.u64.wrap b), .int .u64 0, .int .u64 0]) (by simp [results, Try.results18, go_sem]) rfl ⟨rfl, by repeat (first | exact Below.refl _ _ | refine Below.drew ?_ | refine Below.alloc ?_ (by simp <;> omega) _ | refine Below.setCell ?_ (by simp) _)⟩
  · have e : rawNum k a b = rn3 a b := by
      have t0 : (k % 5 == 0) = false := by assumption
      have t1 : (k % 5 == 1) = false := by assumption
      have t2 : (k % 5 == 2) = false := by assumption
      have t3 : (k % 5 == 3) = true := by assumption
      simp only [beq_iff_eq, beq_eq_false_iff_ne, ne_eq] at t0 t1 t2 t3
      unfold rawNum; rw [if_neg t0, if_neg t1, if_neg t2, if_pos t3]
    rw [e, (rn3_spec a b).1]
    exact bodyPost_ret (v := .agg #[.int .u64 (IntKind.u64.wrap (IntKind.u64.wrap a * 11400714819323198485)), .int .u64 (IntKind.u64.wrap b), .int .u64 (bits BinOp.xor IntKind.u64 (IntKind.u64.wrap a) (IntKind.u64.wrap b)), .int .u64 (IntKind.u64.wrap (IntKind.u64.wrap b * 14029467366897019727))]) (by simp [results, Try.results18, go_sem]) rfl ⟨rfl, by repeat (first | exact Below.refl _ _ | refine Below.drew ?_ | refine Below.alloc ?_ (by simp <;> omega) _ | refine Below.setCell ?_ (by simp) _)⟩
  · have e : rawNum k a b = rn4 a b := by
      have t0 : (k % 5 == 0) = false := by assumption
      have t1 : (k % 5 == 1) = false := by assumption
      have t2 : (k % 5 == 2) = false := by assumption
      have t3 : (k % 5 == 3) = false := by assumption
      simp only [beq_iff_eq, beq_eq_false_iff_ne, ne_eq] at t0 t1 t2 t3
      unfold rawNum; rw [if_neg t0, if_neg t1, if_neg t2, if_neg t3]
    rw [e, (rn4_spec a b).1]
    exact bodyPost_ret (v := .agg #[.int .u64 (bits BinOp.xor IntKind.u64 IntKind.u64.max (IntKind.u64.wrap a)), .int .u64 (bits BinOp.xor IntKind.u64 IntKind.u64.max (IntKind.u64.wrap b)), .int .u64 18446744073709551615, .int .u64 18446744073709551615]) (by simp [results, Try.results18, go_sem]) rfl ⟨rfl, by repeat (first | exact Below.refl _ _ | refine Below.drew ?_ | refine Below.alloc ?_ (by simp <;> omega) _ | refine Below.setCell ?_ (by simp) _)⟩
end Go.Proofs.Ytmfgldfldejgcaa
