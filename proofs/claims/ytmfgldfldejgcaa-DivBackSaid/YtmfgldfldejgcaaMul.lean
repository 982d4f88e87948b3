/- The contract of wide.Mul: the lower and the higher half of the product of two numbers. -/
import Derived.Test.YtmfgldfldejgcaaRows
import Derived.Test.YtmfgldfldejgcaaNum
import Derived.Test.YtmfgldfldejgcaaAdd
import Derived.Test.YtmfgldfldejgcaaMem
import Derived.Test.YtmfgldfldejgcaaShelf
import Derived.WalkKit
import Derived.WalkSpells
import Derived.WalkLawsBesides
import Derived.BigRegion
namespace Go.Proofs.Ytmfgldfldejgcaa
set_option linter.unusedVariables false
set_option linter.unusedSimpArgs false
open Go.RowKit

theorem mulL_ex : ∃ f : Nat → Nat → Nat, ∀ a b, f a b = a * b % T256 := ⟨_, fun _ _ => rfl⟩
noncomputable def mulL : Nat → Nat → Nat := Classical.choose mulL_ex
theorem mulL_def (a b : Nat) : mulL a b = a * b % T256 := Classical.choose_spec mulL_ex a b
theorem mulH_ex : ∃ f : Nat → Nat → Nat, ∀ a b, f a b = a * b / T256 := ⟨_, fun _ _ => rfl⟩
noncomputable def mulH : Nat → Nat → Nat := Classical.choose mulH_ex
theorem mulH_def (a b : Nat) : mulH a b = a * b / T256 := Classical.choose_spec mulH_ex a b
theorem mulL_lt (a b : Nat) : mulL a b < T256 := by rw [mulL_def]; exact Nat.mod_lt _ (by decide)
theorem mulH_lt {a b : Nat} (ha : a < T256) (hb : b < T256) : mulH a b < T256 := by
  rw [mulH_def]; exact Nat.div_lt_of_lt_mul (Nat.mul_lt_mul'' ha hb)

theorem wrap_u64 {x y : Nat} (h : x + y < B64) : IntKind.u64.wrap ((x : Int) + (y : Int)) = ((x + y : Nat) : Int) := by
  unfold B64 at h
  simp only [IntKind.wrap, IntKind.signed, IntKind.bits]
  simp
  omega
/-- One step of the product by columns. -/
theorem mstep (x y o c : Nat) (O C : Int) (hO : O = o) (hC : C = c) (hx : x < B64) (hy : y < B64) (ho : o < B64) (hc : c < B64) :
    ∃ hi lo l1 c1 h1 l2 c2 k : Nat, (∀ w, Calls Try.prog 33 #[.int .u64 x, .int .u64 y] w fun e w' => e = .returned (.tuple #[.int .u64 hi, .int .u64 lo]) ∧ w = w') ∧
      (∀ w, (callFunc 31 #[.int .u64 lo, .int .u64 O, .int .u64 0]).run Try.prog w = .ok (.value (.tuple #[.int .u64 l1, .int .u64 c1])) w) ∧ IntKind.u64.wrap ((hi : Int) + (c1 : Int)) = h1 ∧
      (∀ w, (callFunc 31 #[.int .u64 l1, .int .u64 C, .int .u64 0]).run Try.prog w = .ok (.value (.tuple #[.int .u64 l2, .int .u64 c2])) w) ∧ IntKind.u64.wrap ((h1 : Int) + (c2 : Int)) = k ∧
      l2 < B64 ∧ k < B64 ∧ x * y + o + c = l2 + B64 * k := by
  subst hO hC
  have hp : x * y ≤ 18446744073709551615 * 18446744073709551615 := Nat.mul_le_mul (by unfold B64 at hx; omega) (by unfold B64 at hy; omega)
  have e1 := acc_car (x * y % B64) o 0
  have e2 := acc_car (acc (x * y % B64) o 0) c 0
  have q1 := car_le (x := x * y % B64) (y := o) (c := 0) (Nat.mod_lt _ (by decide)) ho (by omega)
  have q2 := car_le (x := acc (x * y % B64) o 0) (y := c) (c := 0) (acc_lt _ _ _) hc (by omega)
  have e0 := Nat.mod_add_div (x * y) B64
  have b2 := acc_lt (acc (x * y % B64) o 0) c 0
  have s1 : x * y / B64 + car (x * y % B64) o 0 < B64 ∧ x * y / B64 + car (x * y % B64) o 0 + car (acc (x * y % B64) o 0) c 0 < B64 := by
    generalize car (acc (x * y % B64) o 0) c 0 = d2 at *
    generalize acc (acc (x * y % B64) o 0) c 0 = d3 at *
    generalize car (x * y % B64) o 0 = d1 at *
    generalize acc (x * y % B64) o 0 = d4 at *
    generalize x * y / B64 = d5 at *
    generalize x * y % B64 = d6 at *
    generalize x * y = p at *
    simp only [B64] at *
    omega
  refine ⟨x * y / B64, x * y % B64, acc (x * y % B64) o 0, car (x * y % B64) o 0, x * y / B64 + car (x * y % B64) o 0, acc (acc (x * y % B64) o 0) c 0, car (acc (x * y % B64) o 0) c 0, x * y / B64 + car (x * y % B64) o 0 + car (acc (x * y % B64) o 0) c 0, ?_, ?_, ?_, ?_, ?_, b2, s1.2, ?_⟩
  · intro w
    refine (Try.bits_Mul64 x y hx hy w).mono ?_
    rintro e w' ⟨rfl, rfl⟩
    exact ⟨rfl, rfl⟩
  · exact fun w => call_add64 (c := 0) (by omega) w
  · exact wrap_u64 s1.1
  · exact fun w => call_add64 (c := 0) (by omega) w
  · exact wrap_u64 s1.2
  · generalize car (acc (x * y % B64) o 0) c 0 = d2 at *
    generalize acc (acc (x * y % B64) o 0) c 0 = d3 at *
    generalize car (x * y % B64) o 0 = d1 at *
    generalize acc (x * y % B64) o 0 = d4 at *
    generalize x * y / B64 = d5 at *
    generalize x * y % B64 = d6 at *
    generalize x * y = p at *
    simp only [B64] at *
    omega

theorem mul_val4 {a0 a1 a2 a3 b0 b1 b2 b3 o00 k00 o01 k01 o02 k02 o03 k03 o10 k10 o11 k11 o12 k12 o13 k13 o20 k20 o21 k21 o22 k22 o23 k23 o30 k30 o31 k31 o32 k32 o33 k33 : Nat}
    (l0 : o00 < B64) (l1 : o10 < B64) (l2 : o20 < B64) (l3 : o30 < B64)
    (e00 : a0 * b0 + 0 + 0 = o00 + B64 * k00)
    (e01 : a0 * b1 + 0 + k00 = o01 + B64 * k01)
    (e02 : a0 * b2 + 0 + k01 = o02 + B64 * k02)
    (e03 : a0 * b3 + 0 + k02 = o03 + B64 * k03)
    (e10 : a1 * b0 + o01 + 0 = o10 + B64 * k10)
    (e11 : a1 * b1 + o02 + k10 = o11 + B64 * k11)
    (e12 : a1 * b2 + o03 + k11 = o12 + B64 * k12)
    (e13 : a1 * b3 + k03 + k12 = o13 + B64 * k13)
    (e20 : a2 * b0 + o11 + 0 = o20 + B64 * k20)
    (e21 : a2 * b1 + o12 + k20 = o21 + B64 * k21)
    (e22 : a2 * b2 + o13 + k21 = o22 + B64 * k22)
    (e23 : a2 * b3 + k13 + k22 = o23 + B64 * k23)
    (e30 : a3 * b0 + o21 + 0 = o30 + B64 * k30)
    (e31 : a3 * b1 + o22 + k30 = o31 + B64 * k31)
    (e32 : a3 * b2 + o23 + k31 = o32 + B64 * k32)
    (e33 : a3 * b3 + k23 + k32 = o33 + B64 * k33) :
    mulL (val4 a0 a1 a2 a3) (val4 b0 b1 b2 b3) = val4 o00 o10 o20 o30 ∧ mulH (val4 a0 a1 a2 a3) (val4 b0 b1 b2 b3) = val4 o31 o32 o33 k33 := by
  have hl := val4_lt l0 l1 l2 l3
  have e : val4 a0 a1 a2 a3 * val4 b0 b1 b2 b3 = val4 o00 o10 o20 o30 + T256 * val4 o31 o32 o33 k33 := by
    have x : ∀ x y z u a : Nat, val4 x y z u * a = x * a + B64 * (y * a) + B64 * B64 * (z * a) + B64 * B64 * B64 * (u * a) := fun x y z u a => by
      unfold val4; simp only [Nat.add_mul, Nat.mul_assoc]
    have y : ∀ x y z u a : Nat, a * val4 x y z u = a * x + B64 * (a * y) + B64 * B64 * (a * z) + B64 * B64 * B64 * (a * u) := fun x y z u a => by
      unfold val4; simp only [Nat.mul_add, Nat.mul_left_comm a]
    rw [x, y, y, y, y, T256_eq]
    unfold val4
    generalize a0 * b0 = p00 at *
    generalize a0 * b1 = p01 at *
    generalize a0 * b2 = p02 at *
    generalize a0 * b3 = p03 at *
    generalize a1 * b0 = p10 at *
    generalize a1 * b1 = p11 at *
    generalize a1 * b2 = p12 at *
    generalize a1 * b3 = p13 at *
    generalize a2 * b0 = p20 at *
    generalize a2 * b1 = p21 at *
    generalize a2 * b2 = p22 at *
    generalize a2 * b3 = p23 at *
    generalize a3 * b0 = p30 at *
    generalize a3 * b1 = p31 at *
    generalize a3 * b2 = p32 at *
    generalize a3 * b3 = p33 at *
    simp only [B64] at *
    omega
  rw [mulL_def, mulH_def, e]
  refine ⟨by rw [Nat.add_mul_mod_self_left, Nat.mod_eq_of_lt hl], by rw [Nat.add_mul_div_left _ _ (by decide), Nat.div_eq_of_lt hl, Nat.zero_add]⟩

set_option maxHeartbeats 16000000 in
theorem mul_walk (a0 a1 a2 a3 b0 b1 b2 b3 : Nat) (ka0 : a0 < B64) (ka1 : a1 < B64) (ka2 : a2 < B64) (ka3 : a3 < B64) (kb0 : b0 < B64) (kb1 : b1 < B64) (kb2 : b2 < B64) (kb3 : b3 < B64) (w : World) :
    Calls Try.prog 26 #[.agg #[.int .u64 a0, .int .u64 a1, .int .u64 a2, .int .u64 a3], .agg #[.int .u64 b0, .int .u64 b1, .int .u64 b2, .int .u64 b3]] w
      fun e w' => e = .returned (.tuple #[u256 (mulL (val4 a0 a1 a2 a3) (val4 b0 b1 b2 b3)), u256 (mulH (val4 a0 a1 a2 a3) (val4 b0 b1 b2 b3))]) ∧ Below w.heap.size w w' := by
  have M := Mem.begin w
  have ia0 : ∀ w, (Instr.index 32 (.agg #[.int .u64 a0, .int .u64 a1, .int .u64 a2, .int .u64 a3]) (.int .i64 0)).run Try.prog w = .ok (.int .u64 a0) w := fun _ => by kernel_rfl
  have ia1 : ∀ w, (Instr.index 32 (.agg #[.int .u64 a0, .int .u64 a1, .int .u64 a2, .int .u64 a3]) (.int .i64 1)).run Try.prog w = .ok (.int .u64 a1) w := fun _ => by kernel_rfl
  have ia2 : ∀ w, (Instr.index 32 (.agg #[.int .u64 a0, .int .u64 a1, .int .u64 a2, .int .u64 a3]) (.int .i64 2)).run Try.prog w = .ok (.int .u64 a2) w := fun _ => by kernel_rfl
  have ia3 : ∀ w, (Instr.index 32 (.agg #[.int .u64 a0, .int .u64 a1, .int .u64 a2, .int .u64 a3]) (.int .i64 3)).run Try.prog w = .ok (.int .u64 a3) w := fun _ => by kernel_rfl
  have ib0 : ∀ w, (Instr.index 32 (.agg #[.int .u64 b0, .int .u64 b1, .int .u64 b2, .int .u64 b3]) (.int .i64 0)).run Try.prog w = .ok (.int .u64 b0) w := fun _ => by kernel_rfl
  have ib1 : ∀ w, (Instr.index 32 (.agg #[.int .u64 b0, .int .u64 b1, .int .u64 b2, .int .u64 b3]) (.int .i64 1)).run Try.prog w = .ok (.int .u64 b1) w := fun _ => by kernel_rfl
  have ib2 : ∀ w, (Instr.index 32 (.agg #[.int .u64 b0, .int .u64 b1, .int .u64 b2, .int .u64 b3]) (.int .i64 2)).run Try.prog w = .ok (.int .u64 b2) w := fun _ => by kernel_rfl
  have ib3 : ∀ w, (Instr.index 32 (.agg #[.int .u64 b0, .int .u64 b1, .int .u64 b2, .int .u64 b3]) (.int .i64 3)).run Try.prog w = .ok (.int .u64 b3) w := fun _ => by kernel_rfl
  have hz : 0 < B64 := by decide
  go_enter Try.func26, Try.ntmps26
  go_wp2
  refine wp_loop_rounds 5 ?_
  -- row 0
  rw [rounds_succ]
  go_wp2
  refine wp_loop_rounds 5 ?_
  obtain ⟨hi, lo, l1, c1, h1, o00, c2, k00, hm, r1, w1, r2, w2, lo00, lk00, e00⟩ := mstep a0 b0 0 0 0 0 rfl rfl ka0 kb0 hz hz
  have HM := Lib.hid hm
  have E00 := Lib.hid e00
  clear hm e00
  rw [rounds_succ]
  go_wp2_with (go_at_call 33; (refine (HM.out _).mono ?_); rintro e w' ⟨rfl, rfl⟩)
  clear HM r1 w1 r2 w2
  obtain ⟨hi, lo, l1, c1, h1, o01, c2, k01, hm, r1, w1, r2, w2, lo01, lk01, e01⟩ := mstep a0 b1 0 k00 0 k00 rfl rfl ka0 kb1 hz lk00
  have HM := Lib.hid hm
  have E01 := Lib.hid e01
  clear hm e01
  rw [rounds_succ]
  go_wp2_with (go_at_call 33; (refine (HM.out _).mono ?_); rintro e w' ⟨rfl, rfl⟩)
  clear HM r1 w1 r2 w2
  obtain ⟨hi, lo, l1, c1, h1, o02, c2, k02, hm, r1, w1, r2, w2, lo02, lk02, e02⟩ := mstep a0 b2 0 k01 0 k01 rfl rfl ka0 kb2 hz lk01
  have HM := Lib.hid hm
  have E02 := Lib.hid e02
  clear hm e02
  rw [rounds_succ]
  go_wp2_with (go_at_call 33; (refine (HM.out _).mono ?_); rintro e w' ⟨rfl, rfl⟩)
  clear HM r1 w1 r2 w2
  obtain ⟨hi, lo, l1, c1, h1, o03, c2, k03, hm, r1, w1, r2, w2, lo03, lk03, e03⟩ := mstep a0 b3 0 k02 0 k02 rfl rfl ka0 kb3 hz lk02
  have HM := Lib.hid hm
  have E03 := Lib.hid e03
  clear hm e03
  rw [rounds_succ]
  go_wp2_with (go_at_call 33; (refine (HM.out _).mono ?_); rintro e w' ⟨rfl, rfl⟩)
  clear HM r1 w1 r2 w2
  rw [rounds_succ]
  go_wp2
  -- row 1
  rw [rounds_succ]
  go_wp2
  refine wp_loop_rounds 5 ?_
  obtain ⟨hi, lo, l1, c1, h1, o10, c2, k10, hm, r1, w1, r2, w2, lo10, lk10, e10⟩ := mstep a1 b0 o01 0 o01 0 rfl rfl ka1 kb0 lo01 hz
  have HM := Lib.hid hm
  have E10 := Lib.hid e10
  clear hm e10
  rw [rounds_succ]
  go_wp2_with (go_at_call 33; (refine (HM.out _).mono ?_); rintro e w' ⟨rfl, rfl⟩)
  clear HM r1 w1 r2 w2
  obtain ⟨hi, lo, l1, c1, h1, o11, c2, k11, hm, r1, w1, r2, w2, lo11, lk11, e11⟩ := mstep a1 b1 o02 k10 o02 k10 rfl rfl ka1 kb1 lo02 lk10
  have HM := Lib.hid hm
  have E11 := Lib.hid e11
  clear hm e11
  rw [rounds_succ]
  go_wp2_with (go_at_call 33; (refine (HM.out _).mono ?_); rintro e w' ⟨rfl, rfl⟩)
  clear HM r1 w1 r2 w2
  obtain ⟨hi, lo, l1, c1, h1, o12, c2, k12, hm, r1, w1, r2, w2, lo12, lk12, e12⟩ := mstep a1 b2 o03 k11 o03 k11 rfl rfl ka1 kb2 lo03 lk11
  have HM := Lib.hid hm
  have E12 := Lib.hid e12
  clear hm e12
  rw [rounds_succ]
  go_wp2_with (go_at_call 33; (refine (HM.out _).mono ?_); rintro e w' ⟨rfl, rfl⟩)
  clear HM r1 w1 r2 w2
  obtain ⟨hi, lo, l1, c1, h1, o13, c2, k13, hm, r1, w1, r2, w2, lo13, lk13, e13⟩ := mstep a1 b3 k03 k12 k03 k12 rfl rfl ka1 kb3 lk03 lk12
  have HM := Lib.hid hm
  have E13 := Lib.hid e13
  clear hm e13
  rw [rounds_succ]
  go_wp2_with (go_at_call 33; (refine (HM.out _).mono ?_); rintro e w' ⟨rfl, rfl⟩)
  clear HM r1 w1 r2 w2
  rw [rounds_succ]
  go_wp2
  -- row 2
  rw [rounds_succ]
  go_wp2
  refine wp_loop_rounds 5 ?_
  obtain ⟨hi, lo, l1, c1, h1, o20, c2, k20, hm, r1, w1, r2, w2, lo20, lk20, e20⟩ := mstep a2 b0 o11 0 o11 0 rfl rfl ka2 kb0 lo11 hz
  have HM := Lib.hid hm
  have E20 := Lib.hid e20
  clear hm e20
  rw [rounds_succ]
  go_wp2_with (go_at_call 33; (refine (HM.out _).mono ?_); rintro e w' ⟨rfl, rfl⟩)
  clear HM r1 w1 r2 w2
  obtain ⟨hi, lo, l1, c1, h1, o21, c2, k21, hm, r1, w1, r2, w2, lo21, lk21, e21⟩ := mstep a2 b1 o12 k20 o12 k20 rfl rfl ka2 kb1 lo12 lk20
  have HM := Lib.hid hm
  have E21 := Lib.hid e21
  clear hm e21
  rw [rounds_succ]
  go_wp2_with (go_at_call 33; (refine (HM.out _).mono ?_); rintro e w' ⟨rfl, rfl⟩)
  clear HM r1 w1 r2 w2
  obtain ⟨hi, lo, l1, c1, h1, o22, c2, k22, hm, r1, w1, r2, w2, lo22, lk22, e22⟩ := mstep a2 b2 o13 k21 o13 k21 rfl rfl ka2 kb2 lo13 lk21
  have HM := Lib.hid hm
  have E22 := Lib.hid e22
  clear hm e22
  rw [rounds_succ]
  go_wp2_with (go_at_call 33; (refine (HM.out _).mono ?_); rintro e w' ⟨rfl, rfl⟩)
  clear HM r1 w1 r2 w2
  obtain ⟨hi, lo, l1, c1, h1, o23, c2, k23, hm, r1, w1, r2, w2, lo23, lk23, e23⟩ := mstep a2 b3 k13 k22 k13 k22 rfl rfl ka2 kb3 lk13 lk22
  have HM := Lib.hid hm
  have E23 := Lib.hid e23
  clear hm e23
  rw [rounds_succ]
  go_wp2_with (go_at_call 33; (refine (HM.out _).mono ?_); rintro e w' ⟨rfl, rfl⟩)
  clear HM r1 w1 r2 w2
  rw [rounds_succ]
  go_wp2
  -- row 3
  rw [rounds_succ]
  go_wp2
  refine wp_loop_rounds 5 ?_
  obtain ⟨hi, lo, l1, c1, h1, o30, c2, k30, hm, r1, w1, r2, w2, lo30, lk30, e30⟩ := mstep a3 b0 o21 0 o21 0 rfl rfl ka3 kb0 lo21 hz
  have HM := Lib.hid hm
  have E30 := Lib.hid e30
  clear hm e30
  rw [rounds_succ]
  go_wp2_with (go_at_call 33; (refine (HM.out _).mono ?_); rintro e w' ⟨rfl, rfl⟩)
  clear HM r1 w1 r2 w2
  obtain ⟨hi, lo, l1, c1, h1, o31, c2, k31, hm, r1, w1, r2, w2, lo31, lk31, e31⟩ := mstep a3 b1 o22 k30 o22 k30 rfl rfl ka3 kb1 lo22 lk30
  have HM := Lib.hid hm
  have E31 := Lib.hid e31
  clear hm e31
  rw [rounds_succ]
  go_wp2_with (go_at_call 33; (refine (HM.out _).mono ?_); rintro e w' ⟨rfl, rfl⟩)
  clear HM r1 w1 r2 w2
  obtain ⟨hi, lo, l1, c1, h1, o32, c2, k32, hm, r1, w1, r2, w2, lo32, lk32, e32⟩ := mstep a3 b2 o23 k31 o23 k31 rfl rfl ka3 kb2 lo23 lk31
  have HM := Lib.hid hm
  have E32 := Lib.hid e32
  clear hm e32
  rw [rounds_succ]
  go_wp2_with (go_at_call 33; (refine (HM.out _).mono ?_); rintro e w' ⟨rfl, rfl⟩)
  clear HM r1 w1 r2 w2
  obtain ⟨hi, lo, l1, c1, h1, o33, c2, k33, hm, r1, w1, r2, w2, lo33, lk33, e33⟩ := mstep a3 b3 k23 k32 k23 k32 rfl rfl ka3 kb3 lk23 lk32
  have HM := Lib.hid hm
  have E33 := Lib.hid e33
  clear hm e33
  rw [rounds_succ]
  go_wp2_with (go_at_call 33; (refine (HM.out _).mono ?_); rintro e w' ⟨rfl, rfl⟩)
  clear HM r1 w1 r2 w2
  rw [rounds_succ]
  go_wp2
  rw [rounds_succ]
  go_wp2
  refine wp_join_set [.val (.pointer (some ⟨w.heap.size + 1 + 1 + 1 + 1, 0, none⟩)), .val (.int .u64 o00), .val (.pointer (some ⟨w.heap.size + 1 + 1 + 1 + 1, 1, none⟩)), .val (.int .u64 o10), .val (.pointer (some ⟨w.heap.size + 1 + 1 + 1 + 1, 2, none⟩)), .val (.int .u64 o20), .val (.pointer (some ⟨w.heap.size + 1 + 1 + 1 + 1, 3, none⟩)), .val (.int .u64 o30), .val (.agg #[.int .u64 o00, .int .u64 o10, .int .u64 o20, .int .u64 o30]), .val (.pointer (some ⟨w.heap.size + 1 + 1 + 1 + 1, 4, none⟩)), .val (.int .u64 o31), .val (.pointer (some ⟨w.heap.size + 1 + 1 + 1 + 1, 5, none⟩)), .val (.int .u64 o32), .val (.pointer (some ⟨w.heap.size + 1 + 1 + 1 + 1, 6, none⟩)), .val (.int .u64 o33), .val (.pointer (some ⟨w.heap.size + 1 + 1 + 1 + 1, 7, none⟩)), .val (.int .u64 k33), .val (.agg #[.int .u64 o31, .int .u64 o32, .int .u64 o33, .int .u64 k33]), .fill (w.heap.size + 1 + 1) #[.int .u64 o00, .int .u64 o10, .int .u64 o20, .int .u64 o30], .fill (w.heap.size + 1 + 1 + 1) #[.int .u64 o31, .int .u64 o32, .int .u64 o33, .int .u64 k33]] (by kernel_rfl) (by kernel_rfl) (by simp [setsOf]) ?_ ?_ ?_
  · refine Mem.olds (by (repeat (first | with_reducible exact M | with_reducible apply Mem.drew | with_reducible apply Mem.alloc | with_reducible apply Mem.allocAny))) _ ?_
    exact ⟨⟨(u256 0).cells, 32, by simp [Value.cells, lim], rfl⟩, ⟨(u256 0).cells, 32, by simp [Value.cells, lim], rfl⟩, trivial⟩
  · simp only [Obls, List.zip_cons_cons, List.zip_nil_right, finL, setsOf, List.setIfInBounds_toArray, List.set_cons_zero, List.set_cons_succ]
    refine ⟨?_, ?_, ?_, ?_, ?_, ?_, ?_, ?_, ?_, ?_, ?_, ?_, ?_, ?_, ?_, ?_, ?_, ?_, ?_, ?_, trivial⟩
    rotate_left 18
    · exact fill_row rfl rfl (by kernel_rfl) (by simp [Value.cells, Value.oneCell']) (Mem.olds (by (repeat (first | with_reducible exact M | with_reducible apply Mem.drew | with_reducible apply Mem.alloc | with_reducible apply Mem.allocAny))) _ ⟨⟨(u256 0).cells, 32, by simp [Value.cells, lim], rfl⟩, trivial⟩)
    · exact fill_row rfl rfl (by kernel_rfl) (by simp [Value.cells, Value.oneCell']) (Mem.olds (by (repeat (first | with_reducible exact M | with_reducible apply Mem.drew | with_reducible apply Mem.alloc | with_reducible apply Mem.allocAny))) _ ⟨⟨(u256 0).cells, 32, by simp [Value.cells, lim], rfl⟩, trivial⟩)
    all_goals (intro w1 hb; have hc := fun o => (ExB.cells hb).1 (w.heap.size + 1 + 1 + 1 + 1) o (by simp <;> omega) (by simp <;> omega); clear hb; go_simp; exact And.intro rfl (Below.refl _ _))
  · intro ρ w1 hb hs hf hd
    obtain ⟨T1, u1, x1, _⟩ := hs 18 _ _ rfl
    obtain ⟨T2, u2, x2, _⟩ := hs 19 _ _ rfl
    have hB := Mem.exb (by (repeat (first | with_reducible exact M | with_reducible apply Mem.drew | with_reducible apply Mem.alloc | with_reducible apply Mem.allocAny))) hb (by simp [setsOf]; omega)
    simp only [finL, List.setIfInBounds_toArray, List.set_cons_zero, List.set_cons_succ]
    have y1 := (var4 x1).1
    have y2 := (var4 x2).1
    clear hb hs hf hd x1 x2
    have HB := Lib.hid hB
    clear hB
    obtain ⟨q1, q2⟩ := mul_val4 lo00 lo10 lo20 lo30 E00.out E01.out E02.out E03.out E10.out E11.out E12.out E13.out E20.out E21.out E22.out E23.out E30.out E31.out E32.out E33.out
    have Q := Lib.hid (And.intro q1 q2)
    clear q1 q2
    go_wp2
    rw [Q.out.1, Q.out.2, u256_val4 lo00 lo10 lo20 lo30, u256_val4 lo31 lo32 lo33 lk33]
    refine bodyPost_ret (v := .tuple #[.agg #[.int .u64 o00, .int .u64 o10, .int .u64 o20, .int .u64 o30], .agg #[.int .u64 o31, .int .u64 o32, .int .u64 o33, .int .u64 k33]]) (by simp [results, Try.results26, go_sem, y1, y2]) rfl ⟨rfl, HB.out⟩

theorem mul_calls {a b : Nat} (ha : a < T256) (hb : b < T256) (w : World) :
    Calls Try.prog 26 #[u256 a, u256 b] w fun e w' => e = .returned (.tuple #[u256 (mulL a b), u256 (mulH a b)]) ∧ Below w.heap.size w w' := by
  obtain ⟨a0, a1, a2, a3, k0, k1, k2, k3, rfl⟩ := limbs ha
  obtain ⟨b0, b1, b2, b3, m0, m1, m2, m3, rfl⟩ := limbs hb
  have h := mul_walk a0 a1 a2 a3 b0 b1 b2 b3 k0 k1 k2 k3 m0 m1 m2 m3 w
  rw [u256_val4 k0 k1 k2 k3, u256_val4 m0 m1 m2 m3]
  exact h
end Go.Proofs.Ytmfgldfldejgcaa
