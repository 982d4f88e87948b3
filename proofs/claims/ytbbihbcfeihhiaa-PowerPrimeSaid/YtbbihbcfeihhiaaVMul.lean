/- wide.Mul by the engine. -/
import Derived.Test.YtbbihbcfeihhiaaVWide
import Derived.Test.YtbbihbcfeihhiaaShelf
namespace Go.Proofs.Ytbbihbcfeihhiaa
set_option linter.unusedVariables false
set_option linter.unusedSimpArgs false
set_option linter.unusedSectionVars false
open Go.ChangeShapes Go.WideShapes Go.ChangeAt Go.RowKit Go.Joins
set_option maxRecDepth 10000
theorem fn_calls {P : Program} {G : Globs} {g : FuncId} {fn : Func} {code : Code} (hf : P.funcs[g]? = some fn) (hname : (fn.name == "runtime.NumGoroutine") = false) (hb : fn.body = some code) {us : List Value} {r : Value} {d : VV}
    (h : ∀ w, Calls P g us.toArray w fun e w' => e = .returned r ∧ w = w') (hd : ∀ E, VR E d r) : FnV P G g (us.map .v) d := by
  intro w A args _ ha
  have h1 : args.toList = us := VRs_v ha
  obtain rfl : args = us.toArray := by rw [← h1]
  have hent : (callFunc g us.toArray).run P w = .ok (.enter g us.toArray) w := by
    have h1 : fn.name ≠ "runtime.NumGoroutine" := by simpa using hname
    simp [callFunc, hf, h1, hb]
  unfold FGoes
  rw [hent]
  refine Calls.mono (h w) fun e w' ⟨he, hw⟩ => ⟨r, he, hd _, ?_⟩
  subst hw
  exact Below.refl _ _
theorem mul64_fn {x y : Nat} (hx : x < B64) (hy : y < B64) : FnV Try.prog G0 60 [nI .u64 x, nI .u64 y] (.tup [nI .u64 (x * y / B64 : Nat), nI .u64 (x * y % B64 : Nat)]) :=
  fn_calls (us := [.int .u64 x, .int .u64 y]) (r := .tuple #[.int .u64 (x * y / B64 : Nat), .int .u64 (x * y % B64 : Nat)]) Try.func60 (by kernel_rfl) rfl (fun w => (Try.bits_Mul64 x y hx hy w).mono (by rintro e w' ⟨rfl, rfl⟩; exact ⟨rfl, rfl⟩)) (fun E => by simp [VR, VRs, nI])
theorem mulL_ex : ∃ f : Nat → Nat → Nat, ∀ a b, f a b = a * b % T256 := ⟨_, fun _ _ => rfl⟩
noncomputable def mulL : Nat → Nat → Nat := Classical.choose mulL_ex
theorem mulL_def (a b : Nat) : mulL a b = a * b % T256 := Classical.choose_spec mulL_ex a b
theorem mulH_ex : ∃ f : Nat → Nat → Nat, ∀ a b, f a b = a * b / T256 := ⟨_, fun _ _ => rfl⟩
noncomputable def mulH : Nat → Nat → Nat := Classical.choose mulH_ex
theorem mulH_def (a b : Nat) : mulH a b = a * b / T256 := Classical.choose_spec mulH_ex a b
theorem mulL_lt (a b : Nat) : mulL a b < T256 := by rw [mulL_def]; exact Nat.mod_lt _ (by decide)
theorem mulH_lt {a b : Nat} (ha : a < T256) (hb : b < T256) : mulH a b < T256 := by
  rw [mulH_def]; exact Nat.div_lt_of_lt_mul (Nat.mul_lt_mul'' ha hb)
theorem mstep_le {a b c p : Nat} (hp : p ≤ 18446744073709551615 * 18446744073709551615) (q1 : a ≤ 1) (q2 : b ≤ 1) (o l1 l2 : Nat) (ho : o < B64) (hc : c < B64) (e1 : p % B64 + o = l1 + B64 * a) (e2 : l1 + c = l2 + B64 * b) : p / B64 + a < B64 ∧ p / B64 + a + b < B64 ∧ p + o + c = l2 + B64 * (p / B64 + a + b) := by
  have e0 := Nat.mod_add_div p B64
  simp only [B64] at *
  omega
/-- One step of the product by columns. -/
theorem mstep (x y o c : Nat) (hx : x < B64) (hy : y < B64) (ho : o < B64) (hc : c < B64) :
    ∃ hi lo l1 c1 h1 l2 c2 k : Nat, FnV Try.prog G0 60 [nI .u64 x, nI .u64 y] (.tup [nI .u64 hi, nI .u64 lo]) ∧
      FnV Try.prog G0 42 [nI .u64 lo, nI .u64 o, nI .u64 0] (.tup [nI .u64 l1, nI .u64 c1]) ∧ wS .u64 ((hi : Int) + (c1 : Int)) = h1 ∧
      FnV Try.prog G0 42 [nI .u64 l1, nI .u64 c, nI .u64 0] (.tup [nI .u64 l2, nI .u64 c2]) ∧ wS .u64 ((h1 : Int) + (c2 : Int)) = k ∧
      l2 < B64 ∧ k < B64 ∧ x * y + o + c = l2 + B64 * k := by
  have hp : x * y ≤ 18446744073709551615 * 18446744073709551615 := Nat.mul_le_mul (by unfold B64 at hx; omega) (by unfold B64 at hy; omega)
  have e1 := acc_car (x * y % B64) o 0
  have e2 := acc_car (acc (x * y % B64) o 0) c 0
  have q1 := car_le (x := x * y % B64) (y := o) (c := 0) (Nat.mod_lt _ (by decide)) ho (by omega)
  have q2 := car_le (x := acc (x * y % B64) o 0) (y := c) (c := 0) (acc_lt _ _ _) hc (by omega)
  obtain ⟨s1, s2, s3⟩ := mstep_le hp q1 q2 o _ _ ho hc e1 e2
  have w : ∀ a b : Nat, a + b < B64 → wS .u64 ((a : Int) + (b : Int)) = ((a + b : Nat) : Int) := fun a b h => by
    rw [ws_u64n (by omega) (by unfold B64 at h; omega)]; omega
  exact ⟨_, _, _, _, _, _, _, _, mul64_fn hx hy, add64_fn (c := 0) (by omega), w _ _ s1, add64_fn (c := 0) (by omega), w _ _ s2, acc_lt _ _ _, s2, s3⟩
theorem mul_val4 {a0 a1 a2 a3 b0 b1 b2 b3 o00 k00 o01 k01 o02 k02 o03 k03 o10 k10 o11 k11 o12 k12 o13 k13 o20 k20 o21 k21 o22 k22 o23 k23 o30 k30 o31 k31 o32 k32 o33 k33 : Nat}
    (l0 : o00 < B64) (l1 : o10 < B64) (l2 : o20 < B64) (l3 : o30 < B64)
    (e00 : a0 * b0 + 0 + 0 = o00 + B64 * k00)
    (e01 : a0 * b1 + 0 + k00 = o01 + B64 * k01)
    (e02 : a0 * b2 + 0 + k01 = o02 + B64 * k02)
    (e03 : a0 * b3 + 0 + k02 = o03 + B64 * k03)
    (e10 : a1 * b0 + o01 + 0 = o10 + B64 * k10)
    (e11 : a1 * b1 + o02 + k10 = o11 + B64 * k11)
    (e12 : a1 * b2 + o03 + k11 = o12 + B64 * k12)
    (e13 : a1 * b3 + k03 + k12 = o13 + B64 * k13)
    (e20 : a2 * b0 + o11 + 0 = o20 + B64 * k20)
    (e21 : a2 * b1 + o12 + k20 = o21 + B64 * k21)
    (e22 : a2 * b2 + o13 + k21 = o22 + B64 * k22)
    (e23 : a2 * b3 + k13 + k22 = o23 + B64 * k23)
    (e30 : a3 * b0 + o21 + 0 = o30 + B64 * k30)
    (e31 : a3 * b1 + o22 + k30 = o31 + B64 * k31)
    (e32 : a3 * b2 + o23 + k31 = o32 + B64 * k32)
    (e33 : a3 * b3 + k23 + k32 = o33 + B64 * k33) :
    mulL (val4 a0 a1 a2 a3) (val4 b0 b1 b2 b3) = val4 o00 o10 o20 o30 ∧ mulH (val4 a0 a1 a2 a3) (val4 b0 b1 b2 b3) = val4 o31 o32 o33 k33 := by
  have hl := val4_lt l0 l1 l2 l3
  have e : val4 a0 a1 a2 a3 * val4 b0 b1 b2 b3 = val4 o00 o10 o20 o30 + T256 * val4 o31 o32 o33 k33 := by
    have x : ∀ x y z u a : Nat, val4 x y z u * a = x * a + B64 * (y * a) + B64 * B64 * (z * a) + B64 * B64 * B64 * (u * a) := fun x y z u a => by
      unfold val4; simp only [Nat.add_mul, Nat.mul_assoc]
    have y : ∀ x y z u a : Nat, a * val4 x y z u = a * x + B64 * (a * y) + B64 * B64 * (a * z) + B64 * B64 * B64 * (a * u) := fun x y z u a => by
      unfold val4; simp only [Nat.mul_add, Nat.mul_left_comm a]
    rw [x, y, y, y, y, T256_eq]
    unfold val4
    generalize a0 * b0 = p00 at *
    generalize a0 * b1 = p01 at *
    generalize a0 * b2 = p02 at *
    generalize a0 * b3 = p03 at *
    generalize a1 * b0 = p10 at *
    generalize a1 * b1 = p11 at *
    generalize a1 * b2 = p12 at *
    generalize a1 * b3 = p13 at *
    generalize a2 * b0 = p20 at *
    generalize a2 * b1 = p21 at *
    generalize a2 * b2 = p22 at *
    generalize a2 * b3 = p23 at *
    generalize a3 * b0 = p30 at *
    generalize a3 * b1 = p31 at *
    generalize a3 * b2 = p32 at *
    generalize a3 * b3 = p33 at *
    simp only [B64] at *
    omega
  rw [mulL_def, mulH_def, e]
  refine ⟨by rw [Nat.add_mul_mod_self_left, Nat.mod_eq_of_lt hl], by rw [Nat.add_mul_div_left _ _ (by decide), Nat.div_eq_of_lt hl, Nat.zero_add]⟩

set_option maxHeartbeats 16000000 in
theorem mul_fn4 (a0 a1 a2 a3 b0 b1 b2 b3 : Nat) (ka0 : a0 < B64) (ka1 : a1 < B64) (ka2 : a2 < B64) (ka3 : a3 < B64) (kb0 : b0 < B64) (kb1 : b1 < B64) (kb2 : b2 < B64) (kb3 : b3 < B64) :
    FnV Try.prog G0 41 [.agg (words [a0, a1, a2, a3]), .agg (words [b0, b1, b2, b3])] (.tup [uV (mulL (val4 a0 a1 a2 a3) (val4 b0 b1 b2 b3)), uV (mulH (val4 a0 a1 a2 a3) (val4 b0 b1 b2 b3))]) := by
  refine fn_of_vwp Γok Try.func41 (by kernel_rfl) rfl (by simp [Try.ntmps41]) (wpv_ok Γok (by kernel_rfl) _ _ _ ?_); conv => whnf
  refine vloop_clean G0ok [(1, some 1), (2, some 2), (3, some 3), (4, some 4)] 5 [(16, nI .i64 0), (15, .agg (words [a0, a1, a2, a3])), (6, .ptr 4 0), (5, .ptr 3 0), (4, .ptr 2 0), (3, .ptr 1 0)] [(1, some (words [b0, b1, b2, b3])), (2, some (words [0, 0, 0, 0])), (3, some (words [0, 0, 0, 0])), (4, some (words [0, 0, 0, 0, 0, 0, 0, 0]))] rfl ⟨⟨_, rfl, conv_nI (rfl)⟩, ⟨_, rfl, conv_eq rfl (words_noHs _)⟩, ⟨_, rfl, .ptr rfl⟩, ⟨_, rfl, .ptr rfl⟩, ⟨_, rfl, .ptr rfl⟩, ⟨_, rfl, .ptr rfl⟩, trivial⟩ ⟨.inr ⟨_, _, rfl, rfl, convs_eq rfl (words_noHs _)⟩, .inr ⟨_, _, rfl, rfl, convs_eq rfl (words_noHs _)⟩, .inr ⟨_, _, rfl, rfl, convs_eq rfl (words_noHs _)⟩, .inr ⟨_, _, rfl, rfl, convs_eq rfl (words_noHs _)⟩, trivial⟩ ?_
  refine vloop_unroll ?_
  refine wpv_ok Γok (by kernel_rfl) _ _ _ ?_; conv => whnf
  refine vloop_clean G0ok [(1, some 1), (2, some 2), (3, some 3), (4, some 4)] 5 [(21, nI .i64 0), (20, .agg (words [b0, b1, b2, b3])), (9, nI .u64 (0 : Nat)), (8, nI .u64 (a0 : Nat)), (7, nI .i64 0), (16, nI .i64 0), (15, .agg (words [a0, a1, a2, a3])), (6, .ptr 4 0), (5, .ptr 3 0), (4, .ptr 2 0), (3, .ptr 1 0)] [(1, some (words [b0, b1, b2, b3])), (2, some (words [0, 0, 0, 0])), (3, some (words [0, 0, 0, 0])), (4, some (words [0, 0, 0, 0, 0, 0, 0, 0]))] rfl ⟨⟨_, rfl, conv_nI (rfl)⟩, ⟨_, rfl, conv_eq rfl (words_noHs _)⟩, ⟨_, rfl, conv_nI (rfl)⟩, ⟨_, rfl, conv_nI (rfl)⟩, ⟨_, rfl, conv_nI (rfl)⟩, ⟨_, rfl, conv_nI (rfl)⟩, ⟨_, rfl, conv_eq rfl (words_noHs _)⟩, ⟨_, rfl, .ptr rfl⟩, ⟨_, rfl, .ptr rfl⟩, ⟨_, rfl, .ptr rfl⟩, ⟨_, rfl, .ptr rfl⟩, trivial⟩ ⟨.inr ⟨_, _, rfl, rfl, convs_eq rfl (words_noHs _)⟩, .inr ⟨_, _, rfl, rfl, convs_eq rfl (words_noHs _)⟩, .inr ⟨_, _, rfl, rfl, convs_eq rfl (words_noHs _)⟩, .inr ⟨_, _, rfl, rfl, convs_eq rfl (words_noHs _)⟩, trivial⟩ ?_
  refine vloop_unroll ?_
  refine wpv_ok Γok (by kernel_rfl) _ _ _ ?_; conv => whnf
  obtain ⟨hi, lo, l1, c1, h1, o00, c2, k00, m1, m2, m3, m4, m5, bo00, bk00, e00⟩ := mstep a0 b0 0 0 ka0 kb0 (by decide) (by decide)
  refine ⟨_, ret_of_fn G0ok (m1) (by first | rfl | simp only [noHs, noH, nI, bI, Bool.and_self, Bool.and_true, Bool.true_and, ]) (by first | rfl | simp only [noHs, noH, nI, bI, Bool.and_self, Bool.and_true, Bool.true_and, ]), ?_⟩; (conv => whnf); (try (refine ⟨by kernel_rfl, ?_⟩; conv => whnf))
  rw [ws_i64 (by decide) (by decide)]
  conv => whnf
  try (refine ⟨by kernel_rfl, ?_⟩; conv => whnf)
  refine ⟨_, ret_of_fn G0ok (m2) (by first | rfl | simp only [noHs, noH, nI, bI, Bool.and_self, Bool.and_true, Bool.true_and, ]) (by first | rfl | simp only [noHs, noH, nI, bI, Bool.and_self, Bool.and_true, Bool.true_and, ]), ?_⟩; (conv => whnf); (try (refine ⟨by kernel_rfl, ?_⟩; conv => whnf))
  rw [m3]
  conv => whnf
  try (refine ⟨by kernel_rfl, ?_⟩; conv => whnf)
  refine ⟨_, ret_of_fn G0ok (m4) (by first | rfl | simp only [noHs, noH, nI, bI, Bool.and_self, Bool.and_true, Bool.true_and, ]) (by first | rfl | simp only [noHs, noH, nI, bI, Bool.and_self, Bool.and_true, Bool.true_and, ]), ?_⟩; (conv => whnf); (try (refine ⟨by kernel_rfl, ?_⟩; conv => whnf))
  rw [m5]
  (try rw [ws_i64 (by decide) (by decide)])
  conv => whnf
  try (refine ⟨by kernel_rfl, ?_⟩; conv => whnf)
  clear m1 m2 m3 m4 m5
  refine vloop_clean G0ok [(1, some 1), (2, some 2), (3, some 3), (4, some 4)] 5 [(21, nI .i64 1), (20, .agg (words [b0, b1, b2, b3])), (9, nI .u64 (k00 : Nat)), (8, nI .u64 (a0 : Nat)), (7, nI .i64 0), (16, nI .i64 0), (15, .agg (words [a0, a1, a2, a3])), (6, .ptr 4 0), (5, .ptr 3 0), (4, .ptr 2 0), (3, .ptr 1 0)] [(1, some (words [b0, b1, b2, b3])), (2, some (words [0, 0, 0, 0])), (3, some (words [0, 0, 0, 0])), (4, some (words [o00, 0, 0, 0, 0, 0, 0, 0]))] rfl ⟨⟨_, rfl, conv_nI (ws_i64 (by decide) (by decide))⟩, ⟨_, rfl, conv_eq rfl (words_noHs _)⟩, ⟨_, rfl, conv_nI (rfl)⟩, ⟨_, rfl, conv_nI (rfl)⟩, ⟨_, rfl, conv_nI (rfl)⟩, ⟨_, rfl, conv_nI (rfl)⟩, ⟨_, rfl, conv_eq rfl (words_noHs _)⟩, ⟨_, rfl, .ptr rfl⟩, ⟨_, rfl, .ptr rfl⟩, ⟨_, rfl, .ptr rfl⟩, ⟨_, rfl, .ptr rfl⟩, trivial⟩ ⟨.inr ⟨_, _, rfl, rfl, convs_eq rfl (words_noHs _)⟩, .inr ⟨_, _, rfl, rfl, convs_eq rfl (words_noHs _)⟩, .inr ⟨_, _, rfl, rfl, convs_eq rfl (words_noHs _)⟩, .inr ⟨_, _, rfl, rfl, convs_eq rfl (words_noHs _)⟩, trivial⟩ ?_
  refine vloop_unroll ?_
  refine wpv_ok Γok (by kernel_rfl) _ _ _ ?_; conv => whnf
  obtain ⟨hi, lo, l1, c1, h1, o01, c2, k01, m1, m2, m3, m4, m5, bo01, bk01, e01⟩ := mstep a0 b1 0 k00 ka0 kb1 (by decide) bk00
  refine ⟨_, ret_of_fn G0ok (m1) (by first | rfl | simp only [noHs, noH, nI, bI, Bool.and_self, Bool.and_true, Bool.true_and, ]) (by first | rfl | simp only [noHs, noH, nI, bI, Bool.and_self, Bool.and_true, Bool.true_and, ]), ?_⟩; (conv => whnf); (try (refine ⟨by kernel_rfl, ?_⟩; conv => whnf))
  rw [ws_i64 (by decide) (by decide)]
  conv => whnf
  try (refine ⟨by kernel_rfl, ?_⟩; conv => whnf)
  refine ⟨_, ret_of_fn G0ok (m2) (by first | rfl | simp only [noHs, noH, nI, bI, Bool.and_self, Bool.and_true, Bool.true_and, ]) (by first | rfl | simp only [noHs, noH, nI, bI, Bool.and_self, Bool.and_true, Bool.true_and, ]), ?_⟩; (conv => whnf); (try (refine ⟨by kernel_rfl, ?_⟩; conv => whnf))
  rw [m3]
  conv => whnf
  try (refine ⟨by kernel_rfl, ?_⟩; conv => whnf)
  refine ⟨_, ret_of_fn G0ok (m4) (by first | rfl | simp only [noHs, noH, nI, bI, Bool.and_self, Bool.and_true, Bool.true_and, ]) (by first | rfl | simp only [noHs, noH, nI, bI, Bool.and_self, Bool.and_true, Bool.true_and, ]), ?_⟩; (conv => whnf); (try (refine ⟨by kernel_rfl, ?_⟩; conv => whnf))
  rw [m5]
  (try rw [ws_i64 (by decide) (by decide)])
  conv => whnf
  try (refine ⟨by kernel_rfl, ?_⟩; conv => whnf)
  clear m1 m2 m3 m4 m5
  refine vloop_clean G0ok [(1, some 1), (2, some 2), (3, some 3), (4, some 4)] 5 [(21, nI .i64 2), (20, .agg (words [b0, b1, b2, b3])), (9, nI .u64 (k01 : Nat)), (8, nI .u64 (a0 : Nat)), (7, nI .i64 0), (16, nI .i64 0), (15, .agg (words [a0, a1, a2, a3])), (6, .ptr 4 0), (5, .ptr 3 0), (4, .ptr 2 0), (3, .ptr 1 0)] [(1, some (words [b0, b1, b2, b3])), (2, some (words [0, 0, 0, 0])), (3, some (words [0, 0, 0, 0])), (4, some (words [o00, o01, 0, 0, 0, 0, 0, 0]))] rfl ⟨⟨_, rfl, conv_nI (ws_i64 (by decide) (by decide))⟩, ⟨_, rfl, conv_eq rfl (words_noHs _)⟩, ⟨_, rfl, conv_nI (rfl)⟩, ⟨_, rfl, conv_nI (rfl)⟩, ⟨_, rfl, conv_nI (rfl)⟩, ⟨_, rfl, conv_nI (rfl)⟩, ⟨_, rfl, conv_eq rfl (words_noHs _)⟩, ⟨_, rfl, .ptr rfl⟩, ⟨_, rfl, .ptr rfl⟩, ⟨_, rfl, .ptr rfl⟩, ⟨_, rfl, .ptr rfl⟩, trivial⟩ ⟨.inr ⟨_, _, rfl, rfl, convs_eq rfl (words_noHs _)⟩, .inr ⟨_, _, rfl, rfl, convs_eq rfl (words_noHs _)⟩, .inr ⟨_, _, rfl, rfl, convs_eq rfl (words_noHs _)⟩, .inr ⟨_, _, rfl, rfl, convs_eq rfl (words_noHs _)⟩, trivial⟩ ?_
  refine vloop_unroll ?_
  refine wpv_ok Γok (by kernel_rfl) _ _ _ ?_; conv => whnf
  obtain ⟨hi, lo, l1, c1, h1, o02, c2, k02, m1, m2, m3, m4, m5, bo02, bk02, e02⟩ := mstep a0 b2 0 k01 ka0 kb2 (by decide) bk01
  refine ⟨_, ret_of_fn G0ok (m1) (by first | rfl | simp only [noHs, noH, nI, bI, Bool.and_self, Bool.and_true, Bool.true_and, ]) (by first | rfl | simp only [noHs, noH, nI, bI, Bool.and_self, Bool.and_true, Bool.true_and, ]), ?_⟩; (conv => whnf); (try (refine ⟨by kernel_rfl, ?_⟩; conv => whnf))
  rw [ws_i64 (by decide) (by decide)]
  conv => whnf
  try (refine ⟨by kernel_rfl, ?_⟩; conv => whnf)
  refine ⟨_, ret_of_fn G0ok (m2) (by first | rfl | simp only [noHs, noH, nI, bI, Bool.and_self, Bool.and_true, Bool.true_and, ]) (by first | rfl | simp only [noHs, noH, nI, bI, Bool.and_self, Bool.and_true, Bool.true_and, ]), ?_⟩; (conv => whnf); (try (refine ⟨by kernel_rfl, ?_⟩; conv => whnf))
  rw [m3]
  conv => whnf
  try (refine ⟨by kernel_rfl, ?_⟩; conv => whnf)
  refine ⟨_, ret_of_fn G0ok (m4) (by first | rfl | simp only [noHs, noH, nI, bI, Bool.and_self, Bool.and_true, Bool.true_and, ]) (by first | rfl | simp only [noHs, noH, nI, bI, Bool.and_self, Bool.and_true, Bool.true_and, ]), ?_⟩; (conv => whnf); (try (refine ⟨by kernel_rfl, ?_⟩; conv => whnf))
  rw [m5]
  (try rw [ws_i64 (by decide) (by decide)])
  conv => whnf
  try (refine ⟨by kernel_rfl, ?_⟩; conv => whnf)
  clear m1 m2 m3 m4 m5
  refine vloop_clean G0ok [(1, some 1), (2, some 2), (3, some 3), (4, some 4)] 5 [(21, nI .i64 3), (20, .agg (words [b0, b1, b2, b3])), (9, nI .u64 (k02 : Nat)), (8, nI .u64 (a0 : Nat)), (7, nI .i64 0), (16, nI .i64 0), (15, .agg (words [a0, a1, a2, a3])), (6, .ptr 4 0), (5, .ptr 3 0), (4, .ptr 2 0), (3, .ptr 1 0)] [(1, some (words [b0, b1, b2, b3])), (2, some (words [0, 0, 0, 0])), (3, some (words [0, 0, 0, 0])), (4, some (words [o00, o01, o02, 0, 0, 0, 0, 0]))] rfl ⟨⟨_, rfl, conv_nI (ws_i64 (by decide) (by decide))⟩, ⟨_, rfl, conv_eq rfl (words_noHs _)⟩, ⟨_, rfl, conv_nI (rfl)⟩, ⟨_, rfl, conv_nI (rfl)⟩, ⟨_, rfl, conv_nI (rfl)⟩, ⟨_, rfl, conv_nI (rfl)⟩, ⟨_, rfl, conv_eq rfl (words_noHs _)⟩, ⟨_, rfl, .ptr rfl⟩, ⟨_, rfl, .ptr rfl⟩, ⟨_, rfl, .ptr rfl⟩, ⟨_, rfl, .ptr rfl⟩, trivial⟩ ⟨.inr ⟨_, _, rfl, rfl, convs_eq rfl (words_noHs _)⟩, .inr ⟨_, _, rfl, rfl, convs_eq rfl (words_noHs _)⟩, .inr ⟨_, _, rfl, rfl, convs_eq rfl (words_noHs _)⟩, .inr ⟨_, _, rfl, rfl, convs_eq rfl (words_noHs _)⟩, trivial⟩ ?_
  refine vloop_unroll ?_
  refine wpv_ok Γok (by kernel_rfl) _ _ _ ?_; conv => whnf
  obtain ⟨hi, lo, l1, c1, h1, o03, c2, k03, m1, m2, m3, m4, m5, bo03, bk03, e03⟩ := mstep a0 b3 0 k02 ka0 kb3 (by decide) bk02
  refine ⟨_, ret_of_fn G0ok (m1) (by first | rfl | simp only [noHs, noH, nI, bI, Bool.and_self, Bool.and_true, Bool.true_and, ]) (by first | rfl | simp only [noHs, noH, nI, bI, Bool.and_self, Bool.and_true, Bool.true_and, ]), ?_⟩; (conv => whnf); (try (refine ⟨by kernel_rfl, ?_⟩; conv => whnf))
  rw [ws_i64 (by decide) (by decide)]
  conv => whnf
  try (refine ⟨by kernel_rfl, ?_⟩; conv => whnf)
  refine ⟨_, ret_of_fn G0ok (m2) (by first | rfl | simp only [noHs, noH, nI, bI, Bool.and_self, Bool.and_true, Bool.true_and, ]) (by first | rfl | simp only [noHs, noH, nI, bI, Bool.and_self, Bool.and_true, Bool.true_and, ]), ?_⟩; (conv => whnf); (try (refine ⟨by kernel_rfl, ?_⟩; conv => whnf))
  rw [m3]
  conv => whnf
  try (refine ⟨by kernel_rfl, ?_⟩; conv => whnf)
  refine ⟨_, ret_of_fn G0ok (m4) (by first | rfl | simp only [noHs, noH, nI, bI, Bool.and_self, Bool.and_true, Bool.true_and, ]) (by first | rfl | simp only [noHs, noH, nI, bI, Bool.and_self, Bool.and_true, Bool.true_and, ]), ?_⟩; (conv => whnf); (try (refine ⟨by kernel_rfl, ?_⟩; conv => whnf))
  rw [m5]
  (try rw [ws_i64 (by decide) (by decide)])
  conv => whnf
  try (refine ⟨by kernel_rfl, ?_⟩; conv => whnf)
  clear m1 m2 m3 m4 m5
  refine vloop_unroll ?_
  refine wpv_ok Γok (by kernel_rfl) _ _ _ ?_; conv => whnf
  rw [ws_i64 (by decide) (by decide)]
  conv => whnf
  try (refine ⟨by kernel_rfl, ?_⟩; conv => whnf)
  rw [ws_i64 (by decide) (by decide)]
  conv => whnf
  try (refine ⟨by kernel_rfl, ?_⟩; conv => whnf)
  refine vloop_clean G0ok [(1, some 1), (2, some 2), (3, some 3), (4, some 4)] 5 [(16, nI .i64 1), (15, .agg (words [a0, a1, a2, a3])), (6, .ptr 4 0), (5, .ptr 3 0), (4, .ptr 2 0), (3, .ptr 1 0)] [(1, some (words [b0, b1, b2, b3])), (2, some (words [0, 0, 0, 0])), (3, some (words [0, 0, 0, 0])), (4, some (words [o00, o01, o02, o03, k03, 0, 0, 0]))] rfl ⟨⟨_, rfl, conv_nI (ws_i64 (by decide) (by decide))⟩, ⟨_, rfl, conv_eq rfl (words_noHs _)⟩, ⟨_, rfl, .ptr rfl⟩, ⟨_, rfl, .ptr rfl⟩, ⟨_, rfl, .ptr rfl⟩, ⟨_, rfl, .ptr rfl⟩, trivial⟩ ⟨.inr ⟨_, _, rfl, rfl, convs_eq rfl (words_noHs _)⟩, .inr ⟨_, _, rfl, rfl, convs_eq rfl (words_noHs _)⟩, .inr ⟨_, _, rfl, rfl, convs_eq rfl (words_noHs _)⟩, .inr ⟨_, _, rfl, rfl, convs_eq rfl (words_noHs _)⟩, trivial⟩ ?_
  refine vloop_unroll ?_
  refine wpv_ok Γok (by kernel_rfl) _ _ _ ?_; conv => whnf
  refine vloop_clean G0ok [(1, some 1), (2, some 2), (3, some 3), (4, some 4)] 5 [(21, nI .i64 0), (20, .agg (words [b0, b1, b2, b3])), (9, nI .u64 (0 : Nat)), (8, nI .u64 (a1 : Nat)), (7, nI .i64 1), (16, nI .i64 1), (15, .agg (words [a0, a1, a2, a3])), (6, .ptr 4 0), (5, .ptr 3 0), (4, .ptr 2 0), (3, .ptr 1 0)] [(1, some (words [b0, b1, b2, b3])), (2, some (words [0, 0, 0, 0])), (3, some (words [0, 0, 0, 0])), (4, some (words [o00, o01, o02, o03, k03, 0, 0, 0]))] rfl ⟨⟨_, rfl, conv_nI (rfl)⟩, ⟨_, rfl, conv_eq rfl (words_noHs _)⟩, ⟨_, rfl, conv_nI (rfl)⟩, ⟨_, rfl, conv_nI (rfl)⟩, ⟨_, rfl, conv_nI (rfl)⟩, ⟨_, rfl, conv_nI (rfl)⟩, ⟨_, rfl, conv_eq rfl (words_noHs _)⟩, ⟨_, rfl, .ptr rfl⟩, ⟨_, rfl, .ptr rfl⟩, ⟨_, rfl, .ptr rfl⟩, ⟨_, rfl, .ptr rfl⟩, trivial⟩ ⟨.inr ⟨_, _, rfl, rfl, convs_eq rfl (words_noHs _)⟩, .inr ⟨_, _, rfl, rfl, convs_eq rfl (words_noHs _)⟩, .inr ⟨_, _, rfl, rfl, convs_eq rfl (words_noHs _)⟩, .inr ⟨_, _, rfl, rfl, convs_eq rfl (words_noHs _)⟩, trivial⟩ ?_
  refine vloop_unroll ?_
  refine wpv_ok Γok (by kernel_rfl) _ _ _ ?_; conv => whnf
  obtain ⟨hi, lo, l1, c1, h1, o10, c2, k10, m1, m2, m3, m4, m5, bo10, bk10, e10⟩ := mstep a1 b0 o01 0 ka1 kb0 bo01 (by decide)
  refine ⟨_, ret_of_fn G0ok (m1) (by first | rfl | simp only [noHs, noH, nI, bI, Bool.and_self, Bool.and_true, Bool.true_and, ]) (by first | rfl | simp only [noHs, noH, nI, bI, Bool.and_self, Bool.and_true, Bool.true_and, ]), ?_⟩; (conv => whnf); (try (refine ⟨by kernel_rfl, ?_⟩; conv => whnf))
  rw [ws_i64 (by decide) (by decide)]
  conv => whnf
  try (refine ⟨by kernel_rfl, ?_⟩; conv => whnf)
  refine ⟨_, ret_of_fn G0ok (m2) (by first | rfl | simp only [noHs, noH, nI, bI, Bool.and_self, Bool.and_true, Bool.true_and, ]) (by first | rfl | simp only [noHs, noH, nI, bI, Bool.and_self, Bool.and_true, Bool.true_and, ]), ?_⟩; (conv => whnf); (try (refine ⟨by kernel_rfl, ?_⟩; conv => whnf))
  rw [m3]
  conv => whnf
  try (refine ⟨by kernel_rfl, ?_⟩; conv => whnf)
  refine ⟨_, ret_of_fn G0ok (m4) (by first | rfl | simp only [noHs, noH, nI, bI, Bool.and_self, Bool.and_true, Bool.true_and, ]) (by first | rfl | simp only [noHs, noH, nI, bI, Bool.and_self, Bool.and_true, Bool.true_and, ]), ?_⟩; (conv => whnf); (try (refine ⟨by kernel_rfl, ?_⟩; conv => whnf))
  rw [m5]
  (try rw [ws_i64 (by decide) (by decide)])
  conv => whnf
  try (refine ⟨by kernel_rfl, ?_⟩; conv => whnf)
  clear m1 m2 m3 m4 m5
  refine vloop_clean G0ok [(1, some 1), (2, some 2), (3, some 3), (4, some 4)] 5 [(21, nI .i64 1), (20, .agg (words [b0, b1, b2, b3])), (9, nI .u64 (k10 : Nat)), (8, nI .u64 (a1 : Nat)), (7, nI .i64 1), (16, nI .i64 1), (15, .agg (words [a0, a1, a2, a3])), (6, .ptr 4 0), (5, .ptr 3 0), (4, .ptr 2 0), (3, .ptr 1 0)] [(1, some (words [b0, b1, b2, b3])), (2, some (words [0, 0, 0, 0])), (3, some (words [0, 0, 0, 0])), (4, some (words [o00, o10, o02, o03, k03, 0, 0, 0]))] rfl ⟨⟨_, rfl, conv_nI (ws_i64 (by decide) (by decide))⟩, ⟨_, rfl, conv_eq rfl (words_noHs _)⟩, ⟨_, rfl, conv_nI (rfl)⟩, ⟨_, rfl, conv_nI (rfl)⟩, ⟨_, rfl, conv_nI (rfl)⟩, ⟨_, rfl, conv_nI (rfl)⟩, ⟨_, rfl, conv_eq rfl (words_noHs _)⟩, ⟨_, rfl, .ptr rfl⟩, ⟨_, rfl, .ptr rfl⟩, ⟨_, rfl, .ptr rfl⟩, ⟨_, rfl, .ptr rfl⟩, trivial⟩ ⟨.inr ⟨_, _, rfl, rfl, convs_eq rfl (words_noHs _)⟩, .inr ⟨_, _, rfl, rfl, convs_eq rfl (words_noHs _)⟩, .inr ⟨_, _, rfl, rfl, convs_eq rfl (words_noHs _)⟩, .inr ⟨_, _, rfl, rfl, convs_eq rfl (words_noHs _)⟩, trivial⟩ ?_
  refine vloop_unroll ?_
  refine wpv_ok Γok (by kernel_rfl) _ _ _ ?_; conv => whnf
  obtain ⟨hi, lo, l1, c1, h1, o11, c2, k11, m1, m2, m3, m4, m5, bo11, bk11, e11⟩ := mstep a1 b1 o02 k10 ka1 kb1 bo02 bk10
  refine ⟨_, ret_of_fn G0ok (m1) (by first | rfl | simp only [noHs, noH, nI, bI, Bool.and_self, Bool.and_true, Bool.true_and, ]) (by first | rfl | simp only [noHs, noH, nI, bI, Bool.and_self, Bool.and_true, Bool.true_and, ]), ?_⟩; (conv => whnf); (try (refine ⟨by kernel_rfl, ?_⟩; conv => whnf))
  rw [ws_i64 (by decide) (by decide)]
  conv => whnf
  try (refine ⟨by kernel_rfl, ?_⟩; conv => whnf)
  refine ⟨_, ret_of_fn G0ok (m2) (by first | rfl | simp only [noHs, noH, nI, bI, Bool.and_self, Bool.and_true, Bool.true_and, ]) (by first | rfl | simp only [noHs, noH, nI, bI, Bool.and_self, Bool.and_true, Bool.true_and, ]), ?_⟩; (conv => whnf); (try (refine ⟨by kernel_rfl, ?_⟩; conv => whnf))
  rw [m3]
  conv => whnf
  try (refine ⟨by kernel_rfl, ?_⟩; conv => whnf)
  refine ⟨_, ret_of_fn G0ok (m4) (by first | rfl | simp only [noHs, noH, nI, bI, Bool.and_self, Bool.and_true, Bool.true_and, ]) (by first | rfl | simp only [noHs, noH, nI, bI, Bool.and_self, Bool.and_true, Bool.true_and, ]), ?_⟩; (conv => whnf); (try (refine ⟨by kernel_rfl, ?_⟩; conv => whnf))
  rw [m5]
  (try rw [ws_i64 (by decide) (by decide)])
  conv => whnf
  try (refine ⟨by kernel_rfl, ?_⟩; conv => whnf)
  clear m1 m2 m3 m4 m5
  refine vloop_clean G0ok [(1, some 1), (2, some 2), (3, some 3), (4, some 4)] 5 [(21, nI .i64 2), (20, .agg (words [b0, b1, b2, b3])), (9, nI .u64 (k11 : Nat)), (8, nI .u64 (a1 : Nat)), (7, nI .i64 1), (16, nI .i64 1), (15, .agg (words [a0, a1, a2, a3])), (6, .ptr 4 0), (5, .ptr 3 0), (4, .ptr 2 0), (3, .ptr 1 0)] [(1, some (words [b0, b1, b2, b3])), (2, some (words [0, 0, 0, 0])), (3, some (words [0, 0, 0, 0])), (4, some (words [o00, o10, o11, o03, k03, 0, 0, 0]))] rfl ⟨⟨_, rfl, conv_nI (ws_i64 (by decide) (by decide))⟩, ⟨_, rfl, conv_eq rfl (words_noHs _)⟩, ⟨_, rfl, conv_nI (rfl)⟩, ⟨_, rfl, conv_nI (rfl)⟩, ⟨_, rfl, conv_nI (rfl)⟩, ⟨_, rfl, conv_nI (rfl)⟩, ⟨_, rfl, conv_eq rfl (words_noHs _)⟩, ⟨_, rfl, .ptr rfl⟩, ⟨_, rfl, .ptr rfl⟩, ⟨_, rfl, .ptr rfl⟩, ⟨_, rfl, .ptr rfl⟩, trivial⟩ ⟨.inr ⟨_, _, rfl, rfl, convs_eq rfl (words_noHs _)⟩, .inr ⟨_, _, rfl, rfl, convs_eq rfl (words_noHs _)⟩, .inr ⟨_, _, rfl, rfl, convs_eq rfl (words_noHs _)⟩, .inr ⟨_, _, rfl, rfl, convs_eq rfl (words_noHs _)⟩, trivial⟩ ?_
  refine vloop_unroll ?_
  refine wpv_ok Γok (by kernel_rfl) _ _ _ ?_; conv => whnf
  obtain ⟨hi, lo, l1, c1, h1, o12, c2, k12, m1, m2, m3, m4, m5, bo12, bk12, e12⟩ := mstep a1 b2 o03 k11 ka1 kb2 bo03 bk11
  refine ⟨_, ret_of_fn G0ok (m1) (by first | rfl | simp only [noHs, noH, nI, bI, Bool.and_self, Bool.and_true, Bool.true_and, ]) (by first | rfl | simp only [noHs, noH, nI, bI, Bool.and_self, Bool.and_true, Bool.true_and, ]), ?_⟩; (conv => whnf); (try (refine ⟨by kernel_rfl, ?_⟩; conv => whnf))
  rw [ws_i64 (by decide) (by decide)]
  conv => whnf
  try (refine ⟨by kernel_rfl, ?_⟩; conv => whnf)
  refine ⟨_, ret_of_fn G0ok (m2) (by first | rfl | simp only [noHs, noH, nI, bI, Bool.and_self, Bool.and_true, Bool.true_and, ]) (by first | rfl | simp only [noHs, noH, nI, bI, Bool.and_self, Bool.and_true, Bool.true_and, ]), ?_⟩; (conv => whnf); (try (refine ⟨by kernel_rfl, ?_⟩; conv => whnf))
  rw [m3]
  conv => whnf
  try (refine ⟨by kernel_rfl, ?_⟩; conv => whnf)
  refine ⟨_, ret_of_fn G0ok (m4) (by first | rfl | simp only [noHs, noH, nI, bI, Bool.and_self, Bool.and_true, Bool.true_and, ]) (by first | rfl | simp only [noHs, noH, nI, bI, Bool.and_self, Bool.and_true, Bool.true_and, ]), ?_⟩; (conv => whnf); (try (refine ⟨by kernel_rfl, ?_⟩; conv => whnf))
  rw [m5]
  (try rw [ws_i64 (by decide) (by decide)])
  conv => whnf
  try (refine ⟨by kernel_rfl, ?_⟩; conv => whnf)
  clear m1 m2 m3 m4 m5
  refine vloop_clean G0ok [(1, some 1), (2, some 2), (3, some 3), (4, some 4)] 5 [(21, nI .i64 3), (20, .agg (words [b0, b1, b2, b3])), (9, nI .u64 (k12 : Nat)), (8, nI .u64 (a1 : Nat)), (7, nI .i64 1), (16, nI .i64 1), (15, .agg (words [a0, a1, a2, a3])), (6, .ptr 4 0), (5, .ptr 3 0), (4, .ptr 2 0), (3, .ptr 1 0)] [(1, some (words [b0, b1, b2, b3])), (2, some (words [0, 0, 0, 0])), (3, some (words [0, 0, 0, 0])), (4, some (words [o00, o10, o11, o12, k03, 0, 0, 0]))] rfl ⟨⟨_, rfl, conv_nI (ws_i64 (by decide) (by decide))⟩, ⟨_, rfl, conv_eq rfl (words_noHs _)⟩, ⟨_, rfl, conv_nI (rfl)⟩, ⟨_, rfl, conv_nI (rfl)⟩, ⟨_, rfl, conv_nI (rfl)⟩, ⟨_, rfl, conv_nI (rfl)⟩, ⟨_, rfl, conv_eq rfl (words_noHs _)⟩, ⟨_, rfl, .ptr rfl⟩, ⟨_, rfl, .ptr rfl⟩, ⟨_, rfl, .ptr rfl⟩, ⟨_, rfl, .ptr rfl⟩, trivial⟩ ⟨.inr ⟨_, _, rfl, rfl, convs_eq rfl (words_noHs _)⟩, .inr ⟨_, _, rfl, rfl, convs_eq rfl (words_noHs _)⟩, .inr ⟨_, _, rfl, rfl, convs_eq rfl (words_noHs _)⟩, .inr ⟨_, _, rfl, rfl, convs_eq rfl (words_noHs _)⟩, trivial⟩ ?_
  refine vloop_unroll ?_
  refine wpv_ok Γok (by kernel_rfl) _ _ _ ?_; conv => whnf
  obtain ⟨hi, lo, l1, c1, h1, o13, c2, k13, m1, m2, m3, m4, m5, bo13, bk13, e13⟩ := mstep a1 b3 k03 k12 ka1 kb3 bk03 bk12
  refine ⟨_, ret_of_fn G0ok (m1) (by first | rfl | simp only [noHs, noH, nI, bI, Bool.and_self, Bool.and_true, Bool.true_and, ]) (by first | rfl | simp only [noHs, noH, nI, bI, Bool.and_self, Bool.and_true, Bool.true_and, ]), ?_⟩; (conv => whnf); (try (refine ⟨by kernel_rfl, ?_⟩; conv => whnf))
  rw [ws_i64 (by decide) (by decide)]
  conv => whnf
  try (refine ⟨by kernel_rfl, ?_⟩; conv => whnf)
  refine ⟨_, ret_of_fn G0ok (m2) (by first | rfl | simp only [noHs, noH, nI, bI, Bool.and_self, Bool.and_true, Bool.true_and, ]) (by first | rfl | simp only [noHs, noH, nI, bI, Bool.and_self, Bool.and_true, Bool.true_and, ]), ?_⟩; (conv => whnf); (try (refine ⟨by kernel_rfl, ?_⟩; conv => whnf))
  rw [m3]
  conv => whnf
  try (refine ⟨by kernel_rfl, ?_⟩; conv => whnf)
  refine ⟨_, ret_of_fn G0ok (m4) (by first | rfl | simp only [noHs, noH, nI, bI, Bool.and_self, Bool.and_true, Bool.true_and, ]) (by first | rfl | simp only [noHs, noH, nI, bI, Bool.and_self, Bool.and_true, Bool.true_and, ]), ?_⟩; (conv => whnf); (try (refine ⟨by kernel_rfl, ?_⟩; conv => whnf))
  rw [m5]
  (try rw [ws_i64 (by decide) (by decide)])
  conv => whnf
  try (refine ⟨by kernel_rfl, ?_⟩; conv => whnf)
  clear m1 m2 m3 m4 m5
  refine vloop_unroll ?_
  refine wpv_ok Γok (by kernel_rfl) _ _ _ ?_; conv => whnf
  rw [ws_i64 (by decide) (by decide)]
  conv => whnf
  try (refine ⟨by kernel_rfl, ?_⟩; conv => whnf)
  rw [ws_i64 (by decide) (by decide)]
  conv => whnf
  try (refine ⟨by kernel_rfl, ?_⟩; conv => whnf)
  refine vloop_clean G0ok [(1, some 1), (2, some 2), (3, some 3), (4, some 4)] 5 [(16, nI .i64 2), (15, .agg (words [a0, a1, a2, a3])), (6, .ptr 4 0), (5, .ptr 3 0), (4, .ptr 2 0), (3, .ptr 1 0)] [(1, some (words [b0, b1, b2, b3])), (2, some (words [0, 0, 0, 0])), (3, some (words [0, 0, 0, 0])), (4, some (words [o00, o10, o11, o12, o13, k13, 0, 0]))] rfl ⟨⟨_, rfl, conv_nI (ws_i64 (by decide) (by decide))⟩, ⟨_, rfl, conv_eq rfl (words_noHs _)⟩, ⟨_, rfl, .ptr rfl⟩, ⟨_, rfl, .ptr rfl⟩, ⟨_, rfl, .ptr rfl⟩, ⟨_, rfl, .ptr rfl⟩, trivial⟩ ⟨.inr ⟨_, _, rfl, rfl, convs_eq rfl (words_noHs _)⟩, .inr ⟨_, _, rfl, rfl, convs_eq rfl (words_noHs _)⟩, .inr ⟨_, _, rfl, rfl, convs_eq rfl (words_noHs _)⟩, .inr ⟨_, _, rfl, rfl, convs_eq rfl (words_noHs _)⟩, trivial⟩ ?_
  refine vloop_unroll ?_
  refine wpv_ok Γok (by kernel_rfl) _ _ _ ?_; conv => whnf
  refine vloop_clean G0ok [(1, some 1), (2, some 2), (3, some 3), (4, some 4)] 5 [(21, nI .i64 0), (20, .agg (words [b0, b1, b2, b3])), (9, nI .u64 (0 : Nat)), (8, nI .u64 (a2 : Nat)), (7, nI .i64 2), (16, nI .i64 2), (15, .agg (words [a0, a1, a2, a3])), (6, .ptr 4 0), (5, .ptr 3 0), (4, .ptr 2 0), (3, .ptr 1 0)] [(1, some (words [b0, b1, b2, b3])), (2, some (words [0, 0, 0, 0])), (3, some (words [0, 0, 0, 0])), (4, some (words [o00, o10, o11, o12, o13, k13, 0, 0]))] rfl ⟨⟨_, rfl, conv_nI (rfl)⟩, ⟨_, rfl, conv_eq rfl (words_noHs _)⟩, ⟨_, rfl, conv_nI (rfl)⟩, ⟨_, rfl, conv_nI (rfl)⟩, ⟨_, rfl, conv_nI (rfl)⟩, ⟨_, rfl, conv_nI (rfl)⟩, ⟨_, rfl, conv_eq rfl (words_noHs _)⟩, ⟨_, rfl, .ptr rfl⟩, ⟨_, rfl, .ptr rfl⟩, ⟨_, rfl, .ptr rfl⟩, ⟨_, rfl, .ptr rfl⟩, trivial⟩ ⟨.inr ⟨_, _, rfl, rfl, convs_eq rfl (words_noHs _)⟩, .inr ⟨_, _, rfl, rfl, convs_eq rfl (words_noHs _)⟩, .inr ⟨_, _, rfl, rfl, convs_eq rfl (words_noHs _)⟩, .inr ⟨_, _, rfl, rfl, convs_eq rfl (words_noHs _)⟩, trivial⟩ ?_
  refine vloop_unroll ?_
  refine wpv_ok Γok (by kernel_rfl) _ _ _ ?_; conv => whnf
  obtain ⟨hi, lo, l1, c1, h1, o20, c2, k20, m1, m2, m3, m4, m5, bo20, bk20, e20⟩ := mstep a2 b0 o11 0 ka2 kb0 bo11 (by decide)
  refine ⟨_, ret_of_fn G0ok (m1) (by first | rfl | simp only [noHs, noH, nI, bI, Bool.and_self, Bool.and_true, Bool.true_and, ]) (by first | rfl | simp only [noHs, noH, nI, bI, Bool.and_self, Bool.and_true, Bool.true_and, ]), ?_⟩; (conv => whnf); (try (refine ⟨by kernel_rfl, ?_⟩; conv => whnf))
  rw [ws_i64 (by decide) (by decide)]
  conv => whnf
  try (refine ⟨by kernel_rfl, ?_⟩; conv => whnf)
  refine ⟨_, ret_of_fn G0ok (m2) (by first | rfl | simp only [noHs, noH, nI, bI, Bool.and_self, Bool.and_true, Bool.true_and, ]) (by first | rfl | simp only [noHs, noH, nI, bI, Bool.and_self, Bool.and_true, Bool.true_and, ]), ?_⟩; (conv => whnf); (try (refine ⟨by kernel_rfl, ?_⟩; conv => whnf))
  rw [m3]
  conv => whnf
  try (refine ⟨by kernel_rfl, ?_⟩; conv => whnf)
  refine ⟨_, ret_of_fn G0ok (m4) (by first | rfl | simp only [noHs, noH, nI, bI, Bool.and_self, Bool.and_true, Bool.true_and, ]) (by first | rfl | simp only [noHs, noH, nI, bI, Bool.and_self, Bool.and_true, Bool.true_and, ]), ?_⟩; (conv => whnf); (try (refine ⟨by kernel_rfl, ?_⟩; conv => whnf))
  rw [m5]
  (try rw [ws_i64 (by decide) (by decide)])
  conv => whnf
  try (refine ⟨by kernel_rfl, ?_⟩; conv => whnf)
  clear m1 m2 m3 m4 m5
  refine vloop_clean G0ok [(1, some 1), (2, some 2), (3, some 3), (4, some 4)] 5 [(21, nI .i64 1), (20, .agg (words [b0, b1, b2, b3])), (9, nI .u64 (k20 : Nat)), (8, nI .u64 (a2 : Nat)), (7, nI .i64 2), (16, nI .i64 2), (15, .agg (words [a0, a1, a2, a3])), (6, .ptr 4 0), (5, .ptr 3 0), (4, .ptr 2 0), (3, .ptr 1 0)] [(1, some (words [b0, b1, b2, b3])), (2, some (words [0, 0, 0, 0])), (3, some (words [0, 0, 0, 0])), (4, some (words [o00, o10, o20, o12, o13, k13, 0, 0]))] rfl ⟨⟨_, rfl, conv_nI (ws_i64 (by decide) (by decide))⟩, ⟨_, rfl, conv_eq rfl (words_noHs _)⟩, ⟨_, rfl, conv_nI (rfl)⟩, ⟨_, rfl, conv_nI (rfl)⟩, ⟨_, rfl, conv_nI (rfl)⟩, ⟨_, rfl, conv_nI (rfl)⟩, ⟨_, rfl, conv_eq rfl (words_noHs _)⟩, ⟨_, rfl, .ptr rfl⟩, ⟨_, rfl, .ptr rfl⟩, ⟨_, rfl, .ptr rfl⟩, ⟨_, rfl, .ptr rfl⟩, trivial⟩ ⟨.inr ⟨_, _, rfl, rfl, convs_eq rfl (words_noHs _)⟩, .inr ⟨_, _, rfl, rfl, convs_eq rfl (words_noHs _)⟩, .inr ⟨_, _, rfl, rfl, convs_eq rfl (words_noHs _)⟩, .inr ⟨_, _, rfl, rfl, convs_eq rfl (words_noHs _)⟩, trivial⟩ ?_
  refine vloop_unroll ?_
  refine wpv_ok Γok (by kernel_rfl) _ _ _ ?_; conv => whnf
  obtain ⟨hi, lo, l1, c1, h1, o21, c2, k21, m1, m2, m3, m4, m5, bo21, bk21, e21⟩ := mstep a2 b1 o12 k20 ka2 kb1 bo12 bk20
  refine ⟨_, ret_of_fn G0ok (m1) (by first | rfl | simp only [noHs, noH, nI, bI, Bool.and_self, Bool.and_true, Bool.true_and, ]) (by first | rfl | simp only [noHs, noH, nI, bI, Bool.and_self, Bool.and_true, Bool.true_and, ]), ?_⟩; (conv => whnf); (try (refine ⟨by kernel_rfl, ?_⟩; conv => whnf))
  rw [ws_i64 (by decide) (by decide)]
  conv => whnf
  try (refine ⟨by kernel_rfl, ?_⟩; conv => whnf)
  refine ⟨_, ret_of_fn G0ok (m2) (by first | rfl | simp only [noHs, noH, nI, bI, Bool.and_self, Bool.and_true, Bool.true_and, ]) (by first | rfl | simp only [noHs, noH, nI, bI, Bool.and_self, Bool.and_true, Bool.true_and, ]), ?_⟩; (conv => whnf); (try (refine ⟨by kernel_rfl, ?_⟩; conv => whnf))
  rw [m3]
  conv => whnf
  try (refine ⟨by kernel_rfl, ?_⟩; conv => whnf)
  refine ⟨_, ret_of_fn G0ok (m4) (by first | rfl | simp only [noHs, noH, nI, bI, Bool.and_self, Bool.and_true, Bool.true_and, ]) (by first | rfl | simp only [noHs, noH, nI, bI, Bool.and_self, Bool.and_true, Bool.true_and, ]), ?_⟩; (conv => whnf); (try (refine ⟨by kernel_rfl, ?_⟩; conv => whnf))
  rw [m5]
  (try rw [ws_i64 (by decide) (by decide)])
  conv => whnf
  try (refine ⟨by kernel_rfl, ?_⟩; conv => whnf)
  clear m1 m2 m3 m4 m5
  refine vloop_clean G0ok [(1, some 1), (2, some 2), (3, some 3), (4, some 4)] 5 [(21, nI .i64 2), (20, .agg (words [b0, b1, b2, b3])), (9, nI .u64 (k21 : Nat)), (8, nI .u64 (a2 : Nat)), (7, nI .i64 2), (16, nI .i64 2), (15, .agg (words [a0, a1, a2, a3])), (6, .ptr 4 0), (5, .ptr 3 0), (4, .ptr 2 0), (3, .ptr 1 0)] [(1, some (words [b0, b1, b2, b3])), (2, some (words [0, 0, 0, 0])), (3, some (words [0, 0, 0, 0])), (4, some (words [o00, o10, o20, o21, o13, k13, 0, 0]))] rfl ⟨⟨_, rfl, conv_nI (ws_i64 (by decide) (by decide))⟩, ⟨_, rfl, conv_eq rfl (words_noHs _)⟩, ⟨_, rfl, conv_nI (rfl)⟩, ⟨_, rfl, conv_nI (rfl)⟩, ⟨_, rfl, conv_nI (rfl)⟩, ⟨_, rfl, conv_nI (rfl)⟩, ⟨_, rfl, conv_eq rfl (words_noHs _)⟩, ⟨_, rfl, .ptr rfl⟩, ⟨_, rfl, .ptr rfl⟩, ⟨_, rfl, .ptr rfl⟩, ⟨_, rfl, .ptr rfl⟩, trivial⟩ ⟨.inr ⟨_, _, rfl, rfl, convs_eq rfl (words_noHs _)⟩, .inr ⟨_, _, rfl, rfl, convs_eq rfl (words_noHs _)⟩, .inr ⟨_, _, rfl, rfl, convs_eq rfl (words_noHs _)⟩, .inr ⟨_, _, rfl, rfl, convs_eq rfl (words_noHs _)⟩, trivial⟩ ?_
  refine vloop_unroll ?_
  refine wpv_ok Γok (by kernel_rfl) _ _ _ ?_; conv => whnf
  obtain ⟨hi, lo, l1, c1, h1, o22, c2, k22, m1, m2, m3, m4, m5, bo22, bk22, e22⟩ := mstep a2 b2 o13 k21 ka2 kb2 bo13 bk21
  refine ⟨_, ret_of_fn G0ok (m1) (by first | rfl | simp only [noHs, noH, nI, bI, Bool.and_self, Bool.and_true, Bool.true_and, ]) (by first | rfl | simp only [noHs, noH, nI, bI, Bool.and_self, Bool.and_true, Bool.true_and, ]), ?_⟩; (conv => whnf); (try (refine ⟨by kernel_rfl, ?_⟩; conv => whnf))
  rw [ws_i64 (by decide) (by decide)]
  conv => whnf
  try (refine ⟨by kernel_rfl, ?_⟩; conv => whnf)
  refine ⟨_, ret_of_fn G0ok (m2) (by first | rfl | simp only [noHs, noH, nI, bI, Bool.and_self, Bool.and_true, Bool.true_and, ]) (by first | rfl | simp only [noHs, noH, nI, bI, Bool.and_self, Bool.and_true, Bool.true_and, ]), ?_⟩; (conv => whnf); (try (refine ⟨by kernel_rfl, ?_⟩; conv => whnf))
  rw [m3]
  conv => whnf
  try (refine ⟨by kernel_rfl, ?_⟩; conv => whnf)
  refine ⟨_, ret_of_fn G0ok (m4) (by first | rfl | simp only [noHs, noH, nI, bI, Bool.and_self, Bool.and_true, Bool.true_and, ]) (by first | rfl | simp only [noHs, noH, nI, bI, Bool.and_self, Bool.and_true, Bool.true_and, ]), ?_⟩; (conv => whnf); (try (refine ⟨by kernel_rfl, ?_⟩; conv => whnf))
  rw [m5]
  (try rw [ws_i64 (by decide) (by decide)])
  conv => whnf
  try (refine ⟨by kernel_rfl, ?_⟩; conv => whnf)
  clear m1 m2 m3 m4 m5
  refine vloop_clean G0ok [(1, some 1), (2, some 2), (3, some 3), (4, some 4)] 5 [(21, nI .i64 3), (20, .agg (words [b0, b1, b2, b3])), (9, nI .u64 (k22 : Nat)), (8, nI .u64 (a2 : Nat)), (7, nI .i64 2), (16, nI .i64 2), (15, .agg (words [a0, a1, a2, a3])), (6, .ptr 4 0), (5, .ptr 3 0), (4, .ptr 2 0), (3, .ptr 1 0)] [(1, some (words [b0, b1, b2, b3])), (2, some (words [0, 0, 0, 0])), (3, some (words [0, 0, 0, 0])), (4, some (words [o00, o10, o20, o21, o22, k13, 0, 0]))] rfl ⟨⟨_, rfl, conv_nI (ws_i64 (by decide) (by decide))⟩, ⟨_, rfl, conv_eq rfl (words_noHs _)⟩, ⟨_, rfl, conv_nI (rfl)⟩, ⟨_, rfl, conv_nI (rfl)⟩, ⟨_, rfl, conv_nI (rfl)⟩, ⟨_, rfl, conv_nI (rfl)⟩, ⟨_, rfl, conv_eq rfl (words_noHs _)⟩, ⟨_, rfl, .ptr rfl⟩, ⟨_, rfl, .ptr rfl⟩, ⟨_, rfl, .ptr rfl⟩, ⟨_, rfl, .ptr rfl⟩, trivial⟩ ⟨.inr ⟨_, _, rfl, rfl, convs_eq rfl (words_noHs _)⟩, .inr ⟨_, _, rfl, rfl, convs_eq rfl (words_noHs _)⟩, .inr ⟨_, _, rfl, rfl, convs_eq rfl (words_noHs _)⟩, .inr ⟨_, _, rfl, rfl, convs_eq rfl (words_noHs _)⟩, trivial⟩ ?_
  refine vloop_unroll ?_
  refine wpv_ok Γok (by kernel_rfl) _ _ _ ?_; conv => whnf
  obtain ⟨hi, lo, l1, c1, h1, o23, c2, k23, m1, m2, m3, m4, m5, bo23, bk23, e23⟩ := mstep a2 b3 k13 k22 ka2 kb3 bk13 bk22
  refine ⟨_, ret_of_fn G0ok (m1) (by first | rfl | simp only [noHs, noH, nI, bI, Bool.and_self, Bool.and_true, Bool.true_and, ]) (by first | rfl | simp only [noHs, noH, nI, bI, Bool.and_self, Bool.and_true, Bool.true_and, ]), ?_⟩; (conv => whnf); (try (refine ⟨by kernel_rfl, ?_⟩; conv => whnf))
  rw [ws_i64 (by decide) (by decide)]
  conv => whnf
  try (refine ⟨by kernel_rfl, ?_⟩; conv => whnf)
  refine ⟨_, ret_of_fn G0ok (m2) (by first | rfl | simp only [noHs, noH, nI, bI, Bool.and_self, Bool.and_true, Bool.true_and, ]) (by first | rfl | simp only [noHs, noH, nI, bI, Bool.and_self, Bool.and_true, Bool.true_and, ]), ?_⟩; (conv => whnf); (try (refine ⟨by kernel_rfl, ?_⟩; conv => whnf))
  rw [m3]
  conv => whnf
  try (refine ⟨by kernel_rfl, ?_⟩; conv => whnf)
  refine ⟨_, ret_of_fn G0ok (m4) (by first | rfl | simp only [noHs, noH, nI, bI, Bool.and_self, Bool.and_true, Bool.true_and, ]) (by first | rfl | simp only [noHs, noH, nI, bI, Bool.and_self, Bool.and_true, Bool.true_and, ]), ?_⟩; (conv => whnf); (try (refine ⟨by kernel_rfl, ?_⟩; conv => whnf))
  rw [m5]
  (try rw [ws_i64 (by decide) (by decide)])
  conv => whnf
  try (refine ⟨by kernel_rfl, ?_⟩; conv => whnf)
  clear m1 m2 m3 m4 m5
  refine vloop_unroll ?_
  refine wpv_ok Γok (by kernel_rfl) _ _ _ ?_; conv => whnf
  rw [ws_i64 (by decide) (by decide)]
  conv => whnf
  try (refine ⟨by kernel_rfl, ?_⟩; conv => whnf)
  rw [ws_i64 (by decide) (by decide)]
  conv => whnf
  try (refine ⟨by kernel_rfl, ?_⟩; conv => whnf)
  refine vloop_clean G0ok [(1, some 1), (2, some 2), (3, some 3), (4, some 4)] 5 [(16, nI .i64 3), (15, .agg (words [a0, a1, a2, a3])), (6, .ptr 4 0), (5, .ptr 3 0), (4, .ptr 2 0), (3, .ptr 1 0)] [(1, some (words [b0, b1, b2, b3])), (2, some (words [0, 0, 0, 0])), (3, some (words [0, 0, 0, 0])), (4, some (words [o00, o10, o20, o21, o22, o23, k23, 0]))] rfl ⟨⟨_, rfl, conv_nI (ws_i64 (by decide) (by decide))⟩, ⟨_, rfl, conv_eq rfl (words_noHs _)⟩, ⟨_, rfl, .ptr rfl⟩, ⟨_, rfl, .ptr rfl⟩, ⟨_, rfl, .ptr rfl⟩, ⟨_, rfl, .ptr rfl⟩, trivial⟩ ⟨.inr ⟨_, _, rfl, rfl, convs_eq rfl (words_noHs _)⟩, .inr ⟨_, _, rfl, rfl, convs_eq rfl (words_noHs _)⟩, .inr ⟨_, _, rfl, rfl, convs_eq rfl (words_noHs _)⟩, .inr ⟨_, _, rfl, rfl, convs_eq rfl (words_noHs _)⟩, trivial⟩ ?_
  refine vloop_unroll ?_
  refine wpv_ok Γok (by kernel_rfl) _ _ _ ?_; conv => whnf
  refine vloop_clean G0ok [(1, some 1), (2, some 2), (3, some 3), (4, some 4)] 5 [(21, nI .i64 0), (20, .agg (words [b0, b1, b2, b3])), (9, nI .u64 (0 : Nat)), (8, nI .u64 (a3 : Nat)), (7, nI .i64 3), (16, nI .i64 3), (15, .agg (words [a0, a1, a2, a3])), (6, .ptr 4 0), (5, .ptr 3 0), (4, .ptr 2 0), (3, .ptr 1 0)] [(1, some (words [b0, b1, b2, b3])), (2, some (words [0, 0, 0, 0])), (3, some (words [0, 0, 0, 0])), (4, some (words [o00, o10, o20, o21, o22, o23, k23, 0]))] rfl ⟨⟨_, rfl, conv_nI (rfl)⟩, ⟨_, rfl, conv_eq rfl (words_noHs _)⟩, ⟨_, rfl, conv_nI (rfl)⟩, ⟨_, rfl, conv_nI (rfl)⟩, ⟨_, rfl, conv_nI (rfl)⟩, ⟨_, rfl, conv_nI (rfl)⟩, ⟨_, rfl, conv_eq rfl (words_noHs _)⟩, ⟨_, rfl, .ptr rfl⟩, ⟨_, rfl, .ptr rfl⟩, ⟨_, rfl, .ptr rfl⟩, ⟨_, rfl, .ptr rfl⟩, trivial⟩ ⟨.inr ⟨_, _, rfl, rfl, convs_eq rfl (words_noHs _)⟩, .inr ⟨_, _, rfl, rfl, convs_eq rfl (words_noHs _)⟩, .inr ⟨_, _, rfl, rfl, convs_eq rfl (words_noHs _)⟩, .inr ⟨_, _, rfl, rfl, convs_eq rfl (words_noHs _)⟩, trivial⟩ ?_
  refine vloop_unroll ?_
  refine wpv_ok Γok (by kernel_rfl) _ _ _ ?_; conv => whnf
  obtain ⟨hi, lo, l1, c1, h1, o30, c2, k30, m1, m2, m3, m4, m5, bo30, bk30, e30⟩ := mstep a3 b0 o21 0 ka3 kb0 bo21 (by decide)
  refine ⟨_, ret_of_fn G0ok (m1) (by first | rfl | simp only [noHs, noH, nI, bI, Bool.and_self, Bool.and_true, Bool.true_and, ]) (by first | rfl | simp only [noHs, noH, nI, bI, Bool.and_self, Bool.and_true, Bool.true_and, ]), ?_⟩; (conv => whnf); (try (refine ⟨by kernel_rfl, ?_⟩; conv => whnf))
  rw [ws_i64 (by decide) (by decide)]
  conv => whnf
  try (refine ⟨by kernel_rfl, ?_⟩; conv => whnf)
  refine ⟨_, ret_of_fn G0ok (m2) (by first | rfl | simp only [noHs, noH, nI, bI, Bool.and_self, Bool.and_true, Bool.true_and, ]) (by first | rfl | simp only [noHs, noH, nI, bI, Bool.and_self, Bool.and_true, Bool.true_and, ]), ?_⟩; (conv => whnf); (try (refine ⟨by kernel_rfl, ?_⟩; conv => whnf))
  rw [m3]
  conv => whnf
  try (refine ⟨by kernel_rfl, ?_⟩; conv => whnf)
  refine ⟨_, ret_of_fn G0ok (m4) (by first | rfl | simp only [noHs, noH, nI, bI, Bool.and_self, Bool.and_true, Bool.true_and, ]) (by first | rfl | simp only [noHs, noH, nI, bI, Bool.and_self, Bool.and_true, Bool.true_and, ]), ?_⟩; (conv => whnf); (try (refine ⟨by kernel_rfl, ?_⟩; conv => whnf))
  rw [m5]
  (try rw [ws_i64 (by decide) (by decide)])
  conv => whnf
  try (refine ⟨by kernel_rfl, ?_⟩; conv => whnf)
  clear m1 m2 m3 m4 m5
  refine vloop_clean G0ok [(1, some 1), (2, some 2), (3, some 3), (4, some 4)] 5 [(21, nI .i64 1), (20, .agg (words [b0, b1, b2, b3])), (9, nI .u64 (k30 : Nat)), (8, nI .u64 (a3 : Nat)), (7, nI .i64 3), (16, nI .i64 3), (15, .agg (words [a0, a1, a2, a3])), (6, .ptr 4 0), (5, .ptr 3 0), (4, .ptr 2 0), (3, .ptr 1 0)] [(1, some (words [b0, b1, b2, b3])), (2, some (words [0, 0, 0, 0])), (3, some (words [0, 0, 0, 0])), (4, some (words [o00, o10, o20, o30, o22, o23, k23, 0]))] rfl ⟨⟨_, rfl, conv_nI (ws_i64 (by decide) (by decide))⟩, ⟨_, rfl, conv_eq rfl (words_noHs _)⟩, ⟨_, rfl, conv_nI (rfl)⟩, ⟨_, rfl, conv_nI (rfl)⟩, ⟨_, rfl, conv_nI (rfl)⟩, ⟨_, rfl, conv_nI (rfl)⟩, ⟨_, rfl, conv_eq rfl (words_noHs _)⟩, ⟨_, rfl, .ptr rfl⟩, ⟨_, rfl, .ptr rfl⟩, ⟨_, rfl, .ptr rfl⟩, ⟨_, rfl, .ptr rfl⟩, trivial⟩ ⟨.inr ⟨_, _, rfl, rfl, convs_eq rfl (words_noHs _)⟩, .inr ⟨_, _, rfl, rfl, convs_eq rfl (words_noHs _)⟩, .inr ⟨_, _, rfl, rfl, convs_eq rfl (words_noHs _)⟩, .inr ⟨_, _, rfl, rfl, convs_eq rfl (words_noHs _)⟩, trivial⟩ ?_
  refine vloop_unroll ?_
  refine wpv_ok Γok (by kernel_rfl) _ _ _ ?_; conv => whnf
  obtain ⟨hi, lo, l1, c1, h1, o31, c2, k31, m1, m2, m3, m4, m5, bo31, bk31, e31⟩ := mstep a3 b1 o22 k30 ka3 kb1 bo22 bk30
  refine ⟨_, ret_of_fn G0ok (m1) (by first | rfl | simp only [noHs, noH, nI, bI, Bool.and_self, Bool.and_true, Bool.true_and, ]) (by first | rfl | simp only [noHs, noH, nI, bI, Bool.and_self, Bool.and_true, Bool.true_and, ]), ?_⟩; (conv => whnf); (try (refine ⟨by kernel_rfl, ?_⟩; conv => whnf))
  rw [ws_i64 (by decide) (by decide)]
  conv => whnf
  try (refine ⟨by kernel_rfl, ?_⟩; conv => whnf)
  refine ⟨_, ret_of_fn G0ok (m2) (by first | rfl | simp only [noHs, noH, nI, bI, Bool.and_self, Bool.and_true, Bool.true_and, ]) (by first | rfl | simp only [noHs, noH, nI, bI, Bool.and_self, Bool.and_true, Bool.true_and, ]), ?_⟩; (conv => whnf); (try (refine ⟨by kernel_rfl, ?_⟩; conv => whnf))
  rw [m3]
  conv => whnf
  try (refine ⟨by kernel_rfl, ?_⟩; conv => whnf)
  refine ⟨_, ret_of_fn G0ok (m4) (by first | rfl | simp only [noHs, noH, nI, bI, Bool.and_self, Bool.and_true, Bool.true_and, ]) (by first | rfl | simp only [noHs, noH, nI, bI, Bool.and_self, Bool.and_true, Bool.true_and, ]), ?_⟩; (conv => whnf); (try (refine ⟨by kernel_rfl, ?_⟩; conv => whnf))
  rw [m5]
  (try rw [ws_i64 (by decide) (by decide)])
  conv => whnf
  try (refine ⟨by kernel_rfl, ?_⟩; conv => whnf)
  clear m1 m2 m3 m4 m5
  refine vloop_clean G0ok [(1, some 1), (2, some 2), (3, some 3), (4, some 4)] 5 [(21, nI .i64 2), (20, .agg (words [b0, b1, b2, b3])), (9, nI .u64 (k31 : Nat)), (8, nI .u64 (a3 : Nat)), (7, nI .i64 3), (16, nI .i64 3), (15, .agg (words [a0, a1, a2, a3])), (6, .ptr 4 0), (5, .ptr 3 0), (4, .ptr 2 0), (3, .ptr 1 0)] [(1, some (words [b0, b1, b2, b3])), (2, some (words [0, 0, 0, 0])), (3, some (words [0, 0, 0, 0])), (4, some (words [o00, o10, o20, o30, o31, o23, k23, 0]))] rfl ⟨⟨_, rfl, conv_nI (ws_i64 (by decide) (by decide))⟩, ⟨_, rfl, conv_eq rfl (words_noHs _)⟩, ⟨_, rfl, conv_nI (rfl)⟩, ⟨_, rfl, conv_nI (rfl)⟩, ⟨_, rfl, conv_nI (rfl)⟩, ⟨_, rfl, conv_nI (rfl)⟩, ⟨_, rfl, conv_eq rfl (words_noHs _)⟩, ⟨_, rfl, .ptr rfl⟩, ⟨_, rfl, .ptr rfl⟩, ⟨_, rfl, .ptr rfl⟩, ⟨_, rfl, .ptr rfl⟩, trivial⟩ ⟨.inr ⟨_, _, rfl, rfl, convs_eq rfl (words_noHs _)⟩, .inr ⟨_, _, rfl, rfl, convs_eq rfl (words_noHs _)⟩, .inr ⟨_, _, rfl, rfl, convs_eq rfl (words_noHs _)⟩, .inr ⟨_, _, rfl, rfl, convs_eq rfl (words_noHs _)⟩, trivial⟩ ?_
  refine vloop_unroll ?_
  refine wpv_ok Γok (by kernel_rfl) _ _ _ ?_; conv => whnf
  obtain ⟨hi, lo, l1, c1, h1, o32, c2, k32, m1, m2, m3, m4, m5, bo32, bk32, e32⟩ := mstep a3 b2 o23 k31 ka3 kb2 bo23 bk31
  refine ⟨_, ret_of_fn G0ok (m1) (by first | rfl | simp only [noHs, noH, nI, bI, Bool.and_self, Bool.and_true, Bool.true_and, ]) (by first | rfl | simp only [noHs, noH, nI, bI, Bool.and_self, Bool.and_true, Bool.true_and, ]), ?_⟩; (conv => whnf); (try (refine ⟨by kernel_rfl, ?_⟩; conv => whnf))
  rw [ws_i64 (by decide) (by decide)]
  conv => whnf
  try (refine ⟨by kernel_rfl, ?_⟩; conv => whnf)
  refine ⟨_, ret_of_fn G0ok (m2) (by first | rfl | simp only [noHs, noH, nI, bI, Bool.and_self, Bool.and_true, Bool.true_and, ]) (by first | rfl | simp only [noHs, noH, nI, bI, Bool.and_self, Bool.and_true, Bool.true_and, ]), ?_⟩; (conv => whnf); (try (refine ⟨by kernel_rfl, ?_⟩; conv => whnf))
  rw [m3]
  conv => whnf
  try (refine ⟨by kernel_rfl, ?_⟩; conv => whnf)
  refine ⟨_, ret_of_fn G0ok (m4) (by first | rfl | simp only [noHs, noH, nI, bI, Bool.and_self, Bool.and_true, Bool.true_and, ]) (by first | rfl | simp only [noHs, noH, nI, bI, Bool.and_self, Bool.and_true, Bool.true_and, ]), ?_⟩; (conv => whnf); (try (refine ⟨by kernel_rfl, ?_⟩; conv => whnf))
  rw [m5]
  (try rw [ws_i64 (by decide) (by decide)])
  conv => whnf
  try (refine ⟨by kernel_rfl, ?_⟩; conv => whnf)
  clear m1 m2 m3 m4 m5
  refine vloop_clean G0ok [(1, some 1), (2, some 2), (3, some 3), (4, some 4)] 5 [(21, nI .i64 3), (20, .agg (words [b0, b1, b2, b3])), (9, nI .u64 (k32 : Nat)), (8, nI .u64 (a3 : Nat)), (7, nI .i64 3), (16, nI .i64 3), (15, .agg (words [a0, a1, a2, a3])), (6, .ptr 4 0), (5, .ptr 3 0), (4, .ptr 2 0), (3, .ptr 1 0)] [(1, some (words [b0, b1, b2, b3])), (2, some (words [0, 0, 0, 0])), (3, some (words [0, 0, 0, 0])), (4, some (words [o00, o10, o20, o30, o31, o32, k23, 0]))] rfl ⟨⟨_, rfl, conv_nI (ws_i64 (by decide) (by decide))⟩, ⟨_, rfl, conv_eq rfl (words_noHs _)⟩, ⟨_, rfl, conv_nI (rfl)⟩, ⟨_, rfl, conv_nI (rfl)⟩, ⟨_, rfl, conv_nI (rfl)⟩, ⟨_, rfl, conv_nI (rfl)⟩, ⟨_, rfl, conv_eq rfl (words_noHs _)⟩, ⟨_, rfl, .ptr rfl⟩, ⟨_, rfl, .ptr rfl⟩, ⟨_, rfl, .ptr rfl⟩, ⟨_, rfl, .ptr rfl⟩, trivial⟩ ⟨.inr ⟨_, _, rfl, rfl, convs_eq rfl (words_noHs _)⟩, .inr ⟨_, _, rfl, rfl, convs_eq rfl (words_noHs _)⟩, .inr ⟨_, _, rfl, rfl, convs_eq rfl (words_noHs _)⟩, .inr ⟨_, _, rfl, rfl, convs_eq rfl (words_noHs _)⟩, trivial⟩ ?_
  refine vloop_unroll ?_
  refine wpv_ok Γok (by kernel_rfl) _ _ _ ?_; conv => whnf
  obtain ⟨hi, lo, l1, c1, h1, o33, c2, k33, m1, m2, m3, m4, m5, bo33, bk33, e33⟩ := mstep a3 b3 k23 k32 ka3 kb3 bk23 bk32
  refine ⟨_, ret_of_fn G0ok (m1) (by first | rfl | simp only [noHs, noH, nI, bI, Bool.and_self, Bool.and_true, Bool.true_and, ]) (by first | rfl | simp only [noHs, noH, nI, bI, Bool.and_self, Bool.and_true, Bool.true_and, ]), ?_⟩; (conv => whnf); (try (refine ⟨by kernel_rfl, ?_⟩; conv => whnf))
  rw [ws_i64 (by decide) (by decide)]
  conv => whnf
  try (refine ⟨by kernel_rfl, ?_⟩; conv => whnf)
  refine ⟨_, ret_of_fn G0ok (m2) (by first | rfl | simp only [noHs, noH, nI, bI, Bool.and_self, Bool.and_true, Bool.true_and, ]) (by first | rfl | simp only [noHs, noH, nI, bI, Bool.and_self, Bool.and_true, Bool.true_and, ]), ?_⟩; (conv => whnf); (try (refine ⟨by kernel_rfl, ?_⟩; conv => whnf))
  rw [m3]
  conv => whnf
  try (refine ⟨by kernel_rfl, ?_⟩; conv => whnf)
  refine ⟨_, ret_of_fn G0ok (m4) (by first | rfl | simp only [noHs, noH, nI, bI, Bool.and_self, Bool.and_true, Bool.true_and, ]) (by first | rfl | simp only [noHs, noH, nI, bI, Bool.and_self, Bool.and_true, Bool.true_and, ]), ?_⟩; (conv => whnf); (try (refine ⟨by kernel_rfl, ?_⟩; conv => whnf))
  rw [m5]
  (try rw [ws_i64 (by decide) (by decide)])
  conv => whnf
  try (refine ⟨by kernel_rfl, ?_⟩; conv => whnf)
  clear m1 m2 m3 m4 m5
  refine vloop_unroll ?_
  refine wpv_ok Γok (by kernel_rfl) _ _ _ ?_; conv => whnf
  rw [ws_i64 (by decide) (by decide)]
  conv => whnf
  try (refine ⟨by kernel_rfl, ?_⟩; conv => whnf)
  rw [ws_i64 (by decide) (by decide)]
  conv => whnf
  try (refine ⟨by kernel_rfl, ?_⟩; conv => whnf)
  refine vloop_unroll ?_
  refine wpv_ok Γok (by kernel_rfl) _ _ _ ?_; conv => whnf
  rw [ws_i64 (by decide) (by decide)]
  conv => whnf
  try (refine ⟨by kernel_rfl, ?_⟩; conv => whnf)
  obtain ⟨r1, r2⟩ := mul_val4 bo00 bo10 bo20 bo30 e00 e01 e02 e03 e10 e11 e12 e13 e20 e21 e22 e23 e30 e31 e32 e33
  rw [r1, r2, uV_val4 bo00 bo10 bo20 bo30, uV_val4 bo31 bo32 bo33 bk33]
  exact ⟨_, rfl, rfl⟩
theorem mul_fn {a b : Nat} (ha : a < T256) (hb : b < T256) : FnV Try.prog G0 41 [uV a, uV b] (.tup [uV (mulL a b), uV (mulH a b)]) := by
  obtain ⟨a0, a1, a2, a3, k0, k1, k2, k3, rfl⟩ := limbs ha
  obtain ⟨b0, b1, b2, b3, m0, m1, m2, m3, rfl⟩ := limbs hb
  have := mul_fn4 a0 a1 a2 a3 b0 b1 b2 b3 k0 k1 k2 k3 m0 m1 m2 m3
  rwa [← uV_val4 k0 k1 k2 k3, ← uV_val4 m0 m1 m2 m3] at this
end Go.Proofs.Ytbbihbcfeihhiaa
