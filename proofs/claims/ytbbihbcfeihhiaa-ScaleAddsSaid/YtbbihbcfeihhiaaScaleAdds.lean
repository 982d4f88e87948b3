/- ScaleAdds: two amounts without dust have as much together as both have. -/
import Derived.Test.YtbbihbcfeihhiaaScaleBack
namespace Go.Proofs.Ytbbihbcfeihhiaa
set_option linter.unusedVariables false
set_option linter.unusedSimpArgs false
set_option linter.unusedSectionVars false
open Go.ChangeShapes Go.WideShapes Go.ChangeAt Go.RowKit Go.Joins
set_option maxRecDepth 10000
theorem fnScaleAdds (x y dec : Int) (_ : I64 x) (_ : I64 y) (_ : I64 dec) : FnV Try.prog G0 4 [nI .i64 x, nI .i64 y, nI .i64 dec] (bI true) := by
  have pk := picked_fn dec 40 (by decide) (by decide)
  have px := picked_fn x 1099511627776 (by decide) (by decide)
  have py := picked_fn y 1099511627776 (by decide) (by decide)
  obtain ⟨k, hk, hk2⟩ : ∃ k : Nat, dec % 40 = (k : Int) ∧ k < 40 := ⟨(dec % 40).toNat, by omega, by omega⟩
  obtain ⟨m, hm, hm2⟩ : ∃ k : Nat, x % 1099511627776 = (k : Int) ∧ k < 1099511627776 := ⟨(x % 1099511627776).toNat, by omega, by omega⟩
  obtain ⟨n, hn, hn2⟩ : ∃ k : Nat, y % 1099511627776 = (k : Int) ∧ k < 1099511627776 := ⟨(y % 1099511627776).toNat, by omega, by omega⟩
  rw [hk] at pk
  rw [hm] at px
  rw [hn] at py
  have hf : 0 < ten (k - 8) := by rw [ten_def]; exact Nat.pow_pos (by decide)
  have hf2 : ten (k - 8) ≤ 10 ^ 31 := by rw [ten_def]; exact Nat.pow_le_pow_right (by decide) (by omega)
  have hmf : m * ten (k - 8) ≤ 1099511627776 * 10 ^ 31 := Nat.mul_le_mul (by omega) hf2
  have hnf : n * ten (k - 8) ≤ 1099511627776 * 10 ^ 31 := Nat.mul_le_mul (by omega) hf2
  have hT : 1099511627776 * 10 ^ 31 + 1099511627776 * 10 ^ 31 < T256 := by decide
  have tT : 1099511627776 + 1099511627776 < T256 := by decide
  have tB : 1099511627776 < B64 := by decide
  have up1 := up_fn (x := m) (n := k) (by omega) (by omega) rfl (by omega)
  have up2 := up_fn (x := n) (n := k) (by omega) (by omega) rfl (by omega)
  rw [uV_lit (n := m) (by omega)] at up1
  rw [uV_lit (n := n) (by omega)] at up2
  have ad := add_fn (a := m * ten (k - 8)) (b := n * ten (k - 8)) (by omega) (by omega)
  rw [addS_def, addO_def, ← Nat.add_mul, Nat.mod_eq_of_lt (by rw [Nat.add_mul]; omega)] at ad
  have hs : (m + n) * ten (k - 8) < T256 := by rw [Nat.add_mul]; omega
  have dn := down_fn (a := (m + n) * ten (k - 8)) (n := k) hs (by omega)
  rw [divN_def, modN_def, Nat.mul_div_cancel _ hf, Nat.mul_mod_left] at dn
  have ad2 := add_fn (a := m) (b := n) (by omega) (by omega)
  rw [addS_def, addO_def, Nat.mod_eq_of_lt (by omega), uV_lit (n := m) (by omega), uV_lit (n := n) (by omega)] at ad2
  have ov := up_over (x := val4 0 0 0 9223372036854775808) (n := 9) (by decide) (by decide) (by rw [mulH_def, ten_def]; decide)
  rw [uV_val4 (by decide) (by decide) (by decide) (by decide)] at ov
  have e1 := eq_uC (a := m + n) (b := m + n) (by omega) (by omega)
  have e2 := eq_zero (a := 0) (by decide)
  have e2z := e2
  rw [uC_lit (n := 0) (by decide)] at e2z
  refine gen_ex (m * ten (k - 8)) fun p hp => ?_
  refine gen_ex (n * ten (k - 8)) fun q hq => ?_
  refine gen_ex ((m + n) * ten (k - 8)) fun s hs => ?_
  rw [← hp] at up1 ad
  rw [← hq] at up2 ad
  rw [← hs] at ad dn
  clear hp hq hs hf hf2 hmf hnf
  have w1 : wS .u64 (m : Int) = (m : Int) := ws_u64n (by omega) (by omega)
  have w2 : wS .u64 (n : Int) = (n : Int) := ws_u64n (by omega) (by omega)
  clear hm hn hk tT tB hT
  refine fn_of_vwp Γok Try.func4 (by kernel_rfl) rfl (by simp [Try.ntmps4]) (wpv_ok Γok (by kernel_rfl) _ _ _ ?_); conv => whnf
  refine ⟨_, ret_of_fn G0ok (pk) (by first | rfl | simp only [noHs, noH, nI, bI, Bool.and_self, Bool.and_true, Bool.true_and, ]) (by first | rfl | simp only [noHs, noH, nI, bI, Bool.and_self, Bool.and_true, Bool.true_and, ]), ?_⟩; (conv => whnf); (try (refine ⟨by kernel_rfl, ?_⟩; conv => whnf))
  refine ⟨_, ret_of_fn G0ok (px) (by first | rfl | simp only [noHs, noH, nI, bI, Bool.and_self, Bool.and_true, Bool.true_and, ]) (by first | rfl | simp only [noHs, noH, nI, bI, Bool.and_self, Bool.and_true, Bool.true_and, ]), ?_⟩; (conv => whnf); (try (refine ⟨by kernel_rfl, ?_⟩; conv => whnf))
  rw [w1]
  conv => whnf
  try (refine ⟨by kernel_rfl, ?_⟩; conv => whnf)
  refine ⟨_, ret_of_fn G0ok (py) (by first | rfl | simp only [noHs, noH, nI, bI, Bool.and_self, Bool.and_true, Bool.true_and, ]) (by first | rfl | simp only [noHs, noH, nI, bI, Bool.and_self, Bool.and_true, Bool.true_and, ]), ?_⟩; (conv => whnf); (try (refine ⟨by kernel_rfl, ?_⟩; conv => whnf))
  rw [w2]
  conv => whnf
  try (refine ⟨by kernel_rfl, ?_⟩; conv => whnf)
  try (refine ⟨by kernel_rfl, ?_⟩; conv => whnf)
  conv => whnf
  try (refine ⟨by kernel_rfl, ?_⟩; conv => whnf)
  refine ⟨_, ret_of_fn G0ok (up1) (by first | rfl | simp only [noHs, noH, nI, bI, Bool.and_self, Bool.and_true, Bool.true_and, ]) (by first | rfl | simp only [noHs, noH, nI, bI, Bool.and_self, Bool.and_true, Bool.true_and, ]), ?_⟩; (conv => whnf); (try (refine ⟨by kernel_rfl, ?_⟩; conv => whnf))
  refine ⟨_, ret_of_fn G0ok (up2) (by first | rfl | simp only [noHs, noH, nI, bI, Bool.and_self, Bool.and_true, Bool.true_and, ]) (by first | rfl | simp only [noHs, noH, nI, bI, Bool.and_self, Bool.and_true, Bool.true_and, ]), ?_⟩; (conv => whnf); (try (refine ⟨by kernel_rfl, ?_⟩; conv => whnf))
  refine ⟨_, ret_of_fn G0ok (ad) (by first | rfl | simp only [noHs, noH, nI, bI, Bool.and_self, Bool.and_true, Bool.true_and, ]) (by first | rfl | simp only [noHs, noH, nI, bI, Bool.and_self, Bool.and_true, Bool.true_and, ]), ?_⟩; (conv => whnf); (try (refine ⟨by kernel_rfl, ?_⟩; conv => whnf))
  refine ⟨_, ret_of_fn G0ok (dn) (by first | rfl | simp only [noHs, noH, nI, bI, Bool.and_self, Bool.and_true, Bool.true_and, ]) (by first | rfl | simp only [noHs, noH, nI, bI, Bool.and_self, Bool.and_true, Bool.true_and, ]), ?_⟩; (conv => whnf); (try (refine ⟨by kernel_rfl, ?_⟩; conv => whnf))
  refine ⟨_, ret_of_fn G0ok (ad2) (by first | rfl | simp only [noHs, noH, nI, bI, Bool.and_self, Bool.and_true, Bool.true_and, ]) (by first | rfl | simp only [noHs, noH, nI, bI, Bool.and_self, Bool.and_true, Bool.true_and, ]), ?_⟩; (conv => whnf); (try (refine ⟨by kernel_rfl, ?_⟩; conv => whnf))
  refine ⟨_, ret_of_fn G0ok (ov) (by first | rfl | simp only [noHs, noH, nI, bI, Bool.and_self, Bool.and_true, Bool.true_and, ]) (by first | rfl | simp only [noHs, noH, nI, bI, Bool.and_self, Bool.and_true, Bool.true_and, ]), ?_⟩; (conv => whnf); (try (refine ⟨by kernel_rfl, ?_⟩; conv => whnf))
  refine ⟨_, e1, ?_⟩
  rw [decide_eq_true rfl]
  conv => whnf
  try (refine ⟨by kernel_rfl, ?_⟩; conv => whnf)
  refine ⟨_, e2, ?_⟩
  rw [decide_eq_true rfl]
  conv => whnf
  try (refine ⟨by kernel_rfl, ?_⟩; conv => whnf)
  try (refine ⟨_, e2z, ?_⟩; rw [decide_eq_true rfl]; conv => whnf)
  exact ⟨_, rfl, rfl⟩
namespace lawScaleAdds
set_option linter.unusedVariables false
set_option maxRecDepth 100000 in
theorem lifted (os : Os) (started : os.Started) (H : Type) (enc : TypeId × Value → H) :
    ReturnsInHanded {} Try.checked os 4 .any (Rows.scaleAddsSpec.pre6 enc Try.prog Try.f4 Rows.scaleAddsRow.domain false) (Rows.scaleAddsSpec.post enc Try.prog Try.f4 false true false false) := by
  refine returnsInHanded_of_change (C := Try.checked) rowOwn started (by kernel_rfl) Try.func4
    (ChangeSpec.witness6 (enc := enc) (C := Try.checked) false ⟨#[], #[.int .i64 0, .int .i64 0, .int .i64 0], []⟩ 8 (by kernel_rfl) (by kernel_rfl) (by kernel_rfl) (by kernel_rfl)) ?_
  intro W base args ds gs before hval0 hW hcnd _
  have hval : ∀ (j : Nat) t v, Try.f4.params[j]? = some t → args[j]? = some v → Value.okWide Try.prog W .any base t v := hval0
  have hW' := hW
  obtain ⟨p, q, hA0, hV, rfl, hfz, hnd⟩ := hW
  have hA : DataW.TrodAll enc Try.prog W 0 (fun _ => true) true Try.f4.params.toList args.toList ds p := hA0
  rw [Try.params4] at hA hval
  obtain ⟨v0, vs0, d0, ds0, p0, q0, hargs, rfl, rfl, h0, r0⟩ := trodAll_cons hA
  obtain ⟨v1, vs1, d1, ds1, p1, q1, rfl, rfl, rfl, h1, r1⟩ := trodAll_cons r0
  obtain ⟨v2, vs2, d2, ds2, p2, q2, rfl, rfl, rfl, h2, r2⟩ := trodAll_cons r1
  obtain ⟨rfl, rfl, rfl⟩ := trodAll_nil r2
  obtain rfl : args = #[v0, v1, v2] := by cases args; simp_all
  obtain ⟨rfl, rfl⟩ := trodVars_none hV
  obtain ⟨a0, rfl, rfl, rfl, w0⟩ := open_int Try.underlying3 (hval 0 3 v0 rfl rfl) h0
  obtain ⟨a1, rfl, rfl, rfl, w1⟩ := open_int Try.underlying3 (hval 1 3 v1 rfl rfl) h1
  obtain ⟨a2, rfl, rfl, rfl, w2⟩ := open_int Try.underlying3 (hval 2 3 v2 rfl rfl) h2
  clear hA0 hval0
  refine (calls_of_fn Try.func4 (by kernel_rfl) rfl (fnScaleAdds a0 a1 a2 (bounds_i64 w0) (bounds_i64 w1) (bounds_i64 w2)) (fun _ _ h => by cases h) (VRs.cons rfl (VRs.cons rfl (VRs.cons rfl VRs.snoc_nil)))).mono fun e W' ⟨he, bel⟩ => ?_
  subst he
  exact ⟨_, rfl, _, _, _, [], _, [], hW', trodAll_mk1 (shut_bool Try.underlying4 _), (trodAll_cons_mk (shut_int Try.underlying3 w0) (trodAll_cons_mk (shut_int Try.underlying3 w1) (trodAll_cons_mk (shut_int Try.underlying3 w2) trodAll_mk0))), rfl, bel.frame _, fun h => by cases h⟩
theorem over : Rows.scaleAddsRow.holds Try.pinned (OpenSpec.ofChange Rows.scaleAddsSpec) :=
  OpenClaim.holds_of_wide 4 Try.f4 rfl rfl rfl rfl rfl rfl rfl ⟨rfl, rfl, rfl, rfl, rfl⟩ rfl rfl rfl rfl rfl (by kernel_rfl) Try.func4 (by kernel_rfl)
    (of_decide_eq_true (by kernel_rfl)) (by unfold Func.isWrapper; first | (rw [if_pos (by decide +kernel)]; kernel_rfl) | (rw [if_neg (by decide +kernel)]; exact ⟨rfl, rfl⟩))
    (fun os started H enc _ => lifted os started H enc)
theorem proved : Rows.ScaleAddsSaid := over
end lawScaleAdds

end Go.Proofs.Ytbbihbcfeihhiaa
