/- The numbers and words of raw things, by the engine. -/
import Derived.Test.YtdicmddedcfhaaaVWide
import Derived.Test.YtdicmddedcfhaaaPicked
namespace Go.Proofs.Ytdicmddedcfhaaa
set_option linter.unusedVariables false
set_option linter.unusedSimpArgs false
set_option linter.unusedSectionVars false
open Go.ChangeShapes Go.WideShapes Go.ChangeAt Go.RowKit Go.Joins
set_option maxRecDepth 10000
theorem u64_ex (x : Int) : ∃ a : Nat, wS .u64 x = (a : Int) ∧ a < B64 := by
  rw [ws_u64]
  refine ⟨(x % 18446744073709551616).toNat, ?_, ?_⟩
  · omega
  · unfold B64; omega
theorem xor_ex {a b : Nat} (ha : a < B64) (hb : b < B64) : ∃ c : Nat, bitS .xor .u64 a b = (c : Int) ∧ c < B64 := by
  refine ⟨a ^^^ b, u64_xor (by rw [← B64_eq]; exact ha) (by rw [← B64_eq]; exact hb), ?_⟩
  rw [B64_eq] at *
  exact Nat.xor_lt_two_pow ha hb
theorem number_ex (k a b : Int) (s : ByteArray) : ∃ n, n < T256 ∧ FnV Try.prog G0 33 [.agg [nI .i64 k, nI .i64 a, nI .i64 b, .v (.string s)]] (uV n) := by
  obtain ⟨x, hx, hx2⟩ := u64_ex a
  obtain ⟨y, hy, hy2⟩ := u64_ex b
  obtain ⟨z, hz, hz2⟩ := u64_ex (a % 1000)
  obtain ⟨u, hu, hu2⟩ := u64_ex ((x : Int) * 11400714819323198485)
  obtain ⟨v, hv, hv2⟩ := u64_ex ((y : Int) * 14029467366897019727)
  obtain ⟨w, hw, hw2⟩ := xor_ex hx2 hy2
  obtain ⟨p, hp, hp2⟩ := xor_ex (a := 18446744073709551615) (by decide) hx2
  obtain ⟨q, hq, hq2⟩ := xor_ex (a := 18446744073709551615) (by decide) hy2
  have hk : k % 5 = 0 ∨ k % 5 = 1 ∨ k % 5 = 2 ∨ k % 5 = 3 ∨ k % 5 = 4 := by omega
  rcases hk with h | h | h | h | h
  · refine ⟨val4 z 0 0 0, val4_lt hz2 (by decide) (by decide) (by decide), ?_⟩
    rw [uV_val4 hz2 (by decide) (by decide) (by decide)]
    refine fn_of_vwp Γok Try.func33 (by kernel_rfl) rfl (by simp [Try.ntmps33]) (wpv_ok Γok (by kernel_rfl) _ _ _ ?_); conv => whnf
    rw [hx, hy]
    refine ⟨by kernel_rfl, ?_⟩
    conv => whnf
    refine ⟨_, ret_of_fn G0ok (picked_fn k 5 (by omega) (by omega)) (by rfl) rfl, ?_⟩; conv => whnf
    rw [h]
    conv => whnf
    refine ⟨_, ret_of_fn G0ok (picked_fn a 1000 (by omega) (by omega)) (by rfl) rfl, ?_⟩; conv => whnf
    rw [hz]
    exact ⟨_, rfl, rfl⟩
  · refine ⟨val4 x 0 0 0, val4_lt hx2 (by decide) (by decide) (by decide), ?_⟩
    rw [uV_val4 hx2 (by decide) (by decide) (by decide)]
    refine fn_of_vwp Γok Try.func33 (by kernel_rfl) rfl (by simp [Try.ntmps33]) (wpv_ok Γok (by kernel_rfl) _ _ _ ?_); conv => whnf
    rw [hx, hy]
    refine ⟨by kernel_rfl, ?_⟩
    conv => whnf
    refine ⟨_, ret_of_fn G0ok (picked_fn k 5 (by omega) (by omega)) (by rfl) rfl, ?_⟩; conv => whnf
    rw [h]
    conv => whnf
    exact ⟨_, rfl, rfl⟩
  · refine ⟨val4 x y 0 0, val4_lt hx2 hy2 (by decide) (by decide), ?_⟩
    rw [uV_val4 hx2 hy2 (by decide) (by decide)]
    refine fn_of_vwp Γok Try.func33 (by kernel_rfl) rfl (by simp [Try.ntmps33]) (wpv_ok Γok (by kernel_rfl) _ _ _ ?_); conv => whnf
    rw [hx, hy]
    refine ⟨by kernel_rfl, ?_⟩
    conv => whnf
    refine ⟨_, ret_of_fn G0ok (picked_fn k 5 (by omega) (by omega)) (by rfl) rfl, ?_⟩; conv => whnf
    rw [h]
    conv => whnf
    exact ⟨_, rfl, rfl⟩
  · refine ⟨val4 u y w v, val4_lt hu2 hy2 hw2 hv2, ?_⟩
    rw [uV_val4 hu2 hy2 hw2 hv2]
    refine fn_of_vwp Γok Try.func33 (by kernel_rfl) rfl (by simp [Try.ntmps33]) (wpv_ok Γok (by kernel_rfl) _ _ _ ?_); conv => whnf
    rw [hx, hy]
    refine ⟨by kernel_rfl, ?_⟩
    conv => whnf
    refine ⟨_, ret_of_fn G0ok (picked_fn k 5 (by omega) (by omega)) (by rfl) rfl, ?_⟩; conv => whnf
    rw [h]
    conv => whnf
    rw [hu, hv, hw]
    exact ⟨_, rfl, rfl⟩
  · refine ⟨val4 p q 18446744073709551615 18446744073709551615, val4_lt hp2 hq2 (by decide) (by decide), ?_⟩
    rw [uV_val4 hp2 hq2 (by decide) (by decide)]
    refine fn_of_vwp Γok Try.func33 (by kernel_rfl) rfl (by simp [Try.ntmps33]) (wpv_ok Γok (by kernel_rfl) _ _ _ ?_); conv => whnf
    rw [hx, hy]
    refine ⟨by kernel_rfl, ?_⟩
    conv => whnf
    refine ⟨_, ret_of_fn G0ok (picked_fn k 5 (by omega) (by omega)) (by rfl) rfl, ?_⟩; conv => whnf
    rw [h]
    conv => whnf
    rw [show (if IntKind.u64.signed = true then (-1 : Int) else IntKind.u64.max) = ((18446744073709551615 : Nat) : Int) from rfl, hp, hq]
    exact ⟨_, rfl, rfl⟩
/-- The number of a raw thing. -/
noncomputable def rawN (q : RawD) : Nat := Classical.choose (number_ex q.k q.a q.b q.s)
theorem rawN_lt (q : RawD) : rawN q < T256 := (Classical.choose_spec (number_ex q.k q.a q.b q.s)).1
theorem number_fn (q : RawD) : FnV Try.prog G0 33 [q.v] (uV (rawN q)) := (Classical.choose_spec (number_ex q.k q.a q.b q.s)).2
end Go.Proofs.Ytdicmddedcfhaaa
