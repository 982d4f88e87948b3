/- word of a raw thing by the engine. -/
import Derived.Test.YtmfgldfldejgcaaVFrom
namespace Go.Proofs.Ytmfgldfldejgcaa
set_option linter.unusedVariables false
set_option linter.unusedSimpArgs false
set_option linter.unusedSectionVars false
open Go.ChangeShapes Go.WideShapes Go.ChangeAt Go.RowKit Go.Joins
set_option maxRecDepth 10000
theorem copy_cells {cs : List VV} {off m : Nat} {l : List UInt8} {z L : List Nat} (h1 : cs = bts z) (h2 : off = 0) (h3 : L = (l.map UInt8.toNat).take m ++ z.drop ((l.map UInt8.toNat).take m).length) :
    splice cs off (List.take m (List.map byV l)) = bts L := by
  subst h1 h2 h3
  have e : List.map byV l = bts (l.map UInt8.toNat) := by simp [bts, byV, nI, Function.comp_def]
  rw [e]
  unfold splice bts
  simp [List.map_take, List.map_drop]
theorem u8_ex (x : Int) : ∃ a : Nat, wS .u8 x = (a : Int) ∧ a < 256 := by
  rw [ws_u8]
  exact ⟨(x % 256).toNat, by omega, by omega⟩
theorem word_ex (k a b : Int) (s : ByteArray) : ∃ c : List Nat, c.length = 32 ∧ (∀ x ∈ c, x < 256) ∧ FnV Try.prog G0 25 [.agg [nI .i64 k, nI .i64 a, nI .i64 b, .v (.string s)]] (.agg (bts c)) := by
  obtain ⟨x, hx, hx2⟩ := u8_ex a
  obtain ⟨y, hy, hy2⟩ := u8_ex b
  obtain ⟨L, hL⟩ : ∃ L, L = (s.data.toList.map UInt8.toNat).take (s.size.min 32) ++ (List.replicate 32 0).drop ((s.data.toList.map UInt8.toNat).take (s.size.min 32)).length := ⟨_, rfl⟩
  have hlen : ((s.data.toList.map UInt8.toNat).take (s.size.min 32)).length ≤ 32 := by
    rw [List.length_take]
    exact Nat.le_trans (Nat.min_le_left _ _) (Nat.min_le_right _ _)
  have hL1 : L.length = 32 := by
    rw [hL, List.length_append, List.length_drop, List.length_replicate]
    omega
  have hL2 : ∀ x ∈ L, x < 256 := by
    intro x hx
    rw [hL] at hx
    rcases List.mem_append.1 hx with h | h
    · obtain ⟨b, _, rfl⟩ := List.mem_map.1 (List.mem_of_mem_take h)
      exact b.toNat_lt
    · have := List.eq_of_mem_replicate (List.mem_of_mem_drop h)
      omega
  refine ⟨(L.set 30 x).set 31 y, by simp [hL1], ?_, ?_⟩
  · intro z hz
    rcases List.mem_or_eq_of_mem_set hz with h | h
    · rcases List.mem_or_eq_of_mem_set h with h | h
      · exact hL2 z h
      · omega
    · omega
  refine fn_of_vwp Γok Try.func25 (by kernel_rfl) rfl (by simp [Try.ntmps25]) (wpv_ok Γok (by kernel_rfl) _ _ _ ?_); conv => whnf
  refine ⟨by kernel_rfl, ?_⟩
  rw [copy_cells (z := List.replicate 32 0) (L := L) (by rfl) (by rfl) (by exact hL)]
  conv => whnf
  rw [hx, hy]
  refine onlyIf_intro (by simp [bts_length, hL1]) ?_
  rw [splice_bts (i := 30) (by rfl) (by omega)]
  conv => whnf
  refine onlyIf_intro (by simp [bts_length, hL1]) ?_
  rw [splice_bts (i := 31) (by rfl) (by simp [hL1])]
  conv => whnf
  refine ⟨by kernel_rfl, ?_⟩
  conv => whnf
  refine bindP_intro (load_agg rfl rfl (by simp [bts_length, hL1])) ?_
  conv => whnf
  refine onlyIf_intro (by simp [bts_length, hL1]) ?_
  rw [splice_all (by simp [bts_length, hL1])]
  conv => whnf
  refine ⟨_, vres_one rfl (vres_cell rfl rfl (load_agg rfl rfl (by simp [bts_length, hL1]))), ?_⟩
  exact deepV_noH _ _ (by simp [noH, bts_noHs])
noncomputable def wordN (q : RawD) : List Nat := Classical.choose (word_ex q.k q.a q.b q.s)
theorem wordN_length (q : RawD) : (wordN q).length = 32 := (Classical.choose_spec (word_ex q.k q.a q.b q.s)).1
theorem wordN_lt (q : RawD) : ∀ x ∈ wordN q, x < 256 := (Classical.choose_spec (word_ex q.k q.a q.b q.s)).2.1
theorem word_fn (q : RawD) : FnV Try.prog G0 25 [q.v] (.agg (bts (wordN q))) := (Classical.choose_spec (word_ex q.k q.a q.b q.s)).2.2
end Go.Proofs.Ytmfgldfldejgcaa
