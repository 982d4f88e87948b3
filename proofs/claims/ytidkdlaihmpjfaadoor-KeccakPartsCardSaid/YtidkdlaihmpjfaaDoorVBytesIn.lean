/- A list of bytes that came in. -/
import Derived.Test.YtidkdlaihmpjfaaDoorVBytes
namespace Go.Proofs.YtidkdlaihmpjfaaDoor
set_option linter.unusedVariables false
set_option linter.unusedSimpArgs false
set_option linter.unusedSectionVars false
open Go.ChangeShapes Go.WideShapes Go.ChangeAt Go.RowKit Go.Joins
set_option maxRecDepth 10000
set_option linter.constructorNameAsVariable false
section
variable {H : Type} {enc : TypeId × Value → H} {r : Reach} {W : World} {base b0 : Nat} {spare : Nat → Bool} {held : Bool} {v : Value} {d : DataW H} {p : List MemPlace}
theorem bytes_open (hv : Value.okWide Tryd.prog W r b0 27 v) (h : DataW.Trod enc Tryd.prog W base spare held 27 v d p) : ∃ l : List Nat, l.length ≤ 9223372036854775807 ∧ (∀ x ∈ l, x < 256) ∧ VR (E0 W (fun _ => True)) (.ds false l.length (bts l)) v := by
  have hc4 : Tryd.prog.cellsOf 5 = 1 := by kernel_rfl
  obtain ⟨fuel, hf⟩ := h
  obtain ⟨a0, len, cap, rfl⟩ := Go.WideShapes.okWide_slice Tryd.underlying27 hv
  rcases Go.Deep.open_slice Tryd.underlying27 hf with ⟨hcs, _⟩ | ⟨a, len1, cap1, m, n, D, Pl, hcs, hb, hl, hm, hmm, _, hx⟩
  · simp only [Value.cells, List.cons.injEq, and_true] at hcs
    cases hcs
    exact ⟨[], Nat.zero_le _, by simp, by simp only [VR]; exact .inl ⟨rfl, rfl, none, rfl⟩⟩
  · simp only [Value.cells, List.cons.injEq, and_true] at hcs
    cases hcs
    unfold Value.okWide at hv
    rw [Tryd.underlying27] at hv
    have hv : Cell.okWide Tryd.prog W r b0 27 (.slice (some a) len cap) := hv
    unfold Cell.okWide at hv
    rw [Tryd.underlying27] at hv
    have hv : Cell.ok Tryd.prog W r b0 27 (.slice (some a) len cap) := hv
    unfold Cell.ok at hv
    rw [Tryd.underlying27] at hv
    obtain ⟨_, _, _, hspot, row, cells, hsh, _⟩ := hv
    have hlt : a.block < W.heap.size := by
      unfold World.shape? at hsh
      split at hsh
      · rename_i hh; exact (Array.getElem?_eq_some_iff.1 hh).1
      · cases hsh
    have hml : len ≤ m := by rw [hmm]; split <;> omega
    have hx' : ∀ i, i < len → ∃ q : Nat, q < 256 ∧ W.cells? base (a.add (i * 1)) 1 = some [.int .u8 q] := fun i hi => by
      obtain ⟨cs', h1, h2⟩ := hx i (by omega)
      obtain ⟨k, e1, _, w1⟩ := DataW.trod_int Tryd.underlying5 h2
      have b1 := bounds_u8 w1
      rw [hc4, e1] at h1
      refine ⟨k.toNat, by omega, ?_⟩
      rw [h1, show ((k.toNat : Nat) : Int) = k by omega]
    have key : ∀ k, k ≤ len → ∃ l : List Nat, l.length = k ∧ (∀ q ∈ l, q < 256) ∧ ∀ (i : Nat) (u : Value), (l.map fun (x : Nat) => Value.int .u8 x)[i]? = some u → W.cell? ⟨a.block, a.off + i, none⟩ = some u := by
      intro k
      induction k with
      | zero => exact fun _ => ⟨[], rfl, by simp, by simp⟩
      | succ k ih =>
        intro hk
        obtain ⟨l, l1, l2, l3⟩ := ih (by omega)
        obtain ⟨q, q1, q2⟩ := hx' k (by omega)
        refine ⟨l ++ [q], by simp [l1], ?_, fun i u hu => ?_⟩
        · intro x hx
          rcases List.mem_append.1 hx with h | h
          · exact l2 x h
          · simp at h; subst h; exact q1
        · rw [List.map_append, List.getElem?_append] at hu
          split at hu
          · exact l3 i u hu
          · rename_i hge
            rw [List.length_map, l1] at hu hge
            have hi1 : i - k < 1 := by
              have := (List.getElem?_eq_some_iff.1 hu).1
              simpa using this
            have hik : i = k := by omega
            subst hik
            have hu2 : u = .int .u8 q := by simpa using hu.symm
            obtain ⟨_, _, h3⟩ := World.cells?_some q2
            have h4 := h3 0 (by decide)
            rw [hu2]
            have ea : (a.add (i * 1)).add 0 = ⟨a.block, a.off + i, none⟩ := by
              obtain ⟨ab, ao, asp⟩ := a
              simp only at hspot; subst hspot
              rw [Addr.add_lit, Addr.add_lit, Nat.mul_one, Nat.add_zero]
            rw [ea] at h4
            exact h4
    obtain ⟨l, l1, l2, l3⟩ := key len (Nat.le_refl _)
    have hM : maxLen = 9223372036854775807 := by decide
    have hml2 : l.length ≤ 9223372036854775807 := by omega
    refine ⟨l, hml2, l2, ?_⟩
    simp only [VR]
    refine .inr ⟨a.block, a.off, cap, trivial, hlt, ?_, by omega, (by simp), l.map fun (x : Nat) => Value.int .u8 x, l3, ?_, ?_⟩
    · obtain ⟨ab, ao, asp⟩ := a
      simp only at hspot; subst hspot
      rw [l1]
    · clear l3 l2 l1 hml2
      unfold bts
      induction l with
      | nil => simp [VRs]
      | cons q l ih => exact VRs.cons rfl ih
    · intro u hu
      obtain ⟨q, _, rfl⟩ := List.mem_map.1 hu
      rfl
end
end Go.Proofs.YtidkdlaihmpjfaaDoor
