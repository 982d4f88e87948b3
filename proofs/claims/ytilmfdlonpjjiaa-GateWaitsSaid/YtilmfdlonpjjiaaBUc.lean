/- load: Check, Encode and Decode of whatever kind. -/
import Derived.Test.YtilmfdlonpjjiaaBUb
import Derived.Test.YtilmfdlonpjjiaaBUa
namespace Go.Proofs.Ytilmfdlonpjjiaa
set_option linter.unusedVariables false
set_option linter.unusedSimpArgs false
set_option linter.unusedSectionVars false
open Go.ChangeShapes Go.WideShapes Go.ChangeAt Go.RowKit Go.Joins
set_option maxRecDepth 10000
open Classical in
noncomputable def ldPut (l : LdD) : List Nat := l.kind :: if l.kind = 2 then ldPutM l else if l.kind = 4 then ldPutK l else ldPutT l
theorem OkL.lens {l : LdD} (h : OkL l) : l.token.length = 32 ∧ l.to.length = 32 := by
  rcases h with h | h | h
  · exact ⟨h.token, h.to⟩
  · exact ⟨h.token, by rw [h.rest.2.2.1]; rfl⟩
  · exact ⟨by rw [h.rest.2.2.1]; rfl, by rw [h.rest.2.2.2.2.1]; rfl⟩
theorem lcheck_all {C : List VV} {l : LdD} {fd fk : Bool} (c : LdC C l fd fk) (k : OkL l) : FnV Try.prog G0 15 [.agg C] (nI .i64 0) := by
  rcases k with k | k | k
  · exact lcheck_t c k
  · exact lcheck_m c k
  · exact lcheck_k c k
theorem lenc_all {C : List VV} {l : LdD} {fd fk : Bool} (c : LdC C l fd fk) (k : OkL l) : FnV Try.prog G0 12 [.agg C] (.tup [.ds false (ldPut l).length (bts (ldPut l)), nI .i64 0]) := by
  unfold ldPut
  rcases k with k | k | k
  · have := k.kind
    rw [if_neg (by omega), if_neg (by omega)]
    exact lenc_t c k
  · rw [if_pos k.kind]
    exact lenc_m c k
  · have := k.kind
    rw [if_neg (by omega), if_pos this]
    exact lenc_k c k
theorem ldPut_bytes {l : LdD} (k : OkL l) : ∀ x ∈ ldPut l, x < 256 := by
  intro x hx
  unfold ldPut at hx
  rcases List.mem_cons.1 hx with rfl | hx
  · rcases k with k | k | k
    · have := k.kind; omega
    · have := k.kind; omega
    · have := k.kind; omega
  · have n1 := nB_lt
    rcases k with k | k | k
    · have := k.kind
      rw [if_neg (by omega), if_neg (by omega)] at hx
      unfold ldPutT twoB at hx
      simp only [List.mem_append, List.mem_cons, List.not_mem_nil, or_false] at hx
      rcases hx with h | h | h | h | h | h | h
      · exact n1 _ _ h
      · exact k.tokenb _ h
      · omega
      · exact k.tob _ h
      · omega
      · exact n1 _ _ h
      · exact k.datab _ h
    · rw [if_pos k.kind] at hx
      unfold ldPutM twoB padB at hx
      simp only [List.mem_append, List.mem_cons, List.not_mem_nil, or_false] at hx
      rcases hx with h | h | h | h | h
      · exact k.tokenb _ h
      · omega
      · omega
      · exact (k.symb _ (List.mem_of_mem_take h)).2
      · have := List.eq_of_mem_replicate h; omega
    · have := k.kind
      rw [if_neg (by omega), if_pos this] at hx
      unfold ldPutK at hx
      simp only [List.mem_append, List.mem_cons, List.not_mem_nil, or_false, List.mem_flatten] at hx
      rcases hx with h | ⟨q, hq, h⟩
      · omega
      · exact k.keyb _ hq _ h
/-- What is read may be, and is written just so. -/
theorem ldDec_put {b : List Nat} (hb : ∀ x ∈ b, x < 256) (h : (ldDec b).1 = 0) : OkL (ldDec b).2 ∧ ldPut (ldDec b).2 = b ∧ ((ldDec b).2.kind = 1 ∨ (ldDec b).2.kind = 2 ∨ (ldDec b).2.kind = 3 ∨ (ldDec b).2.kind = 4) := by
  cases b with
  | nil => exact absurd h (show (4 : Nat) ≠ 0 by decide)
  | cons kd t =>
    replace hb : ∀ x ∈ t, x < 256 := fun x hx => hb x (List.mem_cons_of_mem _ hx)
    have h : (ldDec1 kd t).1 = 0 := h
    show OkL (ldDec1 kd t).2 ∧ ldPut (ldDec1 kd t).2 = kd :: t ∧ _
    show OkL (ldDec1 kd t).2 ∧ ldPut (ldDec1 kd t).2 = kd :: t ∧ ((ldDec1 kd t).2.kind = 1 ∨ (ldDec1 kd t).2.kind = 2 ∨ (ldDec1 kd t).2.kind = 3 ∨ (ldDec1 kd t).2.kind = 4)
    unfold ldDec1 at h ⊢
    by_cases k1 : kd = 1 ∨ kd = 3
    · rw [if_pos k1] at h ⊢
      by_cases h1 : t.length < 132
      · rw [if_pos h1] at h; exact absurd h (by decide)
      · rw [if_neg h1] at h ⊢
        by_cases h2 : chkT (decide (kd = 3)) (ldGetT kd t) = true
        · rw [if_pos h2]
          have kk : (ldGetT kd t).kind = kd := rfl
          refine ⟨.inl (okT_of hb k1 (by omega) h2), ?_, by dsimp only; rw [kk]; omega⟩
          unfold ldPut
          dsimp only
          rw [kk, if_neg (by omega), if_neg (by omega), ldPutT_get hb (by omega)]
        · rw [if_neg h2] at h; exact absurd h (by decide)
    · rw [if_neg k1] at h ⊢
      by_cases k2 : kd = 2
      · rw [if_pos k2] at h ⊢
        by_cases h1 : t.length < 67
        · rw [if_pos h1] at h; exact absurd h (by decide)
        · rw [if_neg h1] at h ⊢
          by_cases h3 : 67 < t.length
          · rw [if_pos h3] at h; exact absurd h (by decide)
          · rw [if_neg h3] at h ⊢
            by_cases h2 : chkM (ldGetM t) = true
            · rw [if_pos h2]
              have kk : (ldGetM t).kind = 2 := rfl
              refine ⟨.inr (.inl (okM_of hb (by omega) h2)), ?_, by dsimp only; rw [kk]; omega⟩
              unfold ldPut
              dsimp only
              rw [kk, if_pos rfl, ldPutM_get hb (by omega), k2]
            · rw [if_neg h2] at h; exact absurd h (by decide)
      · rw [if_neg k2] at h ⊢
        by_cases k4 : kd = 4
        · rw [if_pos k4] at h ⊢
          by_cases h1 : t.length < 5 ∨ t.length < 5 + 20 * t.getD 4 0
          · rw [if_pos h1] at h; exact absurd h (by decide)
          · rw [if_neg h1] at h ⊢
            by_cases h3 : 5 + 20 * t.getD 4 0 < t.length
            · rw [if_pos h3] at h; exact absurd h (by decide)
            · rw [if_neg h3] at h ⊢
              by_cases h2 : chkK (ldGetK t) = true
              · rw [if_pos h2]
                have kk : (ldGetK t).kind = 4 := rfl
                refine ⟨.inr (.inr (okK_of hb (by omega) h2)), ?_, by dsimp only; rw [kk]; omega⟩
                unfold ldPut
                dsimp only
                rw [kk, if_neg (by decide), if_pos rfl, ldPutK_get hb (by omega), k4]
              · rw [if_neg h2] at h; exact absurd h (by decide)
        · rw [if_neg k4] at h; exact absurd h (by decide)
/-- What was written is read. -/
theorem ldDec_of {l : LdD} (k : OkL l) : ldDec (ldPut l) = (0, l) := by
  unfold ldPut
  show ldDec1 l.kind (if l.kind = 2 then ldPutM l else if l.kind = 4 then ldPutK l else ldPutT l) = (0, l)
  unfold ldDec1
  rcases k with k | k | k
  · have kk := k.kind
    have pl := ldPutT_len k.token k.to
    rw [if_pos kk, if_neg (show ¬ l.kind = 2 by omega), if_neg (show ¬ l.kind = 4 by omega), if_neg (by omega), ldGetT_put k, if_pos k.chk]
  · have kk := k.kind
    have pl := (ldGetM_put k).2
    rw [if_neg (by omega), if_pos kk, if_pos kk, if_neg (by omega), if_neg (by omega), (ldGetM_put k).1, if_pos k.chk]
  · have kk := k.kind
    obtain ⟨p1, p2, p3⟩ := ldGetK_put k
    rw [if_neg (show ¬ (l.kind = 1 ∨ l.kind = 3) by omega), if_neg (show ¬ l.kind = 2 by omega), if_neg (show ¬ l.kind = 2 by omega), if_pos kk, if_pos kk, p3, if_neg (by omega), if_neg (by omega), p1, if_pos k.chk]
theorem ldPut_len {l : LdD} (k : OkL l) : (ldPut l).length ≤ 400 := by
  unfold ldPut
  rw [List.length_cons]
  rcases k with k | k | k
  · have := k.kind
    have pl := ldPutT_len k.token k.to
    have := k.len
    rw [if_neg (by omega), if_neg (by omega)]
    omega
  · have pl := (ldGetM_put k).2
    rw [if_pos k.kind]
    omega
  · have := k.kind
    have pl := (ldGetK_put k).2.1
    have := k.most
    rw [if_neg (by omega), if_pos (by omega)]
    omega
theorem ldR_ok {l : LdD} (k : OkL l) : LdC (ldR l) l (decide (l.kind = 2 ∨ l.kind = 4)) (decide (l.kind ≠ 4)) := ldC_ok k.lens.1 k.lens.2
end Go.Proofs.Ytilmfdlonpjjiaa
namespace Go.Proofs.Ytilmfdlonpjjiaa
set_option linter.unusedVariables false
set_option linter.unusedSimpArgs false
set_option linter.unusedSectionVars false
open Go.ChangeShapes Go.WideShapes Go.ChangeAt Go.RowKit Go.Joins
set_option maxRecDepth 10000
set_option linter.constructorNameAsVariable false
section
variable {H : Type} {enc : TypeId × Value → H} {r : Reach} {W : World} {base b0 : Nat} {spare : Nat → Bool} {held : Bool} {v : Value} {d : DataW H} {p : List MemPlace}
theorem bytes_open (hv : Value.okWide Try.prog W r b0 29 v) (h : DataW.Trod enc Try.prog W base spare held 29 v d p) : ∃ l : List Nat, l.length ≤ 9223372036854775807 ∧ (∀ x ∈ l, x < 256) ∧ VR (E0 W (fun _ => True)) (.ds false l.length (bts l)) v := by
  have hc4 : Try.prog.cellsOf 5 = 1 := by kernel_rfl
  obtain ⟨fuel, hf⟩ := h
  obtain ⟨a0, len, cap, rfl⟩ := Go.WideShapes.okWide_slice Try.underlying29 hv
  rcases Go.Deep.open_slice Try.underlying29 hf with ⟨hcs, _⟩ | ⟨a, len1, cap1, m, n, D, Pl, hcs, hb, hl, hm, hmm, _, hx⟩
  · simp only [Value.cells, List.cons.injEq, and_true] at hcs
    cases hcs
    exact ⟨[], Nat.zero_le _, by simp, by simp only [VR]; exact .inl ⟨rfl, rfl, none, rfl⟩⟩
  · simp only [Value.cells, List.cons.injEq, and_true] at hcs
    cases hcs
    unfold Value.okWide at hv
    rw [Try.underlying29] at hv
    have hv : Cell.okWide Try.prog W r b0 29 (.slice (some a) len cap) := hv
    unfold Cell.okWide at hv
    rw [Try.underlying29] at hv
    have hv : Cell.ok Try.prog W r b0 29 (.slice (some a) len cap) := hv
    unfold Cell.ok at hv
    rw [Try.underlying29] at hv
    obtain ⟨_, _, _, hspot, row, cells, hsh, _⟩ := hv
    have hlt : a.block < W.heap.size := by
      unfold World.shape? at hsh
      split at hsh
      · rename_i hh; exact (Array.getElem?_eq_some_iff.1 hh).1
      · cases hsh
    have hml : len ≤ m := by rw [hmm]; split <;> omega
    have hx' : ∀ i, i < len → ∃ q : Nat, q < 256 ∧ W.cells? base (a.add (i * 1)) 1 = some [.int .u8 q] := fun i hi => by
      obtain ⟨cs', h1, h2⟩ := hx i (by omega)
      obtain ⟨k, e1, _, w1⟩ := DataW.trod_int Try.underlying5 h2
      have b1 := bounds_u8 w1
      rw [hc4, e1] at h1
      refine ⟨k.toNat, by omega, ?_⟩
      rw [h1, show ((k.toNat : Nat) : Int) = k by omega]
    have key : ∀ k, k ≤ len → ∃ l : List Nat, l.length = k ∧ (∀ q ∈ l, q < 256) ∧ ∀ (i : Nat) (u : Value), (l.map fun (x : Nat) => Value.int .u8 x)[i]? = some u → W.cell? ⟨a.block, a.off + i, none⟩ = some u := by
      intro k
      induction k with
      | zero => exact fun _ => ⟨[], rfl, by simp, by simp⟩
      | succ k ih =>
        intro hk
        obtain ⟨l, l1, l2, l3⟩ := ih (by omega)
        obtain ⟨q, q1, q2⟩ := hx' k (by omega)
        refine ⟨l ++ [q], by simp [l1], ?_, fun i u hu => ?_⟩
        · intro x hx
          rcases List.mem_append.1 hx with h | h
          · exact l2 x h
          · simp at h; subst h; exact q1
        · rw [List.map_append, List.getElem?_append] at hu
          split at hu
          · exact l3 i u hu
          · rename_i hge
            rw [List.length_map, l1] at hu hge
            have hi1 : i - k < 1 := by
              have := (List.getElem?_eq_some_iff.1 hu).1
              simpa using this
            have hik : i = k := by omega
            subst hik
            have hu2 : u = .int .u8 q := by simpa using hu.symm
            obtain ⟨_, _, h3⟩ := World.cells?_some q2
            have h4 := h3 0 (by decide)
            rw [hu2]
            have ea : (a.add (i * 1)).add 0 = ⟨a.block, a.off + i, none⟩ := by
              obtain ⟨ab, ao, asp⟩ := a
              simp only at hspot; subst hspot
              rw [Addr.add_lit, Addr.add_lit, Nat.mul_one, Nat.add_zero]
            rw [ea] at h4
            exact h4
    obtain ⟨l, l1, l2, l3⟩ := key len (Nat.le_refl _)
    have hM : maxLen = 9223372036854775807 := by decide
    have hml2 : l.length ≤ 9223372036854775807 := by omega
    refine ⟨l, hml2, l2, ?_⟩
    simp only [VR]
    refine .inr ⟨a.block, a.off, cap, trivial, hlt, ?_, by omega, (by simp), l.map fun (x : Nat) => Value.int .u8 x, l3, ?_, ?_⟩
    · obtain ⟨ab, ao, asp⟩ := a
      simp only at hspot; subst hspot
      rw [l1]
    · clear l3 l2 l1 hml2
      unfold bts
      induction l with
      | nil => simp [VRs]
      | cons q l ih => exact VRs.cons rfl ih
    · intro u hu
      obtain ⟨q, _, rfl⟩ := List.mem_map.1 hu
      rfl
theorem bytes_openz (hz : ∀ e s, d = .slice e s → e.length ≤ 140737488351232) (hv : Value.okWide Try.prog W r b0 29 v) (h : DataW.Trod enc Try.prog W base spare held 29 v d p) : ∃ l : List Nat, l.length ≤ 140737488351232 ∧ (∀ x ∈ l, x < 256) ∧ VR (E0 W (fun _ => True)) (.ds false l.length (bts l)) v := by
  have hc4 : Try.prog.cellsOf 5 = 1 := by kernel_rfl
  obtain ⟨fuel, hf⟩ := h
  obtain ⟨a0, len, cap, rfl⟩ := Go.WideShapes.okWide_slice Try.underlying29 hv
  rcases Go.Deep.open_slice Try.underlying29 hf with ⟨hcs, _⟩ | ⟨a, len1, cap1, m, n, D, Pl, hcs, hb, hl, hm, hmm, hxe, hx⟩
  · simp only [Value.cells, List.cons.injEq, and_true] at hcs
    cases hcs
    exact ⟨[], Nat.zero_le _, by simp, by simp only [VR]; exact .inl ⟨rfl, rfl, none, rfl⟩⟩
  · simp only [Value.cells, List.cons.injEq, and_true] at hcs
    cases hcs
    unfold Value.okWide at hv
    rw [Try.underlying29] at hv
    have hv : Cell.okWide Try.prog W r b0 29 (.slice (some a) len cap) := hv
    unfold Cell.okWide at hv
    rw [Try.underlying29] at hv
    have hv : Cell.ok Try.prog W r b0 29 (.slice (some a) len cap) := hv
    unfold Cell.ok at hv
    rw [Try.underlying29] at hv
    obtain ⟨_, _, _, hspot, row, cells, hsh, _⟩ := hv
    have hlt : a.block < W.heap.size := by
      unfold World.shape? at hsh
      split at hsh
      · rename_i hh; exact (Array.getElem?_eq_some_iff.1 hh).1
      · cases hsh
    have hml : len ≤ m := by rw [hmm]; split <;> omega
    have hx' : ∀ i, i < len → ∃ q : Nat, q < 256 ∧ W.cells? base (a.add (i * 1)) 1 = some [.int .u8 q] := fun i hi => by
      obtain ⟨cs', h1, h2⟩ := hx i (by omega)
      obtain ⟨k, e1, _, w1⟩ := DataW.trod_int Try.underlying5 h2
      have b1 := bounds_u8 w1
      rw [hc4, e1] at h1
      refine ⟨k.toNat, by omega, ?_⟩
      rw [h1, show ((k.toNat : Nat) : Int) = k by omega]
    have key : ∀ k, k ≤ len → ∃ l : List Nat, l.length = k ∧ (∀ q ∈ l, q < 256) ∧ ∀ (i : Nat) (u : Value), (l.map fun (x : Nat) => Value.int .u8 x)[i]? = some u → W.cell? ⟨a.block, a.off + i, none⟩ = some u := by
      intro k
      induction k with
      | zero => exact fun _ => ⟨[], rfl, by simp, by simp⟩
      | succ k ih =>
        intro hk
        obtain ⟨l, l1, l2, l3⟩ := ih (by omega)
        obtain ⟨q, q1, q2⟩ := hx' k (by omega)
        refine ⟨l ++ [q], by simp [l1], ?_, fun i u hu => ?_⟩
        · intro x hx
          rcases List.mem_append.1 hx with h | h
          · exact l2 x h
          · simp at h; subst h; exact q1
        · rw [List.map_append, List.getElem?_append] at hu
          split at hu
          · exact l3 i u hu
          · rename_i hge
            rw [List.length_map, l1] at hu hge
            have hi1 : i - k < 1 := by
              have := (List.getElem?_eq_some_iff.1 hu).1
              simpa using this
            have hik : i = k := by omega
            subst hik
            have hu2 : u = .int .u8 q := by simpa using hu.symm
            obtain ⟨_, _, h3⟩ := World.cells?_some q2
            have h4 := h3 0 (by decide)
            rw [hu2]
            have ea : (a.add (i * 1)).add 0 = ⟨a.block, a.off + i, none⟩ := by
              obtain ⟨ab, ao, asp⟩ := a
              simp only at hspot; subst hspot
              rw [Addr.add_lit, Addr.add_lit, Nat.mul_one, Nat.add_zero]
            rw [ea] at h4
            exact h4
    obtain ⟨l, l1, l2, l3⟩ := key len (Nat.le_refl _)
    have hM : maxLen = 9223372036854775807 := by decide
    have hml2 : l.length ≤ 140737488351232 := by
      have := hz _ _ (Prod.mk.inj hxe).1
      rw [List.length_map, List.length_range] at this
      omega
    refine ⟨l, hml2, l2, ?_⟩
    simp only [VR]
    refine .inr ⟨a.block, a.off, cap, trivial, hlt, ?_, by omega, (by simp), l.map fun (x : Nat) => Value.int .u8 x, l3, ?_, ?_⟩
    · obtain ⟨ab, ao, asp⟩ := a
      simp only at hspot; subst hspot
      rw [l1]
    · clear l3 l2 l1 hml2
      unfold bts
      induction l with
      | nil => simp [VRs]
      | cons q l ih => exact VRs.cons rfl ih
    · intro u hu
      obtain ⟨q, _, rfl⟩ := List.mem_map.1 hu
      rfl
end
end Go.Proofs.Ytilmfdlonpjjiaa
