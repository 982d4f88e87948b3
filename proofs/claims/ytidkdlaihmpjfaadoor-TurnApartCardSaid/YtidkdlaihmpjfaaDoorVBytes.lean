/- wide.Bytes by the engine. -/
import Derived.Test.YtidkdlaihmpjfaaDoorVEq
namespace Go.Proofs.YtidkdlaihmpjfaaDoor
set_option linter.unusedVariables false
set_option linter.unusedSimpArgs false
set_option linter.unusedSectionVars false
open Go.ChangeShapes Go.WideShapes Go.ChangeAt Go.RowKit Go.Joins
set_option maxRecDepth 10000
/-- Cells of bytes. -/
def bts (l : List Nat) : List VV := l.map fun (x : Nat) => nI .u8 x
def bt (l : List Nat) (i : Nat) : Nat := l.getD (i / 8) 0 / 2 ^ (8 * (i % 8)) % 256
def btsTo (l : List Nat) (i : Nat) : List Nat := (List.range 32).map fun j => if 32 - i ≤ j then bt l (31 - j) else 0
theorem bts_noHs (l : List Nat) : noHs (bts l) = true := noHs_map (fun _ => rfl) l
theorem bts_length (l : List Nat) : (bts l).length = l.length := by simp [bts]
theorem bts_set (l : List Nat) (i x : Nat) : (bts l).set i (nI .u8 (x : Int)) = bts (l.set i x) := by simp [bts, List.map_set]
theorem splice_bts {l : List Nat} {j i x : Nat} (h : j = i) (hi : i < l.length) : (bts l).set j (VV.v (.int .u8 (x : Int))) = bts (l.set i x) := by
  subst h
  exact bts_set l j x
theorem btsTo_length (l : List Nat) (i : Nat) : (btsTo l i).length = 32 := by simp [btsTo]
theorem btsTo_set (l : List Nat) (i : Nat) (h : i < 32) : (btsTo l i).set (31 - i) (bt l i) = btsTo l (i + 1) := by
  refine List.ext_getElem (by simp [btsTo]) fun j h1 h2 => ?_
  have hj : j < 32 := by simpa [btsTo] using h2
  simp only [btsTo, List.getElem_set, List.getElem_map, List.getElem_range]
  by_cases e : 31 - i = j
  · rw [if_pos e, if_pos (by omega), show 31 - j = i by omega]
  · rw [if_neg e]
    by_cases e2 : 32 - i ≤ j
    · rw [if_pos e2, if_pos (by omega)]
    · rw [if_neg e2, if_neg (by omega)]
theorem bytes_fn (l : List Nat) (hl : l.length = 4) (hb : ∀ x ∈ l, x < 2 ^ 64) : FnV Tryd.prog G0 52 [.agg (words l)] (.agg (bts (btsTo l 32))) := by
  refine fn_of_vwp Γok Tryd.func52 (by kernel_rfl) rfl (by simp [Tryd.ntmps52]) (wpv_ok Γok (by kernel_rfl) _ _ _ ?_); conv => whnf
  refine vloop_invP (X := Nat) (fun i => ⟨[(5, nI .i64 i), (3, .ptr 2 0), (2, .ptr 1 0), (1, .ptr 0 0)], Tryd.f52.ntmps, [(2, some (bts (btsTo l i))), (1, some (List.replicate 32 (nI .u8 0))), (0, some (words l))], 3⟩)
    (fun i => i ≤ 32) (fun i => 32 - i) 0
    (sub_conv G0ok [(0, some 0), (1, some 1), (2, some 2)] rfl rfl ⟨⟨_, rfl, conv_nI rfl⟩, ⟨_, rfl, .ptr rfl⟩, ⟨_, rfl, .ptr rfl⟩, ⟨_, rfl, .ptr rfl⟩, trivial⟩
      ⟨.inr ⟨_, _, rfl, rfl, convs_eq rfl (bts_noHs _)⟩, .inr ⟨_, _, rfl, rfl, convs_eq rfl rfl⟩, .inr ⟨_, _, rfl, rfl, convs_eq rfl (words_noHs _)⟩, trivial⟩) (Nat.zero_le _) ?_
  intro i hi
  dsimp only at hi ⊢
  refine wpv_ok Γok (by kernel_rfl) _ _ _ ?_; conv => whnf
  refine bool_cases (fun hc => ?_) (fun hc => ?_)
  · have hc := of_decide_eq_true hc
    conv => whnf
    rw [Int.tdiv_eq_ediv_of_nonneg (by omega), ws_i64 (x := (i : Int) / 8) (by omega) (by omega)]
    conv => whnf
    refine bindP_intro (if_pos (inB_ok (by omega) (by omega))) ?_; conv => whnf
    refine bindP_intro (words_ix (i := i / 8) (by dsimp only; omega) (by omega)) ?_
    conv => whnf
    rw [Int.tmod_eq_emod_of_nonneg (by omega), ws_i64 (x := 8 * ((i : Int) % 8)) (by omega) (by omega), show 8 * ((i : Int) % 8) = ((8 * (i % 8) : Nat) : Int) from by omega]
    conv => whnf
    have hx := getD_lt (by omega) hb (i / 8)
    rw [shr_val (k := .u64) (x := l.getD (i / 8) 0) (n := 8 * (i % 8)) (by simp only [IntKind.bits]; omega), ws_u8, show (((l.getD (i / 8) 0 / 2 ^ (8 * (i % 8)) : Nat) : Int) % 256) = ((bt l i : Nat) : Int) from by unfold bt; push_cast; rfl]
    rw [ws_i64 (x := 31 - (i : Int)) (by omega) (by omega)]
    conv => whnf
    refine bindP_intro (if_pos (inB_ok (by omega) (by omega))) ?_; conv => whnf
    refine onlyIf_intro ?_ ?_
    · simp [bts_length, btsTo_length]
    conv => whnf
    rw [splice_bts (i := 31 - i) (by dsimp only; omega) (by rw [btsTo_length]; omega), btsTo_set l i (by omega)]
    conv => whnf
    refine ⟨i + 1, sub_conv G0ok [(0, some 0), (1, some 1), (2, some 2)] rfl rfl ⟨⟨_, rfl, conv_nI (ws_i64 (by omega) (by omega))⟩, ⟨_, rfl, .ptr rfl⟩, ⟨_, rfl, .ptr rfl⟩, ⟨_, rfl, .ptr rfl⟩, trivial⟩
      ⟨.inr ⟨_, _, rfl, rfl, convs_eq rfl (bts_noHs _)⟩, .inr ⟨_, _, rfl, rfl, convs_eq rfl rfl⟩, .inr ⟨_, _, rfl, rfl, convs_eq rfl (words_noHs _)⟩, trivial⟩, by omega, by omega⟩
  · have hc := of_decide_eq_false hc
    have hi2 : i = 32 := by omega
    subst hi2
    conv => whnf
    exact ⟨_, rfl, rfl⟩
theorem bts_map (l : List Nat) : bts l = (l.map fun (x : Nat) => (x : Int)).map fun x => nI .u8 x := by simp [bts]
theorem eq_b32 {l m : List Nat} (hl : l.length = 32) (hm : m.length = 32) : EqAgg Tryd.prog .eql 36 (bts l) (bts m) (decide (l = m)) := by
  have h := eqAgg_ints (k := .u8) Γok (t := 36) (e := 5) Tryd.underlying36 rfl rfl rfl Tryd.underlying5 (by kernel_rfl) (l.map fun (x : Nat) => (x : Int)) (m.map fun (x : Nat) => (x : Int)) (by simpa using hl) (by simpa using hm)
  rw [← bts_map, ← bts_map] at h
  rw [show decide (l = m) = decide ((l.map fun (x : Nat) => (x : Int)) = m.map fun (x : Nat) => (x : Int)) from decide_eq_decide.2 (map_cast_eq _ _).symm]
  exact h
end Go.Proofs.YtidkdlaihmpjfaaDoor
