/- paper's pen, by the engine. -/
import Derived.Test.YtidkdlaihmpjfaaDoorBUb
import Derived.Test.YtidkdlaihmpjfaaDoorVRows
import Derived.Test.YtidkdlaihmpjfaaDoorBUd
import Derived.Test.YtidkdlaihmpjfaaDoorVLaw
import Derived.Test.YtidkdlaihmpjfaaDoorBUc
namespace Go.Proofs.YtidkdlaihmpjfaaDoor
set_option linter.unusedVariables false
set_option linter.unusedSimpArgs false
set_option linter.unusedSectionVars false
open Go.ChangeShapes Go.WideShapes Go.ChangeAt Go.RowKit Go.Joins
set_option maxRecDepth 10000
/-- A number's bytes, the highest one first. -/
def be (n : Nat) : Nat → List Nat
  | 0 => []
  | s + 1 => n / 2 ^ (8 * s) % 256 :: be n s
theorem be_len (n : Nat) : ∀ s, (be n s).length = s
  | 0 => rfl
  | s + 1 => by rw [be, List.length_cons, be_len n s]
theorem be_at (n : Nat) : ∀ (s j : Nat) (h : j < (be n s).length), (be n s)[j] = n / 2 ^ (8 * (s - 1 - j)) % 256
  | 0, j, h => by cases h
  | s + 1, 0, h => by simp [be]
  | s + 1, j + 1, h => by
    have := be_at n s j (by rw [be_len] at h ⊢; omega)
    simp only [be, List.getElem_cons_succ]
    rw [this, show s + 1 - 1 - (j + 1) = s - 1 - j by omega]
/-- The first bytes, but the last j. -/
def beTo (n s j : Nat) : List Nat := (be n s).take (s - j)
theorem beTo_step {n s j : Nat} (h : j < s) : beTo n s j = beTo n s (j + 1) ++ [n / 2 ^ (8 * j) % 256] := by
  unfold beTo
  rw [show s - j = (s - (j + 1)) + 1 by omega, List.take_add_one, List.getElem?_eq_getElem (by rw [be_len]; omega), be_at]
  rw [show s - 1 - (s - (j + 1)) = j by omega]
  rfl
theorem beTo_all (n s : Nat) : beTo n s s = [] := by unfold beTo; rw [Nat.sub_self, List.take_zero]
theorem beTo_zero (n s : Nat) : beTo n s 0 = be n s := by unfold beTo; rw [Nat.sub_zero, List.take_of_length_le (by rw [be_len]; exact Nat.le_refl _)]
theorem pen_byte {n i : Nat} (hi : i ≤ 7) : nI .u8 (wS .u8 ((n : Int).fdiv (2 ^ min ((8 * i : Nat) : Int).toNat IntKind.i64.bits))) = nI .u8 ((n / 2 ^ (8 * i) % 256 : Nat) : Int) := by
  rw [shr_val (k := .i64) (x := n) (n := 8 * i) (by simp only [IntKind.bits]; omega), ws_u8]
  congr 1
theorem number_fnH {l : List Nat} {n s : Nat} (hs : s < 8) (hl : l.length ≤ 100000) : FnH Tryd.prog G0 69 [.ptr 0 0, nI .i64 n, nI .i64 (s + 1 : Nat)] [(0, some [.sl 1 0 l.length 1]), (1, some (bts l))] 2 (.tup []) [(0, some [.sl 2 0 (l ++ be n (s + 1)).length 1]), (2, some (bts (l ++ be n (s + 1))))] 1 := by
  have l1 : (bts l).length = l.length := bts_length l
  refine fnH_of_vwp Γok G0ok Tryd.func69 (by kernel_rfl) rfl (by simp [Tryd.ntmps69]) (wpv_ok Γok (by kernel_rfl) _ _ _ ?_); conv => whnf
  rw [ws_i64 (x := ((s + 1 : Nat) : Int) - 1) (by omega) (by omega), show ((s + 1 : Nat) : Int) - 1 = (s : Int) from by omega]
  refine vloop_unroll ?_
  refine wpv_ok Γok (by kernel_rfl) _ _ _ ?_; conv => whnf
  rw [decide_eq_true (show (s : Int) ≥ 0 by omega)]
  conv => whnf
  try (refine ⟨by kernel_rfl, ?_⟩; conv => whnf)
  rw [ws_i64 (x := 8 * (s : Int)) (by omega) (by omega), show 8 * (s : Int) = ((8 * s : Nat) : Int) from by omega]
  conv => whnf
  try (refine ⟨by kernel_rfl, ?_⟩; conv => whnf)
  refine .ownAs 1 (bts [n / 2 ^ (8 * s) % 256]) rfl (congrArg (fun v => [v]) (pen_byte (by omega))) ?_
  conv => whnf
  try (refine ⟨by kernel_rfl, ?_⟩; conv => whnf)
  refine onlyIf_intro (by show (Nat.beq (bts l).length _ && _) = true; rw [l1]; simp [maxLen]; omega) ?_
  have e1 : l ++ [n / 2 ^ (8 * s) % 256] = l ++ beTo n (s + 1) s := by rw [beTo_step (by omega), beTo_all]; rfl
  refine .ownAs (l ++ beTo n (s + 1) s).length (bts (l ++ beTo n (s + 1) s)) (by rw [← e1, List.length_append]; rfl) (by rw [← e1]; simp [bts]) ?_
  conv => whnf
  try (refine ⟨by kernel_rfl, ?_⟩; conv => whnf)
  refine vloop_invK G0ok [(0, some 0), (1, some 1), (2, some 3)] 3 (X := Nat) (fun j => [(6, nI .i64 ((j : Int) - 1)), (1, nI .i64 n), (0, .ptr 0 0)])
    (fun j => [(0, some [.sl 2 0 (l ++ beTo n (s + 1) j).length 1]), (2, some (bts (l ++ beTo n (s + 1) j)))]) (fun j => j ≤ s) (fun j => j) s rfl ⟨⟨_, rfl, conv_nI (ws_i64 (by omega) (by omega))⟩, ⟨_, rfl, conv_nI (rfl)⟩, ⟨_, rfl, .ptr rfl⟩, trivial⟩ ⟨.inr ⟨_, _, rfl, rfl, .cons (.sl rfl) .nil⟩, .inr ⟨_, _, rfl, rfl, .same (bts_noHs _)⟩, trivial⟩ (Nat.le_refl _) ?_
  intro j hj
  try dsimp only at hj
  try dsimp only
  refine wpv_ok Γok (by kernel_rfl) _ _ _ ?_; conv => whnf
  by_cases hc : j = 0
  · subst hc
    conv => whnf
    try (refine ⟨by kernel_rfl, ?_⟩; conv => whnf)
    rw [beTo_zero]
    exact ⟨_, rfl, [(0, some 0), (1, some 1), (2, some 2)], rfl, rfl, .same rfl, ⟨.inr ⟨_, _, rfl, rfl, .cons (.sl rfl) .nil⟩, .inr ⟨_, _, rfl, rfl, .same (bts_noHs _)⟩, trivial⟩⟩
  · obtain ⟨i, rfl⟩ : ∃ i, j = i + 1 := ⟨j - 1, by omega⟩
    rw [show ((i + 1 : Nat) : Int) - 1 = (i : Int) from by omega, decide_eq_true (show (i : Int) ≥ 0 by omega)]
    have l3 : (l ++ beTo n (s + 1) (i + 1)).length ≤ l.length + 8 := by unfold beTo; rw [List.length_append, List.length_take, be_len]; omega
    have e1 : (l ++ beTo n (s + 1) (i + 1)) ++ [n / 2 ^ (8 * i) % 256] = l ++ beTo n (s + 1) i := by rw [beTo_step (j := i) (by omega), List.append_assoc]
    refine gen_ex (l ++ beTo n (s + 1) (i + 1)) fun L eL => ?_
    rw [← eL] at l3 e1 ⊢
    clear eL
    have l2 : (bts L).length = L.length := bts_length _
    conv => whnf
    try (refine ⟨by kernel_rfl, ?_⟩; conv => whnf)
    rw [ws_i64 (x := 8 * (i : Int)) (by omega) (by omega), show 8 * (i : Int) = ((8 * i : Nat) : Int) from by omega]
    conv => whnf
    try (refine ⟨by kernel_rfl, ?_⟩; conv => whnf)
    refine .ownAs 1 (bts [n / 2 ^ (8 * i) % 256]) rfl (congrArg (fun v => [v]) (pen_byte (by omega))) ?_
    conv => whnf
    try (refine ⟨by kernel_rfl, ?_⟩; conv => whnf)
    refine onlyIf_intro (by show (Nat.beq (bts L).length _ && _) = true; rw [l2]; simp [maxLen]; omega) ?_
    refine .ownAs (l ++ beTo n (s + 1) i).length (bts (l ++ beTo n (s + 1) i)) (by rw [← e1, List.length_append]; rfl) (by rw [← e1]; simp [bts]) ?_
    conv => whnf
    try (refine ⟨by kernel_rfl, ?_⟩; conv => whnf)
    refine next_round (y := i + 1) G0ok i [(0, some 0), (1, some 1), (2, some 4)] rfl ⟨⟨_, rfl, conv_nI (ws_i64 (by omega) (by omega))⟩, ⟨_, rfl, conv_nI (rfl)⟩, ⟨_, rfl, .ptr rfl⟩, trivial⟩ ⟨.inr ⟨_, _, rfl, rfl, .cons (.sl rfl) .nil⟩, .inr ⟨_, _, rfl, rfl, .same (bts_noHs _)⟩, trivial⟩ (by omega) (by omega)
theorem number_nil {n s : Nat} (hs : s < 8) : FnH Tryd.prog G0 69 [.ptr 0 0, nI .i64 n, nI .i64 (s + 1 : Nat)] [(0, some [.ds true 0 []])] 1 (.tup []) [(0, some [.sl 1 0 (be n (s + 1)).length 1]), (1, some (bts (be n (s + 1))))] 1 := by
  refine fnH_of_vwp Γok G0ok Tryd.func69 (by kernel_rfl) rfl (by simp [Tryd.ntmps69]) (wpv_ok Γok (by kernel_rfl) _ _ _ ?_); conv => whnf
  rw [ws_i64 (x := ((s + 1 : Nat) : Int) - 1) (by omega) (by omega), show ((s + 1 : Nat) : Int) - 1 = (s : Int) from by omega]
  refine vloop_unroll ?_
  refine wpv_ok Γok (by kernel_rfl) _ _ _ ?_; conv => whnf
  rw [decide_eq_true (show (s : Int) ≥ 0 by omega)]
  conv => whnf
  try (refine ⟨by kernel_rfl, ?_⟩; conv => whnf)
  rw [ws_i64 (x := 8 * (s : Int)) (by omega) (by omega), show 8 * (s : Int) = ((8 * s : Nat) : Int) from by omega]
  conv => whnf
  try (refine ⟨by kernel_rfl, ?_⟩; conv => whnf)
  refine .ownAs 1 (bts [n / 2 ^ (8 * s) % 256]) rfl (congrArg (fun v => [v]) (pen_byte (by omega))) ?_
  conv => whnf
  try (refine ⟨by kernel_rfl, ?_⟩; conv => whnf)
  have e1 : [n / 2 ^ (8 * s) % 256] = beTo n (s + 1) s := by rw [beTo_step (by omega), beTo_all]; rfl
  refine .ownAs (beTo n (s + 1) s).length (bts (beTo n (s + 1) s)) (by rw [← e1]; rfl) (by rw [← e1]; simp [bts]) ?_
  conv => whnf
  try (refine ⟨by kernel_rfl, ?_⟩; conv => whnf)
  refine vloop_invK G0ok [(0, some 0), (1, some 2)] 2 (X := Nat) (fun j => [(6, nI .i64 ((j : Int) - 1)), (1, nI .i64 n), (0, .ptr 0 0)])
    (fun j => [(0, some [.sl 1 0 (beTo n (s + 1) j).length 1]), (1, some (bts (beTo n (s + 1) j)))]) (fun j => j ≤ s) (fun j => j) s rfl ⟨⟨_, rfl, conv_nI (ws_i64 (by omega) (by omega))⟩, ⟨_, rfl, conv_nI (rfl)⟩, ⟨_, rfl, .ptr rfl⟩, trivial⟩ ⟨.inr ⟨_, _, rfl, rfl, .cons (.sl rfl) .nil⟩, .inr ⟨_, _, rfl, rfl, .same (bts_noHs _)⟩, trivial⟩ (Nat.le_refl _) ?_
  intro j hj
  try dsimp only at hj
  try dsimp only
  refine wpv_ok Γok (by kernel_rfl) _ _ _ ?_; conv => whnf
  by_cases hc : j = 0
  · subst hc
    conv => whnf
    try (refine ⟨by kernel_rfl, ?_⟩; conv => whnf)
    rw [beTo_zero]
    exact ⟨_, rfl, [(0, some 0), (1, some 1)], rfl, rfl, .same rfl, ⟨.inr ⟨_, _, rfl, rfl, .cons (.sl rfl) .nil⟩, .inr ⟨_, _, rfl, rfl, .same (bts_noHs _)⟩, trivial⟩⟩
  · obtain ⟨i, rfl⟩ : ∃ i, j = i + 1 := ⟨j - 1, by omega⟩
    rw [show ((i + 1 : Nat) : Int) - 1 = (i : Int) from by omega, decide_eq_true (show (i : Int) ≥ 0 by omega)]
    have l3 : (beTo n (s + 1) (i + 1)).length ≤ 8 := by unfold beTo; rw [List.length_take, be_len]; omega
    have e1 : (beTo n (s + 1) (i + 1)) ++ [n / 2 ^ (8 * i) % 256] = beTo n (s + 1) i := by rw [beTo_step (j := i) (by omega)]
    refine gen_ex (beTo n (s + 1) (i + 1)) fun L eL => ?_
    rw [← eL] at l3 e1 ⊢
    clear eL
    have l2 : (bts L).length = L.length := bts_length _
    conv => whnf
    try (refine ⟨by kernel_rfl, ?_⟩; conv => whnf)
    rw [ws_i64 (x := 8 * (i : Int)) (by omega) (by omega), show 8 * (i : Int) = ((8 * i : Nat) : Int) from by omega]
    conv => whnf
    try (refine ⟨by kernel_rfl, ?_⟩; conv => whnf)
    refine .ownAs 1 (bts [n / 2 ^ (8 * i) % 256]) rfl (congrArg (fun v => [v]) (pen_byte (by omega))) ?_
    conv => whnf
    try (refine ⟨by kernel_rfl, ?_⟩; conv => whnf)
    refine onlyIf_intro (by show (Nat.beq (bts L).length _ && _) = true; rw [l2]; simp [maxLen]; omega) ?_
    refine .ownAs (beTo n (s + 1) i).length (bts (beTo n (s + 1) i)) (by rw [← e1, List.length_append]; rfl) (by rw [← e1]; simp [bts]) ?_
    conv => whnf
    try (refine ⟨by kernel_rfl, ?_⟩; conv => whnf)
    refine next_round (y := i + 1) G0ok i [(0, some 0), (1, some 3)] rfl ⟨⟨_, rfl, conv_nI (ws_i64 (by omega) (by omega))⟩, ⟨_, rfl, conv_nI (rfl)⟩, ⟨_, rfl, .ptr rfl⟩, trivial⟩ ⟨.inr ⟨_, _, rfl, rfl, .cons (.sl rfl) .nil⟩, .inr ⟨_, _, rfl, rfl, .same (bts_noHs _)⟩, trivial⟩ (by omega) (by omega)
theorem bytes_ds {l r : List Nat} (f : Bool) (hl : l.length ≤ 100000) (hr : r.length ≤ 100000) : FnH Tryd.prog G0 70 [.ptr 0 0, .ds f r.length (bts r)] [(0, some [.sl 1 0 l.length 1]), (1, some (bts l))] 2 (.tup []) [(0, some [.sl 2 0 (l ++ r).length 1]), (2, some (bts (l ++ r)))] 1 := by
  have l1 : (bts l).length = l.length := bts_length l
  have l2 : (bts r).length = r.length := bts_length r
  refine fnH_of_vwp Γok G0ok Tryd.func70 (by kernel_rfl) rfl (by simp [Tryd.ntmps70]) (wpv_ok Γok (by kernel_rfl) _ _ _ ?_); conv => whnf
  refine onlyIf_intro (by show (_ && (_ && Nat.beq (bts r).length _)) = true; rw [l2]; simp) ?_
  conv => whnf
  try (refine ⟨by kernel_rfl, ?_⟩; conv => whnf)
  refine onlyIf_intro (by show (Nat.beq (bts l).length _ && _) = true; rw [l1]; simp [maxLen]; omega) ?_
  refine .ownAs (l ++ r).length (bts (l ++ r)) (by rw [List.length_append]) (by simp [bts]) ?_
  conv => whnf
  try (refine ⟨by kernel_rfl, ?_⟩; conv => whnf)
  exact ⟨_, rfl, [(0, some 0), (1, some 1), (2, some 2)], rfl, rfl, .same rfl, ⟨.inr ⟨_, _, rfl, rfl, .cons (.sl rfl) .nil⟩, .inr ⟨_, _, rfl, rfl, .same (bts_noHs _)⟩, trivial⟩⟩
theorem bytes_own {l r : List Nat} {cs : List VV} {off : Nat} (hv : (cs.drop off).take (r.length * 1) = bts r) (ho : off + r.length * 1 ≤ cs.length) (nc : noHs cs = true) (hl : l.length ≤ 100000) (hr : r.length ≤ 100000) : FnH Tryd.prog G0 70 [.ptr 0 0, .sl 2 off r.length 1] [(0, some [.sl 1 0 l.length 1]), (1, some (bts l)), (2, some cs)] 3 (.tup []) [(0, some [.sl 3 0 (l ++ r).length 1]), (2, some cs), (3, some (bts (l ++ r)))] 1 := by
  have l1 : (bts l).length = l.length := bts_length l
  have l2 : (bts r).length = r.length := bts_length r
  refine fnH_of_vwp Γok G0ok Tryd.func70 (by kernel_rfl) rfl (by simp [Tryd.ntmps70]) (wpv_ok Γok (by kernel_rfl) _ _ _ ?_); conv => whnf
  refine bindP_intro (view_sub rfl ho hv) ?_
  conv => whnf
  try (refine ⟨by kernel_rfl, ?_⟩; conv => whnf)
  refine onlyIf_intro (by show (_ && (_ && Nat.beq (bts r).length _)) = true; rw [l2]; simp) ?_
  conv => whnf
  try (refine ⟨by kernel_rfl, ?_⟩; conv => whnf)
  refine onlyIf_intro (by show (Nat.beq (bts l).length _ && _) = true; rw [l1]; simp [maxLen]; omega) ?_
  refine .ownAs (l ++ r).length (bts (l ++ r)) (by rw [List.length_append]) (by simp [bts]) ?_
  conv => whnf
  try (refine ⟨by kernel_rfl, ?_⟩; conv => whnf)
  exact ⟨_, rfl, [(0, some 0), (1, some 1), (2, some 2), (3, some 3)], rfl, rfl, .same rfl, ⟨.inr ⟨_, _, rfl, rfl, .cons (.sl rfl) .nil⟩, .inr ⟨_, _, rfl, rfl, .same (nc)⟩, .inr ⟨_, _, rfl, rfl, .same (bts_noHs _)⟩, trivial⟩⟩
end Go.Proofs.YtidkdlaihmpjfaaDoor
namespace Go.Proofs.YtidkdlaihmpjfaaDoor
set_option linter.unusedVariables false
set_option linter.unusedSimpArgs false
set_option linter.unusedSectionVars false
open Go.ChangeShapes Go.WideShapes Go.ChangeAt Go.RowKit Go.Joins
set_option maxRecDepth 10000
mutual
theorem rnV_no (f : Nat → Nat) : ∀ (v : VV), noH v = true → rnV f v = v
  | .v x, _ => rfl
  | .agg cs, h => congrArg VV.agg (rnVs_no f cs h)
  | .tup cs, h => congrArg VV.tup (rnVs_no f cs h)
  | .ptr _ _, h => (by simp [noH] at h)
  | .sl _ _ _ _, h => (by simp [noH] at h)
  | .ds _ _ _, _ => rfl
  | .dp _ _, _ => rfl
  | .fn g caps, h => congrArg (VV.fn g) (rnVs_no f caps h)
  | .ifc t x, h => congrArg (VV.ifc t) (rnV_no f x h)
  | .any, _ => rfl
theorem rnVs_no (f : Nat → Nat) : ∀ (cs : List VV), noHs cs = true → rnVs f cs = cs
  | [], _ => rfl
  | c :: cs, h => by
    simp only [noHs, Bool.and_eq_true] at h
    simp only [rnVs, rnV_no f c h.1, rnVs_no f cs h.2]
end
theorem ret_pen1 {g : FuncId} {args : List VV} {b n p : Nat} {r : List VV} {lkf : Nat → Option (List VV)}
    (h : FnH Tryd.prog G0 g (.ptr 0 0 :: args) [(0, some [.ds true 0 []])] 1 (.tup []) [(0, some [.sl 1 0 b 1]), (1, some r)] 1) (na : noHs args = true) (nr : noHs r = true) (h0 : lkf p = some [.ds true 0 []]) :
    Ret Tryd.prog G0 g (.ptr p 0 :: args) lkf n ⟨.tup [], [p], [(p, some [.sl n 0 b 1]), (n, some r)], 1⟩ :=
  ret_fnH G0ok h [p] rfl rfl rfl (by simp only [lowVs, lowV, lowVs_noHs na]; rfl) rfl ⟨trivial, _, rfl, rfl, h0⟩ ⟨⟨trivial, fun cs e => (Option.some.inj (show some [VV.sl 1 0 b 1] = some cs from e)) ▸ rfl⟩, fun cs e => (Option.some.inj (show some r = some cs from e)) ▸ lowVs_noHs nr⟩
    (by show VV.ptr p 0 :: rnVs _ args = _; rw [rnVs_no _ _ na]) rfl (by show [(p, some [VV.sl n 0 b 1]), (n, some (rnVs _ r))] = _; rw [rnVs_no _ _ nr])
theorem ret_pen2 {g : FuncId} {args : List VV} {a b n p q : Nat} {l r : List VV} {lkf : Nat → Option (List VV)}
    (h : FnH Tryd.prog G0 g (.ptr 0 0 :: args) [(0, some [.sl 1 0 a 1]), (1, some l)] 2 (.tup []) [(0, some [.sl 2 0 b 1]), (2, some r)] 1) (hpq : noDup [p, q] = true) (na : noHs args = true) (nl : noHs l = true) (nr : noHs r = true) (h0 : lkf p = some [.sl q 0 a 1]) (h1 : lkf q = some l) :
    Ret Tryd.prog G0 g (.ptr p 0 :: args) lkf n ⟨.tup [], [p, q], [(p, some [.sl n 0 b 1]), (q, none), (n, some r)], 1⟩ :=
  ret_fnH G0ok h [p, q] rfl hpq rfl (by simp only [lowVs, lowV, lowVs_noHs na]; rfl) rfl ⟨⟨trivial, _, rfl, rfl, h0⟩, _, rfl, lowVs_noHs nl, by rw [rnVs_no _ _ nl]; exact h1⟩
    ⟨⟨⟨trivial, fun cs e => (Option.some.inj (show some [VV.sl 2 0 b 1] = some cs from e)) ▸ rfl⟩, fun cs e => by cases (show none = some cs from e)⟩, fun cs e => (Option.some.inj (show some r = some cs from e)) ▸ lowVs_noHs nr⟩
    (by show VV.ptr p 0 :: rnVs _ args = _; rw [rnVs_no _ _ na]) rfl (by show [(p, some [VV.sl n 0 b 1]), (q, none), (n, some (rnVs _ r))] = _; rw [rnVs_no _ _ nr])
theorem ret_pen3 {g : FuncId} {a b n p q u o m w : Nat} {l r cs : List VV} {lkf : Nat → Option (List VV)}
    (h : FnH Tryd.prog G0 g [.ptr 0 0, .sl 2 o m w] [(0, some [.sl 1 0 a 1]), (1, some l), (2, some cs)] 3 (.tup []) [(0, some [.sl 3 0 b 1]), (2, some cs), (3, some r)] 1) (hpq : noDup [p, q, u] = true) (nl : noHs l = true) (nc : noHs cs = true) (nr : noHs r = true) (h0 : lkf p = some [.sl q 0 a 1]) (h1 : lkf q = some l) (h2 : lkf u = some cs) :
    Ret Tryd.prog G0 g [.ptr p 0, .sl u o m w] lkf n ⟨.tup [], [p, q, u], [(p, some [.sl n 0 b 1]), (q, none), (u, some cs), (n, some r)], 1⟩ :=
  ret_fnH G0ok h [p, q, u] rfl hpq rfl rfl rfl ⟨⟨⟨trivial, _, rfl, rfl, h0⟩, _, rfl, lowVs_noHs nl, by rw [rnVs_no _ _ nl]; exact h1⟩, _, rfl, lowVs_noHs nc, by rw [rnVs_no _ _ nc]; exact h2⟩
    ⟨⟨⟨⟨trivial, fun cs e => (Option.some.inj (show some [VV.sl 3 0 b 1] = some cs from e)) ▸ rfl⟩, fun cs e => by cases (show none = some cs from e)⟩, fun ds e => (Option.some.inj (show some cs = some ds from e)) ▸ lowVs_noHs nc⟩, fun cs e => (Option.some.inj (show some r = some cs from e)) ▸ lowVs_noHs nr⟩
    rfl rfl (by show [(p, some [VV.sl n 0 b 1]), (q, none), (u, some (rnVs _ cs)), (n, some (rnVs _ r))] = _; rw [rnVs_no _ _ nr, rnVs_no _ _ nc])
end Go.Proofs.YtidkdlaihmpjfaaDoor
namespace Go.Proofs.YtidkdlaihmpjfaaDoor
set_option linter.unusedVariables false
set_option linter.unusedSimpArgs false
set_option linter.unusedSectionVars false
open Go.ChangeShapes Go.WideShapes Go.ChangeAt Go.RowKit Go.Joins
set_option maxRecDepth 10000
/-- A message. -/
structure BoD where
  time : Nat
  nonce : Nat
  chain : Nat
  em : List Nat
  num : Nat
  level : Nat
  f : Bool
  load : List Nat
def BoD.cells (b : BoD) : List VV := nI .i64 b.time :: nI .i64 b.nonce :: nI .i64 b.chain :: (bts b.em ++ [nI .i64 b.num, nI .i64 b.level, .ds b.f b.load.length (bts b.load)])
def BoD.v (b : BoD) : VV := .agg b.cells
theorem boD_noHs (b : BoD) : noHs b.cells = true := by
  unfold BoD.cells
  simp only [noHs, noH, nI, noHs_append, bts_noHs, Bool.and_self]
theorem boD_ix {b : BoD} (he : b.em.length = 32) : b.cells[35]? = some (nI .i64 b.num) ∧ b.cells[36]? = some (nI .i64 b.level) ∧ b.cells[37]? = some (.ds b.f b.load.length (bts b.load)) := by
  unfold BoD.cells
  have h := fun i => List.getElem?_append_right (l₁ := bts b.em) (l₂ := [nI .i64 b.num, nI .i64 b.level, .ds b.f b.load.length (bts b.load)]) (i := 32 + i) (by rw [bts_length, he]; omega)
  rw [bts_length, he] at h
  exact ⟨h 0, h 1, h 2⟩
theorem boD_len {b : BoD} (he : b.em.length = 32) : b.cells.length = 38 := by unfold BoD.cells; simp only [List.length_cons, List.length_append, bts_length, he]; rfl
theorem boD_em {b : BoD} (he : b.em.length = 32) : (b.cells.drop 3).take 32 = bts b.em := by
  unfold BoD.cells
  rw [show (nI .i64 b.time :: nI .i64 b.nonce :: nI .i64 b.chain :: (bts b.em ++ [nI .i64 b.num, nI .i64 b.level, .ds b.f b.load.length (bts b.load)])).drop 3 = bts b.em ++ [nI .i64 b.num, nI .i64 b.level, .ds b.f b.load.length (bts b.load)] from rfl, List.take_left' (by rw [bts_length, he])]
/-- What is written of it. -/
def bodyB (b : BoD) : List Nat := be b.time 8 ++ be b.nonce 4 ++ be b.chain 2 ++ b.em ++ be b.num 8 ++ be b.level 1 ++ b.load
theorem body_fnH {l : List Nat} {b : BoD} (he : b.em.length = 32) (hb : b.load.length ≤ 20000) (hl : l.length ≤ 20000) : FnH Tryd.prog G0 48 [.ptr 0 0, b.v] [(0, some [.sl 1 0 l.length 1]), (1, some (bts l))] 2 (.tup []) [(0, some [.sl 2 0 (l ++ bodyB b).length 1]), (2, some (bts (l ++ bodyB b)))] 1 := by
  have eB : l ++ bodyB b = l ++ be b.time 8 ++ be b.nonce 4 ++ be b.chain 2 ++ b.em ++ be b.num 8 ++ be b.level 1 ++ b.load := by unfold bodyB; simp only [List.append_assoc]
  rw [eB]
  have k1 := number_fnH (l := l) (n := b.time) (s := 7) (by decide) (by omega)
  have k2 := number_fnH (l := l ++ be b.time 8) (n := b.nonce) (s := 3) (by decide) (by simp only [List.length_append, be_len]; omega)
  have k3 := number_fnH (l := l ++ be b.time 8 ++ be b.nonce 4) (n := b.chain) (s := 1) (by decide) (by simp only [List.length_append, be_len]; omega)
  have nc := boD_noHs b
  obtain ⟨i35, i36, i37⟩ := boD_ix he
  have cl : b.cells.length = 38 := by unfold BoD.cells; simp only [List.length_cons, List.length_append, bts_length, he]; rfl
  have ev : (b.cells.drop 3).take (b.em.length * 1) = bts b.em := by
    unfold BoD.cells
    rw [show (nI .i64 b.time :: nI .i64 b.nonce :: nI .i64 b.chain :: (bts b.em ++ [nI .i64 b.num, nI .i64 b.level, .ds b.f b.load.length (bts b.load)])).drop 3 = bts b.em ++ [nI .i64 b.num, nI .i64 b.level, .ds b.f b.load.length (bts b.load)] from rfl, Nat.mul_one, List.take_left' (bts_length _)]
  have k4 := bytes_own (l := l ++ be b.time 8 ++ be b.nonce 4 ++ be b.chain 2) (r := b.em) (cs := b.cells) (off := 3) ev (by rw [cl, he]; decide) nc (by simp only [List.length_append, be_len]; omega) (by omega)
  have k5 := number_fnH (l := l ++ be b.time 8 ++ be b.nonce 4 ++ be b.chain 2 ++ b.em) (n := b.num) (s := 7) (by decide) (by simp only [List.length_append, be_len]; omega)
  have k6 := number_fnH (l := l ++ be b.time 8 ++ be b.nonce 4 ++ be b.chain 2 ++ b.em ++ be b.num 8) (n := b.level) (s := 0) (by decide) (by simp only [List.length_append, be_len]; omega)
  have k7 := bytes_ds (l := l ++ be b.time 8 ++ be b.nonce 4 ++ be b.chain 2 ++ b.em ++ be b.num 8 ++ be b.level 1) (r := b.load) b.f (by simp only [List.length_append, be_len]; omega) (by omega)
  obtain ⟨L1, e1⟩ : ∃ L, L = l ++ be b.time 8 := ⟨_, rfl⟩
  rw [← e1] at k1 k2 k3 k4 k5 k6 k7 ⊢
  obtain ⟨L2, e2⟩ : ∃ L, L = L1 ++ be b.nonce 4 := ⟨_, rfl⟩
  rw [← e2] at k2 k3 k4 k5 k6 k7 ⊢
  obtain ⟨L3, e3⟩ : ∃ L, L = L2 ++ be b.chain 2 := ⟨_, rfl⟩
  rw [← e3] at k3 k4 k5 k6 k7 ⊢
  obtain ⟨L4, e4⟩ : ∃ L, L = L3 ++ b.em := ⟨_, rfl⟩
  rw [← e4] at k4 k5 k6 k7 ⊢
  obtain ⟨L5, e5⟩ : ∃ L, L = L4 ++ be b.num 8 := ⟨_, rfl⟩
  rw [← e5] at k5 k6 k7 ⊢
  obtain ⟨L6, e6⟩ : ∃ L, L = L5 ++ be b.level 1 := ⟨_, rfl⟩
  rw [← e6] at k6 k7 ⊢
  obtain ⟨L7, e7⟩ : ∃ L, L = L6 ++ b.load := ⟨_, rfl⟩
  rw [← e7] at k7 ⊢
  clear eB
  unfold BoD.v
  refine fnH_of_vwp Γok G0ok Tryd.func48 (by kernel_rfl) rfl (by simp [Tryd.ntmps48]) (wpv_ok Γok (by kernel_rfl) _ _ _ ?_); conv => whnf
  refine ⟨_, ret_pen2 k1 rfl rfl (bts_noHs _) (bts_noHs _) rfl rfl, ?_⟩
  conv => whnf
  try (refine ⟨by kernel_rfl, ?_⟩; conv => whnf)
  refine ⟨_, ret_pen2 k2 rfl rfl (bts_noHs _) (bts_noHs _) rfl rfl, ?_⟩
  conv => whnf
  try (refine ⟨by kernel_rfl, ?_⟩; conv => whnf)
  refine ⟨_, ret_pen2 k3 rfl rfl (bts_noHs _) (bts_noHs _) rfl rfl, ?_⟩
  conv => whnf
  try (refine ⟨by kernel_rfl, ?_⟩; conv => whnf)
  refine onlyIf_intro (by simp [cl, maxLen]) ?_
  conv => whnf
  try (refine ⟨by kernel_rfl, ?_⟩; conv => whnf)
  rw [he] at k4
  refine ⟨_, ret_pen3 k4 rfl (bts_noHs _) nc (bts_noHs _) rfl rfl rfl, ?_⟩
  conv => whnf
  try (refine ⟨by kernel_rfl, ?_⟩; conv => whnf)
  refine bindP_intro i35 ?_
  conv => whnf
  try (refine ⟨by kernel_rfl, ?_⟩; conv => whnf)
  refine ⟨_, ret_pen2 k5 rfl rfl (bts_noHs _) (bts_noHs _) rfl rfl, ?_⟩
  conv => whnf
  try (refine ⟨by kernel_rfl, ?_⟩; conv => whnf)
  refine bindP_intro i36 ?_
  conv => whnf
  try (refine ⟨by kernel_rfl, ?_⟩; conv => whnf)
  refine ⟨_, ret_pen2 k6 rfl rfl (bts_noHs _) (bts_noHs _) rfl rfl, ?_⟩
  conv => whnf
  try (refine ⟨by kernel_rfl, ?_⟩; conv => whnf)
  refine bindP_intro i37 ?_
  conv => whnf
  try (refine ⟨by kernel_rfl, ?_⟩; conv => whnf)
  refine ⟨_, ret_pen2 k7 rfl (show noHs [VV.ds b.f b.load.length (bts b.load)] = true from by simp only [noHs, noH, bts_noHs, Bool.and_self]) (bts_noHs _) (bts_noHs _) rfl rfl, ?_⟩
  conv => whnf
  try (refine ⟨by kernel_rfl, ?_⟩; conv => whnf)
  exact ⟨_, rfl, [(0, some 0), (1, some 1), (2, some 9)], rfl, rfl, .same rfl, ⟨.inr ⟨_, _, rfl, rfl, .cons (.sl rfl) .nil⟩, .inr ⟨_, _, rfl, rfl, .same (bts_noHs _)⟩, trivial⟩⟩
theorem body_nil {b : BoD} (he : b.em.length = 32) (hb : b.load.length ≤ 20000) : FnH Tryd.prog G0 48 [.ptr 0 0, b.v] [(0, some [.ds true 0 []])] 1 (.tup []) [(0, some [.sl 1 0 (bodyB b).length 1]), (1, some (bts (bodyB b)))] 1 := by
  have eB : bodyB b = be b.time 8 ++ be b.nonce 4 ++ be b.chain 2 ++ b.em ++ be b.num 8 ++ be b.level 1 ++ b.load := by unfold bodyB; simp only [List.append_assoc]
  rw [eB]
  have k1 := number_nil (n := b.time) (s := 7) (by decide)
  have k2 := number_fnH (l := be b.time 8) (n := b.nonce) (s := 3) (by decide) (by simp only [List.length_append, be_len]; omega)
  have k3 := number_fnH (l := be b.time 8 ++ be b.nonce 4) (n := b.chain) (s := 1) (by decide) (by simp only [List.length_append, be_len]; omega)
  have nc := boD_noHs b
  obtain ⟨i35, i36, i37⟩ := boD_ix he
  have cl : b.cells.length = 38 := by unfold BoD.cells; simp only [List.length_cons, List.length_append, bts_length, he]; rfl
  have ev : (b.cells.drop 3).take (b.em.length * 1) = bts b.em := by
    unfold BoD.cells
    rw [show (nI .i64 b.time :: nI .i64 b.nonce :: nI .i64 b.chain :: (bts b.em ++ [nI .i64 b.num, nI .i64 b.level, .ds b.f b.load.length (bts b.load)])).drop 3 = bts b.em ++ [nI .i64 b.num, nI .i64 b.level, .ds b.f b.load.length (bts b.load)] from rfl, Nat.mul_one, List.take_left' (bts_length _)]
  have k4 := bytes_own (l := be b.time 8 ++ be b.nonce 4 ++ be b.chain 2) (r := b.em) (cs := b.cells) (off := 3) ev (by rw [cl, he]; decide) nc (by simp only [List.length_append, be_len]; omega) (by omega)
  have k5 := number_fnH (l := be b.time 8 ++ be b.nonce 4 ++ be b.chain 2 ++ b.em) (n := b.num) (s := 7) (by decide) (by simp only [List.length_append, be_len]; omega)
  have k6 := number_fnH (l := be b.time 8 ++ be b.nonce 4 ++ be b.chain 2 ++ b.em ++ be b.num 8) (n := b.level) (s := 0) (by decide) (by simp only [List.length_append, be_len]; omega)
  have k7 := bytes_ds (l := be b.time 8 ++ be b.nonce 4 ++ be b.chain 2 ++ b.em ++ be b.num 8 ++ be b.level 1) (r := b.load) b.f (by simp only [List.length_append, be_len]; omega) (by omega)
  obtain ⟨L1, e1⟩ : ∃ L, L = be b.time 8 := ⟨_, rfl⟩
  rw [← e1] at k1 k2 k3 k4 k5 k6 k7 ⊢
  obtain ⟨L2, e2⟩ : ∃ L, L = L1 ++ be b.nonce 4 := ⟨_, rfl⟩
  rw [← e2] at k2 k3 k4 k5 k6 k7 ⊢
  obtain ⟨L3, e3⟩ : ∃ L, L = L2 ++ be b.chain 2 := ⟨_, rfl⟩
  rw [← e3] at k3 k4 k5 k6 k7 ⊢
  obtain ⟨L4, e4⟩ : ∃ L, L = L3 ++ b.em := ⟨_, rfl⟩
  rw [← e4] at k4 k5 k6 k7 ⊢
  obtain ⟨L5, e5⟩ : ∃ L, L = L4 ++ be b.num 8 := ⟨_, rfl⟩
  rw [← e5] at k5 k6 k7 ⊢
  obtain ⟨L6, e6⟩ : ∃ L, L = L5 ++ be b.level 1 := ⟨_, rfl⟩
  rw [← e6] at k6 k7 ⊢
  obtain ⟨L7, e7⟩ : ∃ L, L = L6 ++ b.load := ⟨_, rfl⟩
  rw [← e7] at k7 ⊢
  clear eB
  unfold BoD.v
  refine fnH_of_vwp Γok G0ok Tryd.func48 (by kernel_rfl) rfl (by simp [Tryd.ntmps48]) (wpv_ok Γok (by kernel_rfl) _ _ _ ?_); conv => whnf
  refine ⟨_, ret_pen1 k1 rfl (bts_noHs _) rfl, ?_⟩
  conv => whnf
  try (refine ⟨by kernel_rfl, ?_⟩; conv => whnf)
  refine ⟨_, ret_pen2 k2 rfl rfl (bts_noHs _) (bts_noHs _) rfl rfl, ?_⟩
  conv => whnf
  try (refine ⟨by kernel_rfl, ?_⟩; conv => whnf)
  refine ⟨_, ret_pen2 k3 rfl rfl (bts_noHs _) (bts_noHs _) rfl rfl, ?_⟩
  conv => whnf
  try (refine ⟨by kernel_rfl, ?_⟩; conv => whnf)
  refine onlyIf_intro (by simp [cl, maxLen]) ?_
  conv => whnf
  try (refine ⟨by kernel_rfl, ?_⟩; conv => whnf)
  rw [he] at k4
  refine ⟨_, ret_pen3 k4 rfl (bts_noHs _) nc (bts_noHs _) rfl rfl rfl, ?_⟩
  conv => whnf
  try (refine ⟨by kernel_rfl, ?_⟩; conv => whnf)
  refine bindP_intro i35 ?_
  conv => whnf
  try (refine ⟨by kernel_rfl, ?_⟩; conv => whnf)
  refine ⟨_, ret_pen2 k5 rfl rfl (bts_noHs _) (bts_noHs _) rfl rfl, ?_⟩
  conv => whnf
  try (refine ⟨by kernel_rfl, ?_⟩; conv => whnf)
  refine bindP_intro i36 ?_
  conv => whnf
  try (refine ⟨by kernel_rfl, ?_⟩; conv => whnf)
  refine ⟨_, ret_pen2 k6 rfl rfl (bts_noHs _) (bts_noHs _) rfl rfl, ?_⟩
  conv => whnf
  try (refine ⟨by kernel_rfl, ?_⟩; conv => whnf)
  refine bindP_intro i37 ?_
  conv => whnf
  try (refine ⟨by kernel_rfl, ?_⟩; conv => whnf)
  refine ⟨_, ret_pen2 k7 rfl (show noHs [VV.ds b.f b.load.length (bts b.load)] = true from by simp only [noHs, noH, bts_noHs, Bool.and_self]) (bts_noHs _) (bts_noHs _) rfl rfl, ?_⟩
  conv => whnf
  try (refine ⟨by kernel_rfl, ?_⟩; conv => whnf)
  exact ⟨_, rfl, [(0, some 0), (1, some 8)], rfl, rfl, .same rfl, ⟨.inr ⟨_, _, rfl, rfl, .cons (.sl rfl) .nil⟩, .inr ⟨_, _, rfl, rfl, .same (bts_noHs _)⟩, trivial⟩⟩
theorem in_fn (n m : Nat) : FnV Tryd.prog G0 68 [nI .i64 n, nI .i64 m] (bI (decide (n ≤ m))) := by
  refine fn_of_vwp Γok Tryd.func68 (by kernel_rfl) rfl (by simp [Tryd.ntmps68]) (wpv_ok Γok (by kernel_rfl) _ _ _ ?_); conv => whnf
  rw [decide_eq_true (show (n : Int) ≥ 0 by omega)]
  conv => whnf
  try (refine ⟨by kernel_rfl, ?_⟩; conv => whnf)
  rw [show decide ((n : Int) ≤ (m : Int)) = decide (n ≤ m) from decide_eq_decide.2 (by omega)]
  exact ⟨_, rfl, rfl⟩
/-- A message that may be. -/
structure BoD.ok (b : BoD) : Prop where
  time : b.time ≤ 1099511627776
  nonce : b.nonce ≤ 4294967295
  chain : b.chain ≤ 65535
  em : b.em.length = 32
  num : b.num ≤ 1099511627776
  level : b.level ≤ 255
  load : b.load.length ≤ 300
theorem pcheck_ok {b : BoD} (h : b.ok) : FnV Tryd.prog G0 47 [b.v] (nI .i64 0) := by
  have c1 := in_fn b.time 1099511627776
  have c2 := in_fn b.nonce 4294967295
  have c3 := in_fn b.chain 65535
  have c4 := in_fn b.num 1099511627776
  have c5 := in_fn b.level 255
  rw [decide_eq_true h.time] at c1
  rw [decide_eq_true h.nonce] at c2
  rw [decide_eq_true h.chain] at c3
  rw [decide_eq_true h.num] at c4
  rw [decide_eq_true h.level] at c5
  obtain ⟨i35, i36, i37⟩ := boD_ix h.em
  unfold BoD.v
  refine fn_of_vwp Γok Tryd.func47 (by kernel_rfl) rfl (by simp [Tryd.ntmps47]) (wpv_ok Γok (by kernel_rfl) _ _ _ ?_); conv => whnf
  refine ⟨_, ret_of_fn G0ok (c1) (by first | rfl | simp only [noHs, noH, nI, bI, Bool.and_self, Bool.and_true, Bool.true_and, ]) (by first | rfl | simp only [noHs, noH, nI, bI, Bool.and_self, Bool.and_true, Bool.true_and, ]), ?_⟩; (conv => whnf); (try (refine ⟨by kernel_rfl, ?_⟩; conv => whnf))
  refine ⟨_, ret_of_fn G0ok (c2) (by first | rfl | simp only [noHs, noH, nI, bI, Bool.and_self, Bool.and_true, Bool.true_and, ]) (by first | rfl | simp only [noHs, noH, nI, bI, Bool.and_self, Bool.and_true, Bool.true_and, ]), ?_⟩; (conv => whnf); (try (refine ⟨by kernel_rfl, ?_⟩; conv => whnf))
  refine ⟨_, ret_of_fn G0ok (c3) (by first | rfl | simp only [noHs, noH, nI, bI, Bool.and_self, Bool.and_true, Bool.true_and, ]) (by first | rfl | simp only [noHs, noH, nI, bI, Bool.and_self, Bool.and_true, Bool.true_and, ]), ?_⟩; (conv => whnf); (try (refine ⟨by kernel_rfl, ?_⟩; conv => whnf))
  refine bindP_intro i35 ?_
  conv => whnf
  try (refine ⟨by kernel_rfl, ?_⟩; conv => whnf)
  refine ⟨_, ret_of_fn G0ok (c4) (by first | rfl | simp only [noHs, noH, nI, bI, Bool.and_self, Bool.and_true, Bool.true_and, ]) (by first | rfl | simp only [noHs, noH, nI, bI, Bool.and_self, Bool.and_true, Bool.true_and, ]), ?_⟩; (conv => whnf); (try (refine ⟨by kernel_rfl, ?_⟩; conv => whnf))
  refine bindP_intro i36 ?_
  conv => whnf
  try (refine ⟨by kernel_rfl, ?_⟩; conv => whnf)
  refine ⟨_, ret_of_fn G0ok (c5) (by first | rfl | simp only [noHs, noH, nI, bI, Bool.and_self, Bool.and_true, Bool.true_and, ]) (by first | rfl | simp only [noHs, noH, nI, bI, Bool.and_self, Bool.and_true, Bool.true_and, ]), ?_⟩; (conv => whnf); (try (refine ⟨by kernel_rfl, ?_⟩; conv => whnf))
  refine bindP_intro i37 ?_
  conv => whnf
  try (refine ⟨by kernel_rfl, ?_⟩; conv => whnf)
  rw [decide_eq_false (show ¬ ((b.load.length : Nat) : Int) > 300 by have := h.load; omega)]
  conv => whnf
  try (refine ⟨by kernel_rfl, ?_⟩; conv => whnf)
  exact ⟨_, rfl, rfl⟩
theorem pbytes_fn {b : BoD} (h : b.ok) : FnV Tryd.prog G0 21 [b.v] (.tup [.ds false (bodyB b).length (bts (bodyB b)), nI .i64 0]) := by
  have c := pcheck_ok h
  have nc := boD_noHs b
  have bn := body_nil h.em (b := b) (by have := h.load; omega)
  have cl : b.cells.length = 38 := by unfold BoD.cells; simp only [List.length_cons, List.length_append, bts_length, h.em]; rfl
  refine gen_ex (bodyB b) fun L eL => ?_
  rw [← eL] at bn ⊢
  clear eL
  unfold BoD.v at *
  refine fn_of_vwp Γok Tryd.func21 (by kernel_rfl) rfl (by simp [Tryd.ntmps21]) (wpv_ok Γok (by kernel_rfl) _ _ _ ?_); conv => whnf
  refine bindP_intro (load_agg rfl rfl cl) ?_
  conv => whnf
  try (refine ⟨by kernel_rfl, ?_⟩; conv => whnf)
  refine ⟨_, ret_of_fn G0ok (c) (by first | rfl | simp only [noHs, noH, nI, bI, Bool.and_self, Bool.and_true, Bool.true_and, nc]) (by first | rfl | simp only [noHs, noH, nI, bI, Bool.and_self, Bool.and_true, Bool.true_and, nc]), ?_⟩; (conv => whnf); (try (refine ⟨by kernel_rfl, ?_⟩; conv => whnf))
  refine bindP_intro (load_agg rfl rfl cl) ?_
  conv => whnf
  try (refine ⟨by kernel_rfl, ?_⟩; conv => whnf)
  refine ⟨_, ret_pen1 bn (show noHs [VV.agg b.cells] = true from by simp only [noHs, noH, nc, Bool.and_self]) (bts_noHs _) rfl, ?_⟩
  conv => whnf
  try (refine ⟨by kernel_rfl, ?_⟩; conv => whnf)
  exact ⟨_, rfl, deep_tup (mapO_cons (deep_row rfl (by rw [bts_length]; exact (Nat.mul_one _).symm) (bts_noHs _)) (mapO_cons (deepV_noH _ _ rfl) mapO_nil))⟩
end Go.Proofs.YtidkdlaihmpjfaaDoor
namespace Go.Proofs.YtidkdlaihmpjfaaDoor
set_option linter.unusedVariables false
set_option linter.unusedSimpArgs false
set_option linter.unusedSectionVars false
open Go.ChangeShapes Go.WideShapes Go.ChangeAt Go.RowKit Go.Joins
set_option maxRecDepth 10000
theorem bts_pure (l : List Nat) : pureVs (bts l) = true := pureVs_iff.2 fun c hc => (by obtain ⟨x, _, rfl⟩ := List.mem_map.1 hc; rfl)
theorem be_lt (n : Nat) : ∀ (s : Nat), ∀ x ∈ be n s, x < 256
  | 0, x, h => by cases h
  | s + 1, x, h => by
    rcases List.mem_cons.1 h with rfl | h
    · exact Nat.mod_lt _ (by decide)
    · exact be_lt n s x h
theorem bodyB_lt {b : BoD} (he : ∀ x ∈ b.em, x < 256) (hl : ∀ x ∈ b.load, x < 256) : ∀ x ∈ bodyB b, x < 256 := by
  intro x hx
  unfold bodyB at hx
  simp only [List.mem_append] at hx
  rcases hx with (((((h | h) | h) | h) | h) | h) | h
  · exact be_lt _ _ x h
  · exact be_lt _ _ x h
  · exact be_lt _ _ x h
  · exact he x h
  · exact be_lt _ _ x h
  · exact be_lt _ _ x h
  · exact hl x h
theorem bodyB_len {b : BoD} (h : b.ok) : (bodyB b).length = 55 + b.load.length := by
  unfold bodyB
  simp only [List.length_append, be_len, h.em]
noncomputable def bsumN (b : BoD) : List Nat := kSum (kSum (bodyB b))
theorem bsumN_len (b : BoD) : (bsumN b).length = 32 := kS_len _
theorem bsum_fn {b : BoD} (h : b.ok) (he : ∀ x ∈ b.em, x < 256) (hl : ∀ x ∈ b.load, x < 256) : FnV Tryd.prog G0 22 [b.v] (.tup [.agg (bts (bsumN b)), nI .i64 0]) := by
  have nc := boD_noHs b
  have cl : b.cells.length = 38 := by unfold BoD.cells; simp only [List.length_cons, List.length_append, bts_length, h.em]; rfl
  have pb := pbytes_fn h
  have lb := bodyB_len h
  have s1 := sum_fn (bodyB_lt he hl) (by rw [lb]; have := h.load; omega) false
  have s2 := sum_fn (l := kSum (bodyB b)) (kS_lt _) (by rw [kS_len]; decide) false
  have k1 := kS_len (bodyB b)
  have k2 := bsumN_len b
  unfold bsumN at *
  have m1 : (bts (kSum (bodyB b))).length = 32 := by rw [bts_length, k1]
  have m2 : (bts (kSum (kSum (bodyB b)))).length = 32 := by rw [bts_length, k2]
  rw [k1] at s2
  refine gen_ex (kSum (kSum (bodyB b))) fun Q eQ => ?_
  rw [← eQ] at s2 m2 ⊢
  clear eQ k2
  refine gen_ex (kSum (bodyB b)) fun K eK => ?_
  rw [← eK] at s1 s2 m1
  clear eK k1
  refine gen_ex (bodyB b) fun L eL => ?_
  rw [← eL] at pb s1 lb
  clear eL
  unfold BoD.v at *
  refine fn_of_vwp Γok Tryd.func22 (by kernel_rfl) rfl (by simp [Tryd.ntmps22]) (wpv_ok Γok (by kernel_rfl) _ _ _ ?_); conv => whnf
  refine bindP_intro (load_agg rfl rfl cl) ?_
  conv => whnf
  try (refine ⟨by kernel_rfl, ?_⟩; conv => whnf)
  refine ⟨_, ret_of_fn G0ok (pb) (by first | rfl | simp only [noHs, noH, nI, bI, Bool.and_self, Bool.and_true, Bool.true_and, nc, bts_noHs]) (by first | rfl | simp only [noHs, noH, nI, bI, Bool.and_self, Bool.and_true, Bool.true_and, nc, bts_noHs]), ?_⟩; (conv => whnf); (try (refine ⟨by kernel_rfl, ?_⟩; conv => whnf))
  refine ⟨_, ret_of_fn G0ok (s1) (by first | rfl | simp only [noHs, noH, nI, bI, Bool.and_self, Bool.and_true, Bool.true_and, bts_noHs]) (by first | rfl | simp only [noHs, noH, nI, bI, Bool.and_self, Bool.and_true, Bool.true_and, bts_noHs]), ?_⟩; (conv => whnf); (try (refine ⟨by kernel_rfl, ?_⟩; conv => whnf))
  refine onlyIf_intro (by simp [m1, maxLen]) ?_
  conv => whnf
  try (refine ⟨by kernel_rfl, ?_⟩; conv => whnf)
  refine onlyIf_intro (by simp [m1, maxLen]) ?_
  conv => whnf
  try (refine ⟨by kernel_rfl, ?_⟩; conv => whnf)
  refine ⟨_, ret_own [2] G0ok s2 (mapO_cons (deep_row rfl (by rw [m1]; rfl) (bts_noHs _)) mapO_nil) (bts_pure _), ?_⟩
  conv => whnf
  try (refine ⟨by kernel_rfl, ?_⟩; conv => whnf)
  refine onlyIf_intro (by simp [m2, maxLen]) ?_
  rw [splice_all (by rw [m2]; rfl)]
  conv => whnf
  try (refine ⟨by kernel_rfl, ?_⟩; conv => whnf)
  exact ⟨_, vres_two rfl (vres_cell rfl rfl (load_agg rfl rfl m2)) rfl, deepV_noH _ _ (by simp only [noH, noHs, bts_noHs, Bool.and_self])⟩
end Go.Proofs.YtidkdlaihmpjfaaDoor
namespace Go.Proofs.YtidkdlaihmpjfaaDoor
set_option linter.unusedVariables false
set_option linter.unusedSimpArgs false
set_option linter.unusedSectionVars false
open Go.ChangeShapes Go.WideShapes Go.ChangeAt Go.RowKit Go.Joins
set_option maxRecDepth 10000
theorem cut_fn (s : ByteArray) (m : Nat) (hs : s.size ≤ maxLen) (hm : m ≤ 1000) : FnV Tryd.prog G0 45 [.v (.string s), nI .i64 m] (.v (.string (s.extract 0 (min s.size m)))) := by
  refine fn_of_vwp Γok Tryd.func45 (by kernel_rfl) rfl (by simp [Tryd.ntmps45]) (wpv_ok Γok (by kernel_rfl) _ _ _ ?_); conv => whnf
  rw [min_int]
  refine bindP_intro (vpure_slice (vslice_str rfl (by rfl) vb_nat (by omega) (by omega))) ?_
  conv => whnf
  exact ends_at rfl rfl
end Go.Proofs.YtidkdlaihmpjfaaDoor
namespace Go.Proofs.YtidkdlaihmpjfaaDoor
set_option linter.unusedVariables false
set_option linter.unusedSimpArgs false
set_option linter.unusedSectionVars false
open Go.ChangeShapes Go.WideShapes Go.ChangeAt Go.RowKit Go.Joins
set_option maxRecDepth 10000
noncomputable def cutN (q : RawD) (m : Nat) : List Nat := hid ((q.s.data.toList.take m).map UInt8.toNat)
theorem cutN_len (q : RawD) (m : Nat) : (cutN q m).length ≤ m := by
  unfold cutN
  rw [hid_eq, List.length_map, List.length_take]
  omega
theorem cutN_lt (q : RawD) (m : Nat) : ∀ x ∈ cutN q m, x < 256 := by
  unfold cutN
  rw [hid_eq]
  intro x hx
  obtain ⟨b, _, rfl⟩ := List.mem_map.1 hx
  exact b.toNat_lt
theorem cut_list (q : RawD) (m : Nat) : (q.s.extract 0 (min q.s.size m)).data.toList = q.s.data.toList.take m := by
  rw [ByteArray.data_extract, Array.toList_extract]
  simp only [List.extract, List.drop_zero, Nat.sub_zero]
  have : q.s.data.toList.length = q.s.size := rfl
  rcases Nat.le_total q.s.size m with h | h
  · rw [Nat.min_eq_left h, List.take_of_length_le (by omega), List.take_of_length_le (by omega)]
  · rw [Nat.min_eq_right h]
theorem cut_cells (q : RawD) (m : Nat) : List.map byV (q.s.extract 0 (min q.s.size m)).data.toList = bts (cutN q m) ∧ (q.s.extract 0 (min q.s.size m)).size = (cutN q m).length := by
  have e := cut_list q m
  unfold cutN
  rw [hid_eq, e]
  refine ⟨by unfold bts; rw [List.map_map]; rfl, ?_⟩
  rw [List.length_map, ← e]
  rfl
/-- The message of a raw thing. -/
noncomputable def bodyR (q : RawD) : BoD := ⟨(q.a % 1000).toNat, (q.b % 4294967296).toNat, (q.k % 65536).toNat, wordN q, (wS .i64 (q.a * q.b) % 1099511627776).toNat, (q.k % 256).toNat, false, cutN q 60⟩
theorem bodyR_ok (q : RawD) : (bodyR q).ok := by
  unfold bodyR
  refine ⟨?_, ?_, ?_, wordN_length q, ?_, ?_, ?_⟩ <;> dsimp only
  · omega
  · omega
  · omega
  · omega
  · omega
  · have := cutN_len q 60
    omega
theorem splice_32 {cs new : List VV} {off : Nat} (h : new.length = 32) : splice cs off (new.take 32) = cs.take off ++ (new ++ cs.drop (off + 32)) := by
  rw [List.take_of_length_le (by omega)]
  unfold splice
  rw [h]
theorem splice_32' {cs new : List VV} {off : Nat} (h : new.length = 32) : splice cs off new = cs.take off ++ (new ++ cs.drop (off + 32)) := by
  unfold splice
  rw [h]
theorem rbody_fn (q : RawD) (hq : q.ok) : FnV Tryd.prog G0 20 [q.v] (bodyR q).v := by
  have wl := wordN_length q
  have wd := word_fn q
  have p1 := picked_fn q.a 1000 (by decide) (by decide)
  have p2 := picked_fn q.b 4294967296 (by decide) (by decide)
  have p3 := picked_fn q.k 65536 (by decide) (by decide)
  have p4 := picked_fn (wS .i64 (q.a * q.b)) 1099511627776 (by decide) (by decide)
  have p5 := picked_fn q.k 256 (by decide) (by decide)
  have ct := cut_fn q.s 60 hq.2.2.2 (by decide)
  have lB : (bts (wordN q)).length = 32 := by rw [bts_length, wl]
  have ev : (bodyR q).v = .agg (nI .i64 (q.a % 1000) :: nI .i64 (q.b % 4294967296) :: nI .i64 (q.k % 65536) :: (bts (wordN q) ++ [nI .i64 (wS .i64 (q.a * q.b) % 1099511627776), nI .i64 (q.k % 256), .ds false (cutN q 60).length (bts (cutN q 60))])) := by
    unfold BoD.v BoD.cells bodyR
    dsimp only
    rw [show ((q.a % 1000).toNat : Int) = q.a % 1000 from by omega, show ((q.b % 4294967296).toNat : Int) = q.b % 4294967296 from by omega, show ((q.k % 65536).toNat : Int) = q.k % 65536 from by omega, show ((wS .i64 (q.a * q.b) % 1099511627776).toNat : Int) = wS .i64 (q.a * q.b) % 1099511627776 from by omega, show ((q.k % 256).toNat : Int) = q.k % 256 from by omega]
  obtain ⟨TL, eTL⟩ : ∃ TL, TL = (nI .i64 (q.a % 1000) :: nI .i64 (q.b % 4294967296) :: nI .i64 (q.k % 65536) :: (bts (wordN q) ++ [nI .i64 (wS .i64 (q.a * q.b) % 1099511627776), nI .i64 (q.k % 256), .ds false (cutN q 60).length (bts (cutN q 60))])) := ⟨_, rfl⟩
  rw [ev, ← eTL]
  unfold RawD.v RawD.cells at *
  refine fn_of_vwp Γok Tryd.func20 (by kernel_rfl) rfl (by simp [Tryd.ntmps20]) (wpv_ok Γok (by kernel_rfl) _ _ _ ?_); conv => whnf
  refine ⟨_, ret_of_fn G0ok (p1) (by first | rfl | simp only [noHs, noH, nI, bI, Bool.and_self, Bool.and_true, Bool.true_and, ]) (by first | rfl | simp only [noHs, noH, nI, bI, Bool.and_self, Bool.and_true, Bool.true_and, ]), ?_⟩; (conv => whnf); (try (refine ⟨by kernel_rfl, ?_⟩; conv => whnf))
  refine ⟨_, ret_of_fn G0ok (p2) (by first | rfl | simp only [noHs, noH, nI, bI, Bool.and_self, Bool.and_true, Bool.true_and, ]) (by first | rfl | simp only [noHs, noH, nI, bI, Bool.and_self, Bool.and_true, Bool.true_and, ]), ?_⟩; (conv => whnf); (try (refine ⟨by kernel_rfl, ?_⟩; conv => whnf))
  refine ⟨_, ret_of_fn G0ok (p3) (by first | rfl | simp only [noHs, noH, nI, bI, Bool.and_self, Bool.and_true, Bool.true_and, ]) (by first | rfl | simp only [noHs, noH, nI, bI, Bool.and_self, Bool.and_true, Bool.true_and, ]), ?_⟩; (conv => whnf); (try (refine ⟨by kernel_rfl, ?_⟩; conv => whnf))
  refine ⟨_, ret_of_fn G0ok (p4) (by first | rfl | simp only [noHs, noH, nI, bI, Bool.and_self, Bool.and_true, Bool.true_and, ]) (by first | rfl | simp only [noHs, noH, nI, bI, Bool.and_self, Bool.and_true, Bool.true_and, ]), ?_⟩; (conv => whnf); (try (refine ⟨by kernel_rfl, ?_⟩; conv => whnf))
  refine ⟨_, ret_of_fn G0ok (p5) (by first | rfl | simp only [noHs, noH, nI, bI, Bool.and_self, Bool.and_true, Bool.true_and, ]) (by first | rfl | simp only [noHs, noH, nI, bI, Bool.and_self, Bool.and_true, Bool.true_and, ]), ?_⟩; (conv => whnf); (try (refine ⟨by kernel_rfl, ?_⟩; conv => whnf))
  refine ⟨_, ret_of_fn G0ok (ct) (by first | rfl | simp only [noHs, noH, nI, bI, Bool.and_self, Bool.and_true, Bool.true_and, noH]) (by first | rfl | simp only [noHs, noH, nI, bI, Bool.and_self, Bool.and_true, Bool.true_and, noH]), ?_⟩; (conv => whnf); (try (refine ⟨by kernel_rfl, ?_⟩; conv => whnf))
  obtain ⟨cc1, cc2⟩ := cut_cells q 60
  have cl := cutN_len q 60
  rw [cc1, cc2]
  refine onlyIf_intro (by simp [maxLen]; omega) ?_
  refine .read (cutN q 60).length (bts (cutN q 60)) rfl rfl (by rw [bts_length]; exact (Nat.mul_one _).symm) (bts_noHs _) ?_
  conv => whnf
  try (refine ⟨by kernel_rfl, ?_⟩; conv => whnf)
  refine ⟨_, ret_of_fn G0ok (wd) (by first | rfl | simp only [noHs, noH, nI, bI, Bool.and_self, Bool.and_true, Bool.true_and, bts_noHs]) (by first | rfl | simp only [noHs, noH, nI, bI, Bool.and_self, Bool.and_true, Bool.true_and, bts_noHs]), ?_⟩; (conv => whnf); (try (refine ⟨by kernel_rfl, ?_⟩; conv => whnf))
  refine onlyIf_intro (by rw [lB]; rfl) ?_
  conv => whnf
  try (refine ⟨by kernel_rfl, ?_⟩; conv => whnf)
  have hl : TL.length = 38 := by
    rw [eTL]
    simp only [List.length_cons, List.length_append, lB]
    rfl
  have hn : noHs TL = true := by
    rw [eTL]
    simp only [noH, noHs, nI, noHs_append, bts_noHs, Bool.and_self]
  refine bindP_intro (load_agg' (ds := TL) ((splice_32' lB).trans (by rw [eTL]; rfl)) rfl rfl hl) ?_
  conv => whnf
  try (refine ⟨by kernel_rfl, ?_⟩; conv => whnf)
  refine onlyIf_intro (by rw [hl]; rfl) ?_
  rw [splice_all (new := TL) (by rw [hl]; rfl)]
  conv => whnf
  try (refine ⟨by kernel_rfl, ?_⟩; conv => whnf)
  exact ⟨_, vres_one rfl (vres_cell rfl rfl (load_agg rfl rfl hl)), deepV_noH _ _ hn⟩
/-- Are two messages the same? -/
noncomputable def sameB (a b : BoD) : Bool := decide (a.time = b.time) && (decide (a.nonce = b.nonce) && (decide (a.chain = b.chain) && (decide (a.em = b.em) && (decide (a.num = b.num) && (decide (a.level = b.level) && decide (a.load = b.load))))))
theorem byV_of {l : List Nat} (h : ∀ x ∈ l, x < 256) : (l.map UInt8.ofNat).map byV = bts l := by
  unfold bts
  rw [List.map_map]
  refine List.map_congr_left fun x hx => ?_
  show VV.v (.int .u8 (((UInt8.ofNat x).toNat : Nat) : Int)) = _
  rw [show (UInt8.ofNat x).toNat = x from by rw [UInt8.toNat_ofNat', Nat.mod_eq_of_lt (h x hx)]]
  rfl
theorem u8_inj {l m : List Nat} (hl : ∀ x ∈ l, x < 256) (hm : ∀ x ∈ m, x < 256) : (l.map UInt8.ofNat = m.map UInt8.ofNat) ↔ l = m := by
  refine ⟨fun h => ?_, fun h => by rw [h]⟩
  have h2 := congrArg (List.map UInt8.toNat) h
  rw [List.map_map, List.map_map] at h2
  have g : ∀ k : List Nat, (∀ x ∈ k, x < 256) → k.map (UInt8.toNat ∘ UInt8.ofNat) = k := fun k hk => by
    refine (List.map_congr_left fun x hx => ?_).trans (List.map_id k)
    exact (by rw [Function.comp_apply, UInt8.toNat_ofNat', Nat.mod_eq_of_lt (hk x hx)]; rfl)
  rwa [g l hl, g m hm] at h2
theorem dec_cases (P : Prop) {Q : Prop} (h2 : ¬ P → Q) (h1 : P → Q) : Q := (Classical.em P).elim h1 h2
theorem same_fn {a b : BoD} (ha : a.ok) (hb : b.ok) (la : ∀ x ∈ a.load, x < 256) (lb : ∀ x ∈ b.load, x < 256) : FnV Tryd.prog G0 23 [a.v, b.v] (bI (sameB a b)) := by
  have e32 := eq_b32 ha.em hb.em
  obtain ⟨a35, a36, a37⟩ := boD_ix ha.em
  obtain ⟨b35, b36, b37⟩ := boD_ix hb.em
  have bl : ∀ (x y : Nat), ((x : Int) == (y : Int)) = decide (x = y) := fun x y => beq_lit x y
  unfold BoD.v sameB
  refine fn_of_vwp Γok Tryd.func23 (by kernel_rfl) rfl (by simp [Tryd.ntmps23]) (wpv_ok Γok (by kernel_rfl) _ _ _ ?_); conv => whnf
  rw [bl a.time b.time]
  refine dec_cases (a.time = b.time) (fun h0 => ?_) (fun h0 => ?_)
  · rw [decide_eq_false h0]
    conv => whnf
    try (refine ⟨by kernel_rfl, ?_⟩; conv => whnf)
    exact ⟨_, rfl, rfl⟩
  rw [decide_eq_true h0]
  conv => whnf
  try (refine ⟨by kernel_rfl, ?_⟩; conv => whnf)
  rw [bl a.nonce b.nonce]
  refine dec_cases (a.nonce = b.nonce) (fun h1 => ?_) (fun h1 => ?_)
  · rw [decide_eq_false h1]
    conv => whnf
    try (refine ⟨by kernel_rfl, ?_⟩; conv => whnf)
    exact ⟨_, rfl, rfl⟩
  rw [decide_eq_true h1]
  conv => whnf
  try (refine ⟨by kernel_rfl, ?_⟩; conv => whnf)
  rw [bl a.chain b.chain]
  refine dec_cases (a.chain = b.chain) (fun h2 => ?_) (fun h2 => ?_)
  · rw [decide_eq_false h2]
    conv => whnf
    try (refine ⟨by kernel_rfl, ?_⟩; conv => whnf)
    exact ⟨_, rfl, rfl⟩
  rw [decide_eq_true h2]
  conv => whnf
  try (refine ⟨by kernel_rfl, ?_⟩; conv => whnf)
  refine bindP_intro (load_sub rfl rfl (by rw [boD_len ha.em]; decide) (boD_em ha.em)) ?_
  conv => whnf
  try (refine ⟨by kernel_rfl, ?_⟩; conv => whnf)
  refine bindP_intro (load_sub rfl rfl (by rw [boD_len hb.em]; decide) (boD_em hb.em)) ?_
  conv => whnf
  try (refine ⟨by kernel_rfl, ?_⟩; conv => whnf)
  refine ⟨_, e32, ?_⟩
  refine dec_cases (a.em = b.em) (fun h3 => ?_) (fun h3 => ?_)
  · rw [decide_eq_false h3]
    conv => whnf
    try (refine ⟨by kernel_rfl, ?_⟩; conv => whnf)
    exact ⟨_, rfl, rfl⟩
  rw [decide_eq_true h3]
  conv => whnf
  try (refine ⟨by kernel_rfl, ?_⟩; conv => whnf)
  refine bindP_intro a35 ?_
  conv => whnf
  try (refine ⟨by kernel_rfl, ?_⟩; conv => whnf)
  refine bindP_intro b35 ?_
  conv => whnf
  try (refine ⟨by kernel_rfl, ?_⟩; conv => whnf)
  rw [bl a.num b.num]
  refine dec_cases (a.num = b.num) (fun h4 => ?_) (fun h4 => ?_)
  · rw [decide_eq_false h4]
    conv => whnf
    try (refine ⟨by kernel_rfl, ?_⟩; conv => whnf)
    exact ⟨_, rfl, rfl⟩
  rw [decide_eq_true h4]
  conv => whnf
  try (refine ⟨by kernel_rfl, ?_⟩; conv => whnf)
  refine bindP_intro a36 ?_
  conv => whnf
  try (refine ⟨by kernel_rfl, ?_⟩; conv => whnf)
  refine bindP_intro b36 ?_
  conv => whnf
  try (refine ⟨by kernel_rfl, ?_⟩; conv => whnf)
  rw [bl a.level b.level]
  refine dec_cases (a.level = b.level) (fun h5 => ?_) (fun h5 => ?_)
  · rw [decide_eq_false h5]
    conv => whnf
    try (refine ⟨by kernel_rfl, ?_⟩; conv => whnf)
    exact ⟨_, rfl, rfl⟩
  rw [decide_eq_true h5]
  conv => whnf
  try (refine ⟨by kernel_rfl, ?_⟩; conv => whnf)
  refine bindP_intro a37 ?_
  conv => whnf
  try (refine ⟨by kernel_rfl, ?_⟩; conv => whnf)
  refine ⟨a.load.map UInt8.ofNat, (byV_of la).symm, by simp, ?_⟩
  conv => whnf
  try (refine ⟨by kernel_rfl, ?_⟩; conv => whnf)
  refine bindP_intro b37 ?_
  conv => whnf
  try (refine ⟨by kernel_rfl, ?_⟩; conv => whnf)
  refine ⟨b.load.map UInt8.ofNat, (byV_of lb).symm, by simp, ?_⟩
  conv => whnf
  try (refine ⟨by kernel_rfl, ?_⟩; conv => whnf)
  refine ⟨_, rfl, ?_⟩
  refine congrArg some (congrArg VV.v (congrArg Value.bool ?_))
  exact (str_eq (a.load.map UInt8.ofNat) (b.load.map UInt8.ofNat)).trans (decide_eq_decide.2 (u8_inj la lb))
end Go.Proofs.YtidkdlaihmpjfaaDoor
namespace Go.Proofs.YtidkdlaihmpjfaaDoor
set_option linter.unusedVariables false
set_option linter.unusedSimpArgs false
set_option linter.unusedSectionVars false
open Go.ChangeShapes Go.WideShapes Go.ChangeAt Go.RowKit Go.Joins
set_option maxRecDepth 10000
noncomputable def fN {α : Type} (n : Nat) (f : Nat → α) : α := @Nat.rec (fun _ => α) (f 0) (fun k _ => f (Nat.succ k)) n
theorem fN_eq {α : Type} (n : Nat) (f : Nat → α) : fN n f = f n := by cases n <;> rfl
/-- A list, its numbers reckoned. -/
noncomputable def fL {α : Type} (l : List Nat) : (List Nat → α) → α := @List.rec Nat (fun _ => (List Nat → α) → α) (fun f => f []) (fun x _ ih f => fN x fun y => ih fun m => f (y :: m)) l
theorem fL_eq {α : Type} : ∀ (l : List Nat) (f : List Nat → α), fL l f = f l
  | [], _ => rfl
  | x :: l, f => by
    show fN x (fun y => fL l fun m => f (y :: m)) = _
    rw [fN_eq, fL_eq]
def eC (a : List Nat) : Nat → List Nat
  | 0 => [0, 0, 0, 0, 0]
  | i + 1 => (eC a i).set (i % 5) (Nat.xor ((eC a i).getD (i % 5) 0) (a.getD i 0))
def eV (a c : List Nat) (i : Nat) : Nat := rotl (Nat.xor (Nat.xor (a.getD i 0) (c.getD ((i % 5 + 4) % 5) 0)) (rotl (c.getD ((i % 5 + 1) % 5) 0) 1)) (kTurns.getD i 0)
def eB (a c : List Nat) : Nat → List Nat
  | 0 => [0, 0, 0, 0, 0, 0, 0, 0, 0, 0, 0, 0, 0, 0, 0, 0, 0, 0, 0, 0, 0, 0, 0, 0, 0]
  | i + 1 => (eB a c i).set (i / 5 + 5 * ((2 * (i % 5) + 3 * (i / 5)) % 5)) (eV a c i)
def eX (b : List Nat) (i : Nat) : Nat := Nat.xor (b.getD i 0) (Nat.land (Nat.xor 18446744073709551615 (b.getD ((i % 5 + 1) % 5 + 5 * (i / 5)) 0)) (b.getD ((i % 5 + 2) % 5 + 5 * (i / 5)) 0))
def eA (a b : List Nat) : Nat → List Nat
  | 0 => a
  | i + 1 => (eA a b i).set i (eX b i)
theorem eC_eq (a : List Nat) : ∀ i, thC a i = eC a i
  | 0 => rfl
  | i + 1 => by simp only [thC, eC, eC_eq a i, xo_def]; rfl
theorem eB_eq (a c : List Nat) : ∀ i, roB a c i = eB a c i
  | 0 => rfl
  | i + 1 => by simp only [roB, eB, eB_eq a c i, roV, eV, xo_def, rt_def]; rfl
theorem eA_eq (a b : List Nat) : ∀ i, chA a b i = eA a b i
  | 0 => rfl
  | i + 1 => by simp only [chA, eA, eA_eq a b i, chV, eX, xo_def, an_def]; rfl
noncomputable def eR {α : Type} (a : List Nat) (k : Nat) (f : List Nat → α) : α := fL (eC a 25) fun c => fL (eB a c 25) fun b => fL (eA a b 25) fun d => fL (d.set 0 (Nat.xor (d.getD 0 0) k)) f
theorem eR_eq {α : Type} (a : List Nat) (k : Nat) (f : List Nat → α) : eR a k f = f (roundK a k) := by
  unfold eR roundK chF roF thF
  simp only [fL_eq, hid_eq, eC_eq, eB_eq, eA_eq, xo_def]
  rfl
noncomputable def eT {α : Type} (ks : List Nat) : List Nat → (List Nat → α) → α := @List.rec Nat (fun _ => List Nat → (List Nat → α) → α) (fun a f => f a) (fun k _ ih a f => eR a k fun b => ih b f) ks
theorem eT_eq {α : Type} : ∀ (ks a : List Nat) (f : List Nat → α), eT ks a f = f (ks.foldl roundK a)
  | [], _, _ => rfl
  | k :: ks, a, f => by
    show eR a k (fun b => eT ks b f) = _
    rw [eR_eq, eT_eq]; rfl
theorem turnTo_fold (a : List Nat) : ∀ i, i ≤ 24 → turnTo a i = (kRounds.take i).foldl roundK a
  | 0, _ => rfl
  | i + 1, h => by
    have hi : i < kRounds.length := by have := kRounds_ok.1; omega
    rw [List.take_succ_eq_append_getElem hi, List.foldl_append, ← turnTo_fold a i (by omega)]
    simp only [turnTo, List.foldl_cons, List.foldl_nil]
    simp [List.getD, List.getElem?_eq_getElem hi]
noncomputable def eTurn {α : Type} (a : List Nat) (f : List Nat → α) : α := eT kRounds a f
theorem eTurn_eq {α : Type} (a : List Nat) (f : List Nat → α) : eTurn a f = f (turnS a) := by
  unfold eTurn
  rw [eT_eq, turnS_def, turnTo_fold a 24 (Nat.le_refl _)]
  rfl
def eS (l h : List Nat) : Nat → List Nat
  | 0 => l
  | i + 1 => (eS l h i).set (i / 8) (Nat.xor ((eS l h i).getD (i / 8) 0) (h.getD i 0 * 2 ^ (8 * (i % 8))))
theorem eS_eq (l h : List Nat) : ∀ i, soTo l h i = eS l h i
  | 0 => rfl
  | i + 1 => by simp only [soTo, eS, eS_eq l h i, xo_def]; rfl
/-- The sum of fewer than 136 bytes. -/
noncomputable def eSum {α : Type} (b : List Nat) (f : List Nat → α) : α :=
  fL ((((b ++ zB (136 - b.length)).set b.length 1).set 135 (Nat.lor (((b ++ zB (136 - b.length)).set b.length 1).getD 135 0) 128))) fun h => fL (eS (zB 25) h 136) fun l => eTurn l fun t => fL (outB t 32) f
theorem spAdd_few : ∀ (b c : List Nat), c.length + b.length < 136 → spAdd ⟨zB 25, c ++ zB (136 - c.length), c.length⟩ b = ⟨zB 25, (c ++ b) ++ zB (136 - (c ++ b).length), (c ++ b).length⟩
  | [], c, _ => by simp [spAdd]
  | x :: b, c, h => by
    have h1 : spStep ⟨zB 25, c ++ zB (136 - c.length), c.length⟩ x = ⟨zB 25, (c ++ [x]) ++ zB (136 - (c ++ [x]).length), (c ++ [x]).length⟩ := by
      unfold spStep
      simp only [List.length_cons] at h
      rw [if_neg (by show ¬ c.length + 1 = 136; omega)]
      have e : zB (136 - c.length) = 0 :: zB (136 - (c.length + 1)) := by
        unfold zB
        rw [show 136 - c.length = (136 - (c.length + 1)) + 1 by omega, List.replicate_succ]
      congr 1
      · show (c ++ zB (136 - c.length)).set c.length x = _
        rw [e, List.set_append_right _ _ (Nat.le_refl _), Nat.sub_self, List.set_cons_zero]
        simp
      · simp
    show spAdd (spStep _ x) b = _
    rw [h1, spAdd_few b (c ++ [x]) (by simp at h ⊢; omega)]
    simp
theorem eSum_eq {α : Type} {b : List Nat} (hb : b.length < 136) (f : List Nat → α) : eSum b f = f (kSum b) := by
  have h1 := spAdd_few b [] (by simpa using hb)
  simp only [List.nil_append, List.length_nil, Nat.sub_zero] at h1
  unfold eSum kSum spEnd endH soF
  rw [h1]
  simp only [fL_eq, eTurn_eq, hid_eq, eS_eq]
  rfl
theorem known_empty : (kSum []).take 8 = [197, 210, 70, 1, 134, 247, 35, 60] := by
  have h := eSum_eq (b := []) (by decide) (fun o => decide (o.take 8 = [197, 210, 70, 1, 134, 247, 35, 60]))
  exact of_decide_eq_true (h.symm.trans (by kernel_rfl))
theorem known_abc : (kSum [97, 98, 99]).take 8 = [78, 3, 101, 122, 234, 69, 169, 79] := by
  have h := eSum_eq (b := [97, 98, 99]) (by decide) (fun o => decide (o.take 8 = [78, 3, 101, 122, 234, 69, 169, 79]))
  exact of_decide_eq_true (h.symm.trans (by kernel_rfl))
end Go.Proofs.YtidkdlaihmpjfaaDoor
namespace Go.Proofs.YtidkdlaihmpjfaaDoor
set_option linter.unusedVariables false
set_option linter.unusedSimpArgs false
set_option linter.unusedSectionVars false
open Go.ChangeShapes Go.WideShapes Go.ChangeAt Go.RowKit Go.Joins
set_option maxRecDepth 10000
theorem ktells_fn : FnV Tryd.prog G0 19 [] (bI true) := by
  have s1 := sum_fn (l := [97, 98, 99]) (by decide) (by decide) false
  have lK : (bts (kSum [97, 98, 99])).length = 32 := by unfold kSum spEnd; rw [hid_eq, bts_length, outB_len]
  have h0 : (bts (kSum [97, 98, 99]))[0]? = some (nI .u8 78) := by
    have h := known_abc
    have h1 : ((kSum [97, 98, 99]).take 8)[0]? = some 78 := by rw [h]; rfl
    rw [List.getElem?_take_of_lt (by decide)] at h1
    unfold bts
    rw [List.getElem?_map, h1]
    rfl
  refine fn_of_vwp Γok Tryd.func19 (by kernel_rfl) rfl (by simp [Tryd.ntmps19]) (wpv_ok Γok (by kernel_rfl) _ _ _ ?_); conv => whnf
  refine .ownAs 3 (bts [97, 98, 99]) (by rfl) (by rfl) ?_
  conv => whnf
  try (refine ⟨by kernel_rfl, ?_⟩; conv => whnf)
  refine ⟨_, ret_give [0] G0ok (s1) (by rfl) (by first | rfl | simp only [noHs, noH, nI, bI, Bool.and_self, Bool.and_true, Bool.true_and, bts_noHs]), ?_⟩; (conv => whnf); (try (refine ⟨by kernel_rfl, ?_⟩; conv => whnf))
  refine onlyIf_intro (by rw [lK]; rfl) ?_
  conv => whnf
  try (refine ⟨by kernel_rfl, ?_⟩; conv => whnf)
  refine bindP_intro h0 ?_
  conv => whnf
  try (refine ⟨by kernel_rfl, ?_⟩; conv => whnf)
  exact ⟨_, rfl, rfl⟩
end Go.Proofs.YtidkdlaihmpjfaaDoor
