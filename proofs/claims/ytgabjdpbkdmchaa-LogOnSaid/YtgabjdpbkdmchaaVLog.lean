/- The log's functions, by the engine. -/
import Derived.Test.YtgabjdpbkdmchaaPicked
namespace Go.Proofs.Ytgabjdpbkdmchaa
set_option linter.unusedVariables false
set_option linter.unusedSimpArgs false
set_option linter.unusedSectionVars false
open Go.ChangeShapes Go.WideShapes Go.ChangeAt Go.RowKit Go.Joins
set_option maxRecDepth 10000
def tailN (l : List UInt8) : Nat := l.foldl (fun (s : Nat) c => (s + c.toNat) % 256) 0
theorem tailN_take {l : List UInt8} {i : Nat} (h : i < l.length) : tailN (l.take (i + 1)) = (tailN (l.take i) + l[i].toNat) % 256 := by
  unfold tailN
  rw [List.take_add_one, List.getElem?_eq_getElem h, List.foldl_append]
  rfl
theorem tail_fn (f : Bool) (l : List UInt8) (hl : l.length < 2 ^ 40) : FnV Try.prog G0 33 [dsB f l] (nI .u8 (tailN l : Nat)) := by
  unfold dsB
  refine fn_of_vwp Γok Try.func33 (by kernel_rfl) rfl (by simp [Try.ntmps33]) (wpv_ok Γok (by kernel_rfl) _ _ _ ?_); conv => whnf
  refine vloop_invK G0ok [] 0 (X := Nat) (fun i => [(8, nI .i64 i), (7, nI .i64 l.length), (6, .ds f l.length (l.map byV)), (3, nI .u8 (tailN (l.take i) : Nat))]) (fun _ => [])
    (fun i => i ≤ l.length) (fun i => l.length - i) 0 rfl ⟨⟨_, rfl, conv_nI (rfl)⟩, ⟨_, rfl, conv_nI (rfl)⟩, ⟨_, rfl, conv_eq rfl (byV_noHs _)⟩, ⟨_, rfl, conv_nI (rfl)⟩, trivial⟩ trivial (Nat.zero_le _) ?_
  intro i hi
  dsimp only at hi ⊢
  refine wpv_ok Γok (by kernel_rfl) _ _ _ ?_; conv => whnf
  refine bool_cases (fun hc' => ?_) (fun hc' => ?_)
  · have hc' := of_decide_eq_true hc'
    have hc : i < l.length := by omega
    conv => whnf
    refine bindP_intro (if_pos (inB_ok (by omega) (by omega))) ?_; conv => whnf
    refine bindP_intro (byV_ix (i := i) (by dsimp only; omega) hc) ?_
    conv => whnf
    refine next_round G0ok (i + 1) [] rfl ⟨⟨_, rfl, conv_nI (ws_i64 (by omega) (by omega))⟩, ⟨_, rfl, conv_nI (rfl)⟩, ⟨_, rfl, conv_eq rfl (byV_noHs _)⟩, ⟨_, rfl, conv_nI (by rw [ws_u8, tailN_take hc]; omega)⟩, trivial⟩ trivial hc (by omega)
  · have hc' := of_decide_eq_false hc'
    have hi2 : i = l.length := by omega
    subst hi2
    rw [List.take_length]
    conv => whnf
    exact ⟨_, rfl, rfl⟩
theorem byte_of (n : Nat) : VV.v (.int .u8 (wS .u8 (n : Int))) = byV (UInt8.ofNat n) := by
  unfold byV
  rw [ws_u8]
  congr 2
theorem byte_hi (n : Nat) : VV.v (.int .u8 (wS .u8 (((n : Nat) : Int).fdiv (2 ^ min (Int.toNat 8) IntKind.i64.bits)))) = byV (UInt8.ofNat (n / 256)) := by
  rw [show ((n : Nat) : Int).fdiv (2 ^ min (Int.toNat 8) IntKind.i64.bits) = ((n / 256 : Nat) : Int) from shr_val (k := .i64) (x := n) (n := 8) (by decide)]
  exact byte_of _
theorem tailN_lt (l : List UInt8) : tailN l < 256 := by
  rcases Nat.eq_zero_or_pos l.length with h | h
  · rw [List.eq_nil_of_length_eq_zero h]; decide
  · have := tailN_take (l := l) (i := l.length - 1) (by omega)
    rw [show l.length - 1 + 1 = l.length by omega, List.take_length] at this
    omega
theorem byte_tail (l : List UInt8) : VV.v (.int .u8 ((tailN l : Nat) : Int)) = byV (UInt8.ofNat (tailN l)) := by
  rw [← byte_of, ws_u8]
  have := tailN_lt l
  congr 2
  omega
theorem two_bytes (n : Nat) : [VV.v (.int .u8 (wS .u8 (((n : Nat) : Int).fdiv (2 ^ min (Int.toNat 8) IntKind.i64.bits)))), VV.v (.int .u8 (wS .u8 (n : Int)))] = [UInt8.ofNat (n / 256), UInt8.ofNat n].map byV := by
  rw [byte_hi, byte_of]; rfl
theorem one_byte (l : List UInt8) : [VV.v (.int .u8 ((tailN l : Nat) : Int))] = [UInt8.ofNat (tailN l)].map byV := by
  rw [byte_tail]; rfl
def recB (r : List UInt8) : List UInt8 := [UInt8.ofNat (r.length / 256), UInt8.ofNat r.length] ++ r ++ [UInt8.ofNat (tailN r)]
theorem append_fn (f1 f2 f3 : Bool) (a b r : List UInt8) (h1 : a.length + b.length + r.length + 3 ≤ 9000) (h2 : r.length ≤ 200) :
    FnV Try.prog G0 19 [.agg [dsB f1 a, dsB f2 b], dsB f3 r] (.tup [.agg [dsB false a, dsB false (b ++ recB r)], nI .i64 0]) := by
  unfold dsB
  refine fn_of_vwp Γok Try.func19 (by kernel_rfl) rfl (by simp [Try.ntmps19]) (wpv_ok Γok (by kernel_rfl) _ _ _ ?_); conv => whnf
  rw [decide_eq_false (show ¬ ((a.length : Nat) : Int) > 9000 by omega)]
  conv => whnf
  rw [decide_eq_false (show ¬ ((b.length : Nat) : Int) > 9000 by omega)]
  conv => whnf
  rw [decide_eq_false (show ¬ ((r.length : Nat) : Int) > 200 by omega)]
  conv => whnf
  rw [ws_i64 (x := (a.length : Int) + b.length) (by omega) (by omega), ws_i64 (x := (a.length : Int) + b.length + r.length) (by omega) (by omega), ws_i64 (by omega) (by omega), decide_eq_false (by omega)]
  conv => whnf
  refine .ownAs 2 ([UInt8.ofNat (r.length / 256), UInt8.ofNat r.length].map byV) rfl ?_ ?_
  · exact two_bytes r.length
  conv => whnf
  refine onlyIf_intro (by simp [] <;> omega) ?_; (conv => whnf); (try (refine ⟨by kernel_rfl, ?_⟩; conv => whnf))
  rw [List.length_map]
  conv => whnf
  refine onlyIf_intro (by simp [] <;> omega) ?_; (conv => whnf); (try (refine ⟨by kernel_rfl, ?_⟩; conv => whnf))
  refine .own ?_
  conv => whnf
  refine ⟨_, ret_of_fn G0ok (tail_fn f3 r (by omega)) (by first | rfl | simp only [noHs, noH, nI, bI, Bool.and_self, Bool.and_true, Bool.true_and, dsB_noH]) (by first | rfl | simp only [noHs, noH, nI, bI, Bool.and_self, Bool.and_true, Bool.true_and, dsB_noH]), ?_⟩; (conv => whnf); (try (refine ⟨by kernel_rfl, ?_⟩; conv => whnf))
  refine .ownAs 1 ([UInt8.ofNat (tailN r)].map byV) rfl (one_byte r) ?_
  conv => whnf
  refine onlyIf_intro (by simp [] <;> omega) ?_; (conv => whnf); (try (refine ⟨by kernel_rfl, ?_⟩; conv => whnf))
  refine .ownAs (recB r).length ((recB r).map byV) (by simp [recB]; omega) (by simp [recB]) ?_
  conv => whnf
  refine .ownAs 0 [] rfl rfl ?_
  conv => whnf
  refine onlyIf_intro (by simp [] <;> omega) ?_; (conv => whnf); (try (refine ⟨by kernel_rfl, ?_⟩; conv => whnf))
  refine onlyIf_intro (by simp [] <;> omega) ?_; (conv => whnf); (try (refine ⟨by kernel_rfl, ?_⟩; conv => whnf))
  refine .read a.length (a.map byV) (by simp) rfl (by simp) (byV_noHs _) ?_
  conv => whnf
  refine .ownAs 0 [] rfl rfl ?_
  conv => whnf
  refine onlyIf_intro (by simp [] <;> omega) ?_; (conv => whnf); (try (refine ⟨by kernel_rfl, ?_⟩; conv => whnf))
  refine onlyIf_intro (by simp [] <;> omega) ?_; (conv => whnf); (try (refine ⟨by kernel_rfl, ?_⟩; conv => whnf))
  refine .ownAs b.length (b.map byV) (by simp) rfl ?_
  conv => whnf
  refine bindP_intro (view_whole rfl (by simp [])) ?_; (conv => whnf); (try (refine ⟨by kernel_rfl, ?_⟩; conv => whnf))
  refine onlyIf_intro (by simp [] <;> omega) ?_; (conv => whnf); (try (refine ⟨by kernel_rfl, ?_⟩; conv => whnf))
  refine onlyIf_intro (by simp [recB] <;> omega) ?_; (conv => whnf); (try (refine ⟨by kernel_rfl, ?_⟩; conv => whnf))
  refine .read (b ++ recB r).length ((b ++ recB r).map byV) (by simp) (by simp) (by simp) (byV_noHs _) ?_
  conv => whnf
  try (refine ⟨by kernel_rfl, ?_⟩; conv => whnf)
  exact ends_at rfl (by simp [noH, noHs, nI, bI, byV_noHs, dsB, noHs_append])
theorem sync_fn (f1 f2 : Bool) (a b : List UInt8) (h1 : a.length + b.length ≤ 10000) : FnV Try.prog G0 32 [.agg [dsB f1 a, dsB f2 b]] (.agg [dsB false (a ++ b), .ds true 0 []]) := by
  unfold dsB
  refine fn_of_vwp Γok Try.func32 (by kernel_rfl) rfl (by simp [Try.ntmps32]) (wpv_ok Γok (by kernel_rfl) _ _ _ ?_); conv => whnf
  refine .ownAs 0 [] rfl rfl ?_
  conv => whnf
  refine onlyIf_intro (by simp [] <;> omega) ?_; (conv => whnf); (try (refine ⟨by kernel_rfl, ?_⟩; conv => whnf))
  refine onlyIf_intro (by simp [] <;> omega) ?_; (conv => whnf); (try (refine ⟨by kernel_rfl, ?_⟩; conv => whnf))
  refine .ownAs a.length (a.map byV) (by simp) rfl ?_
  conv => whnf
  refine onlyIf_intro (by simp [] <;> omega) ?_; (conv => whnf); (try (refine ⟨by kernel_rfl, ?_⟩; conv => whnf))
  refine onlyIf_intro (by simp [] <;> omega) ?_; (conv => whnf); (try (refine ⟨by kernel_rfl, ?_⟩; conv => whnf))
  refine .read (a ++ b).length ((a ++ b).map byV) (by simp) (by simp) (by simp) (byV_noHs _) ?_
  conv => whnf
  try (refine ⟨by kernel_rfl, ?_⟩; conv => whnf)
  exact ends_at rfl (by simp [noH, noHs, nI, bI, byV_noHs, dsB, noHs_append])
theorem crash_fn (f1 f2 : Bool) (a b : List UInt8) (k : Nat) (h1 : a.length + b.length ≤ 10000) (hk : k ≤ b.length) : FnV Try.prog G0 14 [.agg [dsB f1 a, dsB f2 b], nI .i64 k] (.tup [.agg [dsB false (a ++ b.take k), .ds true 0 []], nI .i64 0]) := by
  unfold dsB
  refine fn_of_vwp Γok Try.func14 (by kernel_rfl) rfl (by simp [Try.ntmps14]) (wpv_ok Γok (by kernel_rfl) _ _ _ ?_); conv => whnf
  rw [decide_eq_false (show ¬ ((k : Nat) : Int) > (b.length : Nat) by omega)]
  conv => whnf
  refine .ownAs 0 [] rfl rfl ?_
  conv => whnf
  refine onlyIf_intro (by simp [] <;> omega) ?_; (conv => whnf); (try (refine ⟨by kernel_rfl, ?_⟩; conv => whnf))
  refine onlyIf_intro (by simp [] <;> omega) ?_; (conv => whnf); (try (refine ⟨by kernel_rfl, ?_⟩; conv => whnf))
  refine .ownAs a.length (a.map byV) (by simp) rfl ?_
  conv => whnf
  refine bindP_intro (vpure_slice (vslice_by rfl rfl (by rfl) (by rfl) (vb_nat) (Nat.zero_le _) hk)) ?_; (conv => whnf); (try (refine ⟨by kernel_rfl, ?_⟩; conv => whnf))
  refine onlyIf_intro (by simp [] <;> omega) ?_; (conv => whnf); (try (refine ⟨by kernel_rfl, ?_⟩; conv => whnf))
  refine onlyIf_intro (by simp [] <;> omega) ?_; (conv => whnf); (try (refine ⟨by kernel_rfl, ?_⟩; conv => whnf))
  refine .read (a ++ b.take k).length ((a ++ b.take k).map byV) (by simp) (by simp) (by simp) (byV_noHs _) ?_
  conv => whnf
  try (refine ⟨by kernel_rfl, ?_⟩; conv => whnf)
  exact ends_at rfl (by simp only [noH, noHs, nI, byV_noHs, dsB]; rfl)
/-- What the first two bytes say. -/
def hdB (b : List UInt8) : Nat := (b.getD 0 0).toNat * 256 + (b.getD 1 0).toNat
def oneB (b : List UInt8) : Prop := 3 ≤ b.length ∧ hdB b ≤ 200 ∧ hdB b + 3 ≤ b.length ∧ tailN ((b.drop 2).take (hdB b)) = (b.getD (2 + hdB b) 0).toNat
instance (b : List UInt8) : Decidable (oneB b) := by unfold oneB; infer_instance
def openF : Nat → List UInt8 → List (List UInt8) × Nat
  | 0, _ => ([], 0)
  | k + 1, b => if oneB b then ((b.drop 2).take (hdB b) :: (openF k (b.drop (hdB b + 3))).1, hdB b + 3 + (openF k (b.drop (hdB b + 3))).2) else ([], 0)
def openL (b : List UInt8) : List (List UInt8) × Nat := openF b.length b
theorem openF_more : ∀ (k j : Nat) (b : List UInt8), b.length ≤ k → b.length ≤ j → openF k b = openF j b
  | 0, 0, b, _, _ => rfl
  | 0, j + 1, b, h, _ => by
    have : b = [] := List.eq_nil_of_length_eq_zero (by omega)
    subst this
    simp only [openF]
    rw [if_neg (by rintro ⟨h, _⟩; simp at h)]
  | k + 1, 0, b, _, h => by
    have : b = [] := List.eq_nil_of_length_eq_zero (by omega)
    subst this
    simp only [openF]
    rw [if_neg (by rintro ⟨h, _⟩; simp at h)]
  | k + 1, j + 1, b, h1, h2 => by
    simp only [openF]
    rw [openF_more k j (b.drop (hdB b + 3)) (by simp; omega) (by simp; omega)]
theorem openL_one {b : List UInt8} (h : oneB b) : openL b = ((b.drop 2).take (hdB b) :: (openL (b.drop (hdB b + 3))).1, hdB b + 3 + (openL (b.drop (hdB b + 3))).2) := by
  unfold openL
  obtain ⟨k, hk⟩ : ∃ k, b.length = k + 1 := ⟨b.length - 1, by have := h.1; omega⟩
  rw [hk]
  simp only [openF, if_pos h]
  rw [openF_more k (b.drop (hdB b + 3)).length _ (by simp; omega) (Nat.le_refl _)]
theorem openL_none {b : List UInt8} (h : ¬ oneB b) : openL b = ([], 0) := by
  unfold openL
  cases b.length with
  | zero => rfl
  | succ k => simp only [openF, if_neg h]
theorem hi_lo {x y : Nat} (hx : x < 256) (hy : y < 256) : bitS .or .i64 (wS .i64 ((x : Int) * 2 ^ min (Int.toNat 8) IntKind.i64.bits)) (y : Int) = ((x * 256 + y : Nat) : Int) := by
  rw [show wS .i64 ((x : Int) * 2 ^ min (Int.toNat 8) IntKind.i64.bits) = IntKind.i64.wrap ((x : Int) * ((2 ^ 8 : Nat) : Int)) from shl_val (k := .i64) (n := 8) (by decide), wrap_i64 (by omega) (by omega), ← Int.natCast_mul, bitS_or (by simp only [IntKind.bits]; omega) (by simp only [IntKind.bits]; omega)]
  rw [show x * 2 ^ 8 ||| y = x * 256 + y from by rw [Nat.mul_comm x, ← Nat.two_pow_add_eq_or_of_lt (by omega)], wrap_i64 (by omega) (by omega)]
theorem open_fn (f1 f2 : Bool) (a b : List UInt8) (h1 : a.length + b.length ≤ 10000) : FnV Try.prog G0 15 [.agg [dsB f1 a, dsB f2 b]] (.tup [.ds false (openL (a ++ b)).1.length ((openL (a ++ b)).1.map (dsB false)), nI .i64 (openL (a ++ b)).2]) := by
  unfold dsB
  refine fn_of_vwp Γok Try.func15 (by kernel_rfl) rfl (by simp [Try.ntmps15]) (wpv_ok Γok (by kernel_rfl) _ _ _ ?_); conv => whnf
  refine .ownAs 0 [] rfl rfl ?_
  conv => whnf
  refine onlyIf_intro (by simp [] <;> omega) ?_; (conv => whnf); (try (refine ⟨by kernel_rfl, ?_⟩; conv => whnf))
  refine onlyIf_intro (by simp [] <;> omega) ?_; (conv => whnf); (try (refine ⟨by kernel_rfl, ?_⟩; conv => whnf))
  refine .ownAs a.length (a.map byV) (by simp) rfl ?_
  conv => whnf
  refine onlyIf_intro (by simp [] <;> omega) ?_; (conv => whnf); (try (refine ⟨by kernel_rfl, ?_⟩; conv => whnf))
  refine onlyIf_intro (by simp [] <;> omega) ?_; (conv => whnf); (try (refine ⟨by kernel_rfl, ?_⟩; conv => whnf))
  refine .read (a ++ b).length ((a ++ b).map byV) (by simp) (by simp) (by simp) (byV_noHs _) ?_
  have hl : (a ++ b).length ≤ 10000 := by simp; omega
  refine gen_ex (a ++ b) fun bs hbs => ?_
  rw [← hbs] at hl ⊢
  clear hbs
  conv => whnf
  try (refine ⟨by kernel_rfl, ?_⟩; conv => whnf)
  refine vloop_invK G0ok [(0, none)] 1 (X := List (List UInt8) × Nat) (fun y => [(6, .sl 0 0 y.1.length 1), (5, nI .i64 y.2), (4, .ds false bs.length (bs.map byV))]) (fun y => [(0, some (y.1.map (dsB false)))])
    (fun y => y.1.length ≤ y.2 ∧ y.2 ≤ bs.length ∧ openL bs = (y.1 ++ (openL (bs.drop y.2)).1, y.2 + (openL (bs.drop y.2)).2)) (fun y => bs.length - y.2) ([], 0) rfl ⟨⟨_, rfl, .null rfl⟩, ⟨_, rfl, conv_nI (rfl)⟩, ⟨_, rfl, conv_eq rfl (byV_noHs _)⟩, trivial⟩ ⟨.inl ⟨rfl, rfl⟩, trivial⟩ ⟨Nat.zero_le _, Nat.zero_le _, by simp⟩ ?_
  rintro ⟨outs, t⟩ ⟨hk, ht, ho⟩
  dsimp only at hk ht ho ⊢
  refine wpv_ok Γok (by kernel_rfl) _ _ _ ?_; conv => whnf
  rw [ws_i64 (x := (bs.length : Int) - t) (by omega) (by omega)]
  have fin : ¬ oneB (bs.drop t) → openL bs = (outs, t) := fun h => by rw [ho, openL_none h]; simp
  have done : ∀ (lkf : Nat → Option (List VV)), lkf 0 = some (outs.map (dsB false)) → openL bs = (outs, t) →
      deepV 3 lkf (.tup [.sl 0 0 outs.length 1, nI .i64 t]) = some (.tup [.ds false (openL bs).1.length ((openL bs).1.map (dsB false)), nI .i64 (openL bs).2]) := fun lkf h1 h2 => by
    rw [h2]
    exact deep_tup (mapO_cons (deep_row h1 (by simp) (dsBs_noHs _ _)) (mapO_cons (deepV_noH _ _ rfl) mapO_nil))
  refine bool_cases (fun hc => ?_) (fun hc => ?_)
  · have hc := of_decide_eq_true hc
    have hd : bs.drop t = bs[t] :: bs[t + 1] :: bs.drop (t + 2) := by
      rw [List.drop_eq_getElem_cons (by omega), List.drop_eq_getElem_cons (i := t + 1) (by omega)]
    have hx := UInt8.toNat_lt bs[t]
    have hy := UInt8.toNat_lt bs[t + 1]
    conv => whnf
    refine bindP_intro (if_pos (inB_ok (by omega) (by omega))) ?_; conv => whnf
    refine bindP_intro (byV_ix (i := t) (by dsimp only; omega) (by omega)) ?_
    conv => whnf
    rw [ws_i64 (x := ((bs[t].toNat : Nat) : Int)) (by omega) (by omega), ws_i64 (x := (t : Int) + 1) (by omega) (by omega)]
    conv => whnf
    refine bindP_intro (if_pos (inB_ok (by omega) (by omega))) ?_; conv => whnf
    refine bindP_intro (byV_ix (i := t + 1) (by dsimp only; omega) (by omega)) ?_
    conv => whnf
    rw [ws_i64 (x := ((bs[t + 1].toNat : Nat) : Int)) (by omega) (by omega), hi_lo hx hy]
    have hn : bs[t].toNat * 256 + bs[t + 1].toNat = hdB (bs.drop t) := by rw [hd]; rfl
    rw [hn]
    refine gen_ex (hdB (bs.drop t)) fun n en => ?_
    rw [← en]
    try (refine ⟨by kernel_rfl, ?_⟩; conv => whnf)
    by_cases h2 : (n : Int) > 200
    · rw [decide_eq_true h2]
      conv => whnf
      exact ⟨_, rfl, done _ rfl (fin fun h => by have := h.2.1; omega)⟩
    rw [decide_eq_false h2]
    conv => whnf
    rw [ws_i64 (x := (bs.length : Int) - t) (by omega) (by omega), ws_i64 (x := (n : Int) + 3) (by omega) (by omega)]
    by_cases h3 : (bs.length : Int) - t < (n : Int) + 3
    · rw [decide_eq_true h3]
      conv => whnf
      exact ⟨_, rfl, done _ rfl (fin fun h => by have := h.2.2.1; simp at this; omega)⟩
    rw [decide_eq_false h3]
    conv => whnf
    rw [ws_i64 (x := (t : Int) + 2) (by omega) (by omega), ws_i64 (x := (t : Int) + 2 + n) (by omega) (by omega), show (t : Int) + 2 = ((t + 2 : Nat) : Int) from by omega, show ((t + 2 : Nat) : Int) + n = ((t + 2 + n : Nat) : Int) from by omega]
    refine bindP_intro (vpure_slice (vslice_by rfl rfl (by rfl) (vb_nat) (vb_nat) (by omega) (by omega))) ?_; (conv => whnf); (try (refine ⟨by kernel_rfl, ?_⟩; conv => whnf))
    rw [show t + 2 + n - (t + 2) = n from by omega]
    refine ⟨_, ret_of_fn G0ok (tail_fn _ _ (by simp; omega)) (by first | rfl | simp only [noHs, noH, nI, bI, Bool.and_self, Bool.and_true, Bool.true_and, dsB_noH]) (by first | rfl | simp only [noHs, noH, nI, bI, Bool.and_self, Bool.and_true, Bool.true_and, dsB_noH]), ?_⟩; (conv => whnf); (try (refine ⟨by kernel_rfl, ?_⟩; conv => whnf))
    rw [ws_i64 (x := (t : Int) + 2) (by omega) (by omega), ws_i64 (x := (t : Int) + 2 + n) (by omega) (by omega)]
    refine bindP_intro (if_pos (inB_ok (by omega) (by omega))) ?_; conv => whnf
    refine bindP_intro (byV_ix (i := t + 2 + n) (by dsimp only; omega) (by omega)) ?_
    conv => whnf
    rw [bne_lit]
    by_cases h4 : tailN ((bs.drop (t + 2)).take n) = bs[t + 2 + n].toNat
    · rw [decide_eq_true h4]
      try (refine ⟨by kernel_rfl, ?_⟩; conv => whnf)
      refine .ownAs 0 [] rfl rfl ?_
      conv => whnf
      rw [ws_i64 (x := (t : Int) + 2) (by omega) (by omega), ws_i64 (x := (t : Int) + 2 + n) (by omega) (by omega), show (t : Int) + 2 = ((t + 2 : Nat) : Int) from by omega, show ((t + 2 : Nat) : Int) + n = ((t + 2 + n : Nat) : Int) from by omega]
      refine bindP_intro (vpure_slice (vslice_by rfl rfl (by rfl) (vb_nat) (vb_nat) (by omega) (by omega))) ?_; (conv => whnf); (try (refine ⟨by kernel_rfl, ?_⟩; conv => whnf))
      rw [show t + 2 + n - (t + 2) = n from by omega]
      refine onlyIf_intro (by simp [] <;> omega) ?_; (conv => whnf); (try (refine ⟨by kernel_rfl, ?_⟩; conv => whnf))
      refine onlyIf_intro (by simp [] <;> omega) ?_; (conv => whnf); (try (refine ⟨by kernel_rfl, ?_⟩; conv => whnf))
      refine .read n (((bs.drop (t + 2)).take n).map byV) (by simp; omega) rfl (by simp; omega) (byV_noHs _) ?_
      conv => whnf
      refine .ownAs 1 [.ds false n (((bs.drop (t + 2)).take n).map byV)] rfl rfl ?_
      conv => whnf
      refine onlyIf_intro (by simp [] <;> omega) ?_; (conv => whnf); (try (refine ⟨by kernel_rfl, ?_⟩; conv => whnf))
      refine .ownAs (outs ++ [(bs.drop (t + 2)).take n]).length ((outs ++ [(bs.drop (t + 2)).take n]).map (dsB false)) (by simp) (by rw [List.map_append, List.map_cons, List.map_nil, dsB, show ((bs.drop (t + 2)).take n).length = n by simp; omega]) ?_
      conv => whnf
      have h1 : oneB (bs.drop t) := by
        refine ⟨by simp; omega, by omega, by rw [← en]; simp; omega, ?_⟩
        rw [← en, List.drop_drop, h4, List.getD_eq_getElem?_getD, List.getElem?_drop, ← Nat.add_assoc, List.getElem?_eq_getElem (by omega)]
        rfl
      refine next_round (y := (outs, t)) G0ok (outs ++ [(bs.drop (t + 2)).take n], t + (n + 3)) [(0, some 4)] rfl ⟨⟨_, rfl, .sl rfl⟩, ⟨_, rfl, conv_nI (by rw [ws_i64 (x := (n : Int) + 3) (by omega) (by omega), ws_i64 (by omega) (by omega)]; omega)⟩, ⟨_, rfl, conv_eq rfl (byV_noHs _)⟩, trivial⟩ ⟨.inr ⟨_, _, rfl, rfl, .same (dsBs_noHs _ _)⟩, trivial⟩ ⟨by simp; omega, by dsimp only; omega, ?_⟩ (by dsimp only; omega)
      rw [ho, openL_one h1, ← en, List.drop_drop, List.drop_drop]
      simp only [List.append_assoc, List.singleton_append, Nat.add_assoc]
    · rw [decide_eq_false h4]
      try (refine ⟨by kernel_rfl, ?_⟩; conv => whnf)
      refine ⟨_, rfl, done _ rfl (fin fun h => h4 ?_)⟩
      have h5 := h.2.2.2
      rw [← en, List.drop_drop, List.getD_eq_getElem?_getD, List.getElem?_drop, ← Nat.add_assoc, List.getElem?_eq_getElem (by omega)] at h5
      exact h5
  · have hc := of_decide_eq_false hc
    conv => whnf
    exact ⟨_, rfl, done _ rfl (fin fun h => by have := h.1; simp at this; omega)⟩
theorem openF_le : ∀ (k : Nat) (b : List UInt8), (openF k b).2 ≤ b.length
  | 0, b => Nat.zero_le _
  | k + 1, b => by
    simp only [openF]
    split
    · rename_i h
      have := openF_le k (b.drop (hdB b + 3))
      have := h.2.2.1
      simp at *
      omega
    · exact Nat.zero_le _
theorem openL_le (b : List UInt8) : (openL b).2 ≤ b.length := openF_le _ _
theorem mend_fn (f1 f2 : Bool) (a : List UInt8) (h1 : a.length ≤ 10000) : FnV Try.prog G0 18 [.agg [dsB f1 a, dsB f2 []]] (.tup [.agg [dsB false (a.take (openL a).2), .ds true 0 []], nI .i64 0]) := by
  have ho := open_fn f1 f2 a [] (by simpa using h1)
  rw [List.append_nil] at ho
  have hn := openL_le a
  refine gen_ex (openL a) fun o eo => ?_
  rw [← eo] at ho hn ⊢
  obtain ⟨os, n⟩ := o
  dsimp only at ho hn ⊢
  clear eo
  unfold dsB
  refine fn_of_vwp Γok Try.func18 (by kernel_rfl) rfl (by simp [Try.ntmps18]) (wpv_ok Γok (by kernel_rfl) _ _ _ ?_); conv => whnf
  refine ⟨_, ret_of_fn G0ok (ho) (by first | rfl | simp only [noHs, noH, nI, bI, Bool.and_self, Bool.and_true, Bool.true_and, dsB_noH, dsBs_noHs]) (by first | rfl | simp only [noHs, noH, nI, bI, Bool.and_self, Bool.and_true, Bool.true_and, dsB_noH, dsBs_noHs]), ?_⟩; (conv => whnf); (try (refine ⟨by kernel_rfl, ?_⟩; conv => whnf))
  refine .ownAs 0 [] rfl rfl ?_
  conv => whnf
  refine bindP_intro (vpure_slice (vslice_by rfl rfl (by rfl) (by rfl) (vb_nat) (Nat.zero_le _) hn)) ?_; (conv => whnf); (try (refine ⟨by kernel_rfl, ?_⟩; conv => whnf))
  refine onlyIf_intro (by simp [] <;> omega) ?_; (conv => whnf); (try (refine ⟨by kernel_rfl, ?_⟩; conv => whnf))
  refine onlyIf_intro (by simp [] <;> omega) ?_; (conv => whnf); (try (refine ⟨by kernel_rfl, ?_⟩; conv => whnf))
  refine .read (a.take n).length ((a.take n).map byV) (by simp) (by simp) (by simp) (byV_noHs _) ?_
  conv => whnf
  exact ends_at rfl (by simp only [noH, noHs, nI, byV_noHs, dsB]; rfl)
theorem mend_err (f1 f2 : Bool) (a b : List UInt8) (h1 : 0 < b.length) (hl : b.length ≤ 10000) : FnV Try.prog G0 18 [.agg [dsB f1 a, dsB f2 b]] (.tup [.agg [.ds true 0 [], .ds true 0 []], nI .i64 12]) := by
  unfold dsB at *
  refine fn_of_vwp Γok Try.func18 (by kernel_rfl) rfl (by simp [Try.ntmps18]) (wpv_ok Γok (by kernel_rfl) _ _ _ ?_); conv => whnf
  rw [decide_eq_true (show ((b.length : Nat) : Int) > 0 by omega)]
  conv => whnf
  exact ⟨_, rfl, rfl⟩
theorem cut_fn (s : ByteArray) (m : Nat) (hs : s.size ≤ maxLen) (hm : m ≤ 1000) : FnV Try.prog G0 20 [.v (.string s), nI .i64 m] (.v (.string (s.extract 0 (min s.size m)))) := by
  refine fn_of_vwp Γok Try.func20 (by kernel_rfl) rfl (by simp [Try.ntmps20]) (wpv_ok Γok (by kernel_rfl) _ _ _ ?_); conv => whnf
  rw [min_int]
  refine bindP_intro (vpure_slice (vslice_str rfl (by rfl) vb_nat (by omega) (by omega))) ?_
  conv => whnf
  exact ends_at rfl rfl
theorem some_fn (f : Bool) (l : List RawD) (m : Nat) (hl : l.length ≤ maxLen) (hm : m ≤ 1000) : ∃ f', FnV Try.prog G0 27 [.ds f l.length (rawsC l), nI .i64 m] (.ds f' (l.take m).length (rawsC (l.take m))) := by
  refine ⟨f && decide (min l.length m = l.length), ?_⟩
  have e : l.take m = (l.drop 0).take (min l.length m - 0) := by
    rw [List.drop_zero, Nat.sub_zero]
    rcases Nat.le_total l.length m with h | h
    · rw [Nat.min_eq_left h, List.take_of_length_le h, List.take_length]
    · rw [Nat.min_eq_right h]
  rw [e]
  refine fn_of_vwp Γok Try.func27 (by kernel_rfl) rfl (by simp [Try.ntmps27]) (wpv_ok Γok (by kernel_rfl) _ _ _ ?_); conv => whnf
  rw [min_int]
  refine bindP_intro (vpure_slice (vslice_raws rfl rfl (by rfl) (by rfl) vb_nat (Nat.zero_le _) (by omega))) ?_
  conv => whnf
  exact ends_at rfl (rawsC_noHs _)
/-- What has come of raw things: a log, its records, how many are synced. -/
structure LG where
  f1 : Bool
  f2 : Bool
  a : List UInt8
  b : List UInt8
  w : List (List UInt8)
  n : Nat
def cutB (r : RawD) : List UInt8 := r.s.data.toList.take 40
def LG.step (q : LG) (r : RawD) : LG :=
  if r.k % 3 = 0 then ⟨false, true, q.a ++ (q.b ++ recB (cutB r)), [], q.w ++ [cutB r], q.w.length + 1⟩
  else ⟨false, false, q.a, q.b ++ recB (cutB r), q.w ++ [cutB r], q.n⟩
def lgOf (l : List RawD) : LG := l.foldl LG.step ⟨true, true, [], [], [], 0⟩
theorem lgOf_take {l : List RawD} {i : Nat} (h : i < l.length) : lgOf (l.take (i + 1)) = (lgOf (l.take i)).step l[i] := by
  unfold lgOf
  rw [List.take_add_one, List.getElem?_eq_getElem h, List.foldl_append]
  rfl
theorem lgOf_bound (l : List RawD) : ∀ i, i ≤ l.length → (lgOf (l.take i)).a.length + (lgOf (l.take i)).b.length ≤ i * 43 ∧ (lgOf (l.take i)).w.length = i ∧ (lgOf (l.take i)).n ≤ i
  | 0, _ => by simp [lgOf]
  | i + 1, h => by
    obtain ⟨h1, h2, h3⟩ := lgOf_bound l i (by omega)
    rw [lgOf_take (by omega)]
    have hc : (cutB l[i]).length ≤ 40 := by simp [cutB]; omega
    unfold LG.step
    split
    · refine ⟨?_, by simp [h2], by simp [h2]⟩
      simp [recB]; omega
    · refine ⟨?_, by simp [h2], by dsimp only; omega⟩
      simp [recB]; omega
theorem logged_fn (f : Bool) (l : List RawD) (hl : l.length ≤ maxLen) (hok : ∀ r ∈ l, r.ok) : FnV Try.prog G0 13 [.ds f l.length (rawsC l)]
    (.tup [.agg [dsB (lgOf (l.take 20)).f1 (lgOf (l.take 20)).a, dsB (lgOf (l.take 20)).f2 (lgOf (l.take 20)).b], .ds false (lgOf (l.take 20)).w.length ((lgOf (l.take 20)).w.map (dsB false)), nI .i64 (lgOf (l.take 20)).n, bI true]) := by
  obtain ⟨f', hs⟩ := some_fn f l 20 hl (by omega)
  have hm : (l.take 20).length ≤ 20 := by simp; omega
  have hok' : ∀ r ∈ l.take 20, r.ok := fun r hr => hok r (List.mem_of_mem_take hr)
  refine gen_ex (l.take 20) fun m em => ?_
  rw [← em] at hs hm hok' ⊢
  clear em
  refine fn_of_vwp Γok Try.func13 (by kernel_rfl) rfl (by simp [Try.ntmps13]) (wpv_ok Γok (by kernel_rfl) _ _ _ ?_); conv => whnf
  refine ⟨_, ret_of_fn G0ok (hs) (by first | rfl | simp only [noHs, noH, nI, bI, Bool.and_self, Bool.and_true, Bool.true_and, rawsC_noHs]) (by first | rfl | simp only [noHs, noH, nI, bI, Bool.and_self, Bool.and_true, Bool.true_and, rawsC_noHs]), ?_⟩; (conv => whnf); (try (refine ⟨by kernel_rfl, ?_⟩; conv => whnf))
  refine vloop_invK G0ok [(0, some 0), (1, some 1), (2, none)] 3 (X := Nat) (fun i => [(17, nI .i64 i), (16, nI .i64 m.length), (15, .ds f' m.length (rawsC m)), (8, nI .i64 (lgOf (m.take i)).n), (7, .sl 2 0 (lgOf (m.take i)).w.length 1), (6, .ptr 1 0), (2, .ptr 0 0)])
    (fun i => [(0, some [.ds true 0 [], .ds true 0 []]), (1, some [dsB (lgOf (m.take i)).f1 (lgOf (m.take i)).a, dsB (lgOf (m.take i)).f2 (lgOf (m.take i)).b]), (2, some ((lgOf (m.take i)).w.map (dsB false)))])
    (fun i => i ≤ m.length) (fun i => m.length - i) 0 rfl ⟨⟨_, rfl, conv_nI (rfl)⟩, ⟨_, rfl, conv_nI (rfl)⟩, ⟨_, rfl, conv_eq rfl (rawsC_noHs _)⟩, ⟨_, rfl, conv_nI (rfl)⟩, ⟨_, rfl, .null rfl⟩, ⟨_, rfl, .ptr rfl⟩, ⟨_, rfl, .ptr rfl⟩, trivial⟩ ⟨.inr ⟨_, _, rfl, rfl, .same rfl⟩, .inr ⟨_, _, rfl, rfl, .same rfl⟩, .inl ⟨rfl, rfl⟩, trivial⟩ (Nat.zero_le _) ?_
  intro i hi
  dsimp only at hi ⊢
  refine wpv_ok Γok (by kernel_rfl) _ _ _ ?_; conv => whnf
  refine bool_cases (fun hc => ?_) (fun hc => ?_)
  · have hc := of_decide_eq_true hc
    have hc : i < m.length := by omega
    obtain ⟨q1, q2, q3⟩ := lgOf_bound m i hi
    have hq := lgOf_take hc
    refine gen_ex (lgOf (m.take i)) fun q eq => ?_
    rw [← eq] at q1 q2 q3 hq ⊢
    conv => whnf
    refine bindP_intro (if_pos (inB_ok (by omega) (by omega))) ?_; conv => whnf
    refine bindP_intro (raw_load (i := i) rfl rfl rfl (by dsimp only; omega) hc) ?_
    obtain ⟨k1, k2, k3, k4⟩ := hok' m[i] (List.getElem_mem hc)
    refine gen_ex m[i] fun r er => ?_
    rw [← er] at k1 k2 k3 k4 hq ⊢
    conv => whnf
    refine ⟨_, ret_of_fn G0ok (cut_fn r.s 40 k4 (by omega)) (by first | rfl | simp only [noHs, noH, nI, bI, Bool.and_self, Bool.and_true, Bool.true_and, noH]) (by first | rfl | simp only [noHs, noH, nI, bI, Bool.and_self, Bool.and_true, Bool.true_and, noH]), ?_⟩; (conv => whnf); (try (refine ⟨by kernel_rfl, ?_⟩; conv => whnf))
    have ec : (r.s.extract 0 (min r.s.size 40)).data.toList = cutB r := by
      unfold cutB
      rw [ByteArray.data_extract, Array.toList_extract]
      simp only [List.extract, List.drop_zero, Nat.sub_zero]
      have : r.s.data.toList.length = r.s.size := rfl
      rcases Nat.le_total r.s.size 40 with h | h
      · rw [Nat.min_eq_left h, List.take_of_length_le (by omega), List.take_of_length_le (by omega)]
      · rw [Nat.min_eq_right h]
    have es : (r.s.extract 0 (min r.s.size 40)).size = (cutB r).length := by rw [← ec]; rfl
    have hcl : (cutB r).length ≤ 40 := by simp [cutB]; omega
    rw [es, ec]
    have hst : q.step r = if r.k % 3 = 0 then ⟨false, true, q.a ++ (q.b ++ recB (cutB r)), [], q.w ++ [cutB r], q.w.length + 1⟩ else ⟨false, false, q.a, q.b ++ recB (cutB r), q.w ++ [cutB r], q.n⟩ := rfl
    rw [hst] at hq
    clear hst es ec er eq
    refine gen_ex (cutB r) fun c ec => ?_
    rw [← ec] at hq hcl ⊢
    refine onlyIf_intro (by simp [] <;> omega) ?_; (conv => whnf); (try (refine ⟨by kernel_rfl, ?_⟩; conv => whnf))
    refine .read c.length (c.map byV) rfl rfl (by simp) (byV_noHs _) ?_
    conv => whnf
    refine ⟨_, ret_of_fn G0ok (append_fn q.f1 q.f2 false q.a q.b c (by omega) (by omega)) (by first | rfl | simp only [noHs, noH, nI, bI, Bool.and_self, Bool.and_true, Bool.true_and, dsB_noH]) (by first | rfl | simp only [noHs, noH, nI, bI, Bool.and_self, Bool.and_true, Bool.true_and, dsB_noH]), ?_⟩; (conv => whnf); (try (refine ⟨by kernel_rfl, ?_⟩; conv => whnf))
    refine .ownAs 1 [dsB false c] rfl rfl ?_
    conv => whnf
    refine onlyIf_intro (by simp [] <;> omega) ?_; (conv => whnf); (try (refine ⟨by kernel_rfl, ?_⟩; conv => whnf))
    refine .ownAs (q.w ++ [c]).length ((q.w ++ [c]).map (dsB false)) (by simp) (by simp) ?_
    conv => whnf
    try (refine ⟨by kernel_rfl, ?_⟩; conv => whnf)
    refine ⟨_, ret_of_fn G0ok (picked_fn r.k 3 (by omega) (by omega)) (by rfl) rfl, ?_⟩; conv => whnf
    by_cases h3 : r.k % 3 = 0
    · rw [if_pos h3] at hq
      rw [h3]
      conv => whnf
      refine ⟨_, ret_of_fn G0ok (sync_fn false false q.a (q.b ++ recB c) (by simp [recB]; omega)) (by first | rfl | simp only [noHs, noH, nI, bI, Bool.and_self, Bool.and_true, Bool.true_and, dsB_noH]) (by first | rfl | simp only [noHs, noH, nI, bI, Bool.and_self, Bool.and_true, Bool.true_and, dsB_noH]), ?_⟩; (conv => whnf); (try (refine ⟨by kernel_rfl, ?_⟩; conv => whnf))
      refine next_round (y := i) G0ok (i + 1) [(0, some 0), (1, some 1), (2, some 7)] rfl ?_ ?_ hc (by omega)
      · rw [hq]
        exact ⟨⟨_, rfl, conv_nI (ws_i64 (by omega) (by omega))⟩, ⟨_, rfl, conv_nI (rfl)⟩, ⟨_, rfl, conv_eq rfl (rawsC_noHs _)⟩, ⟨_, rfl, conv_nI (by simp)⟩, ⟨_, rfl, .sl rfl⟩, ⟨_, rfl, .ptr rfl⟩, ⟨_, rfl, .ptr rfl⟩, trivial⟩
      · rw [hq]
        exact ⟨.inr ⟨_, _, rfl, rfl, .same rfl⟩, .inr ⟨_, _, rfl, rfl, convs_eq (rfl) (by simp only [noHs, dsB_noH, Bool.and_self])⟩, .inr ⟨_, _, rfl, rfl, convs_eq rfl (dsBs_noHs _ _)⟩, trivial⟩
    · rw [if_neg h3] at hq
      rw [show (r.k % 3 == 0) = false from by simpa using h3]
      conv => whnf
      refine next_round (y := i) G0ok (i + 1) [(0, some 0), (1, some 1), (2, some 7)] rfl ?_ ?_ hc (by omega)
      · rw [hq]
        exact ⟨⟨_, rfl, conv_nI (ws_i64 (by omega) (by omega))⟩, ⟨_, rfl, conv_nI (rfl)⟩, ⟨_, rfl, conv_eq rfl (rawsC_noHs _)⟩, ⟨_, rfl, conv_nI (rfl)⟩, ⟨_, rfl, .sl rfl⟩, ⟨_, rfl, .ptr rfl⟩, ⟨_, rfl, .ptr rfl⟩, trivial⟩
      · rw [hq]
        exact ⟨.inr ⟨_, _, rfl, rfl, .same rfl⟩, .inr ⟨_, _, rfl, rfl, convs_eq (rfl) (by simp only [noHs, dsB_noH, Bool.and_self])⟩, .inr ⟨_, _, rfl, rfl, convs_eq rfl (dsBs_noHs _ _)⟩, trivial⟩
  · have hc := of_decide_eq_false hc
    have hi2 : i = m.length := by omega
    subst hi2
    rw [List.take_length]
    conv => whnf
    exact ⟨_, rfl, deep_tup (mapO_cons (deepV_noH _ (.agg [dsB (lgOf m).f1 (lgOf m).a, dsB (lgOf m).f2 (lgOf m).b]) (by simp only [noH, noHs, dsB_noH]; rfl)) (mapO_cons (deep_row rfl (by simp) (dsBs_noHs _ _)) (mapO_cons (deepV_noH _ _ rfl) (mapO_cons (deepV_noH _ _ rfl) mapO_nil))))⟩
end Go.Proofs.Ytgabjdpbkdmchaa
