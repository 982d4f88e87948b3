/- MarkOnce: a number is marked once. -/
import Derived.Test.YtgabjdpbkdmchaaPicked
namespace Go.Proofs.Ytgabjdpbkdmchaa
set_option linter.unusedVariables false
set_option linter.unusedSimpArgs false
set_option linter.unusedSectionVars false
open Go.ChangeShapes Go.WideShapes Go.ChangeAt Go.RowKit Go.Joins
set_option maxRecDepth 10000
theorem inside_fn (n : Nat) : FnV Try.prog G0 31 [nI .i64 n] (bI (decide (n < 256))) := by
  refine fn_of_vwp Γok Try.func31 (by kernel_rfl) rfl (by simp [Try.ntmps31]) (wpv_ok Γok (by kernel_rfl) _ _ _ ?_); conv => whnf
  refine ⟨_, rfl, congrArg (fun x => some (bI x)) ?_⟩
  by_cases h : n < 256
  · rw [decide_eq_true h, decide_eq_true (by omega)]
  · rw [decide_eq_false h, decide_eq_false (by omega)]
def bitL (l : List Nat) (n : Nat) : Bool := decide (l.getD (n / 64) 0 / 2 ^ (n % 64) % 2 = 1)
theorem has_fn (l : List Nat) (hl : l.length = 4) (hb : ∀ x ∈ l, x < 2 ^ 64) (n : Nat) (h : n < 256) : FnV Try.prog G0 11 [.agg (words l), nI .i64 n] (.tup [bI (bitL l n), nI .i64 0]) := by
  refine fn_of_vwp Γok Try.func11 (by kernel_rfl) rfl (by simp [Try.ntmps11]) (wpv_ok Γok (by kernel_rfl) _ _ _ ?_); conv => whnf
  refine ⟨_, ret_of_fn G0ok (inside_fn n) (by rfl) rfl, ?_⟩; conv => whnf
  rw [decide_eq_true h]
  conv => whnf
  rw [Int.tdiv_eq_ediv_of_nonneg (by omega), ws_i64 (by omega) (by omega)]
  conv => whnf
  refine bindP_intro (if_pos (inB_ok (by omega) (by omega))) ?_; conv => whnf
  refine bindP_intro (words_ix (i := n / 64) (by dsimp only; omega) (by omega)) ?_
  conv => whnf
  have hx := getD_lt (by omega) hb (n / 64)
  have hx2 : l.getD (n / 64) 0 / 2 ^ (n % 64) < 2 ^ 64 := Nat.lt_of_le_of_lt (Nat.div_le_self _ _) hx
  rw [Int.tmod_eq_emod_of_nonneg (by omega), show (n : Int) % 64 = ((n % 64 : Nat) : Int) from by omega]
  conv => whnf
  rw [shr_val (k := .u64) (x := l.getD (n / 64) 0) (n := n % 64) (by simp only [IntKind.bits]; omega), u64_and1 hx2]
  refine ⟨_, rfl, congrArg (fun x => some (VV.tup [bI x, nI .i64 0])) ?_⟩
  exact beq_lit _ 1
theorem has_far (l : List Nat) (n : Nat) (h : ¬ n < 256) : FnV Try.prog G0 11 [.agg (words l), nI .i64 n] (.tup [bI false, nI .i64 6]) := by
  refine fn_of_vwp Γok Try.func11 (by kernel_rfl) rfl (by simp [Try.ntmps11]) (wpv_ok Γok (by kernel_rfl) _ _ _ ?_); conv => whnf
  refine ⟨_, ret_of_fn G0ok (inside_fn n) (by rfl) rfl, ?_⟩; conv => whnf
  rw [decide_eq_false h]
  conv => whnf
  exact ⟨_, rfl, rfl⟩
def setL (l : List Nat) (n : Nat) : List Nat := l.set (n / 64) (l.getD (n / 64) 0 ||| 2 ^ (n % 64))
theorem mark_far (l : List Nat) (hl : l.length = 4) (n : Nat) (h : ¬ n < 256) : FnV Try.prog G0 12 [.agg (words l), nI .i64 n] (.tup [.agg (words [0, 0, 0, 0]), nI .i64 6]) := by
  refine fn_of_vwp Γok Try.func12 (by kernel_rfl) rfl (by simp [Try.ntmps12]) (wpv_ok Γok (by kernel_rfl) _ _ _ ?_); conv => whnf
  refine bindP_intro (load_agg rfl rfl (by simpa [words_length] using hl)) ?_
  conv => whnf
  refine ⟨_, ret_of_fn G0ok (has_far l n h) (by simp [noHs, noH, words_noHs, nI]) rfl, ?_⟩
  conv => whnf
  exact ⟨_, rfl, rfl⟩
theorem mark_twice (l : List Nat) (hl : l.length = 4) (hb : ∀ x ∈ l, x < 2 ^ 64) (n : Nat) (h : n < 256) (ht : bitL l n = true) : FnV Try.prog G0 12 [.agg (words l), nI .i64 n] (.tup [.agg (words [0, 0, 0, 0]), nI .i64 8]) := by
  refine fn_of_vwp Γok Try.func12 (by kernel_rfl) rfl (by simp [Try.ntmps12]) (wpv_ok Γok (by kernel_rfl) _ _ _ ?_); conv => whnf
  refine bindP_intro (load_agg rfl rfl (by simpa [words_length] using hl)) ?_
  conv => whnf
  refine ⟨_, ret_of_fn G0ok (has_fn l hl hb n h) (by simp [noHs, noH, words_noHs, nI]) rfl, ?_⟩
  rw [ht]
  conv => whnf
  exact ⟨_, rfl, rfl⟩
theorem mark_new (l : List Nat) (hl : l.length = 4) (hb : ∀ x ∈ l, x < 2 ^ 64) (n : Nat) (h : n < 256) (ht : bitL l n = false) : FnV Try.prog G0 12 [.agg (words l), nI .i64 n] (.tup [.agg (words (setL l n)), nI .i64 0]) := by
  refine fn_of_vwp Γok Try.func12 (by kernel_rfl) rfl (by simp [Try.ntmps12]) (wpv_ok Γok (by kernel_rfl) _ _ _ ?_); conv => whnf
  refine bindP_intro (load_agg rfl rfl (by simpa [words_length] using hl)) ?_
  conv => whnf
  refine ⟨_, ret_of_fn G0ok (has_fn l hl hb n h) (by simp [noHs, noH, words_noHs, nI]) rfl, ?_⟩
  rw [ht]
  conv => whnf
  rw [Int.tdiv_eq_ediv_of_nonneg (by omega), ws_i64 (by omega) (by omega)]
  conv => whnf
  refine bindP_intro (if_pos (inB_ok (by omega) (by omega))) ?_; conv => whnf
  refine bindP_intro (words_ix (i := n / 64) (by dsimp only; omega) (by omega)) ?_
  conv => whnf
  have hx := getD_lt (by omega) hb (n / 64)
  rw [Int.tmod_eq_emod_of_nonneg (by omega), show (n : Int) % 64 = ((n % 64 : Nat) : Int) from by omega]
  conv => whnf
  rw [shl1_u64 (n := n % 64) (by omega), u64_or hx (Nat.pow_lt_pow_right (by omega) (by omega))]
  conv => whnf
  refine bindP_intro (if_pos (inB_ok (by omega) (by omega))) ?_; conv => whnf
  refine onlyIf_intro ?_ ?_
  · simp [words_length, hl]
    omega
  conv => whnf
  refine ⟨by kernel_rfl, ?_⟩
  rw [splice_words (i := n / 64) (by dsimp only; omega) (by omega)]
  conv => whnf
  refine bindP_intro (load_agg rfl rfl (by simpa [words_length] using hl)) ?_
  conv => whnf
  refine onlyIf_intro ?_ ?_
  · simp [words_length, hl]
  rw [splice_all (by simp [words_length, hl])]
  conv => whnf
  refine ⟨_, vres_two rfl (vres_cell rfl rfl (load_agg rfl rfl (by simp [words_length, hl]))) rfl, ?_⟩
  exact deepV_noH _ _ (by simp [noHs, noH, words_noHs])
theorem bitL_set (l : List Nat) (hl : l.length = 4) (n m : Nat) (hn : n < 256) (hm : m < 256) : bitL (setL l n) m = (bitL l m || decide (n = m)) := by
  unfold bitL setL
  have e : ∀ x k : Nat, decide (x / 2 ^ k % 2 = 1) = x.testBit k := fun x k => by rw [Nat.testBit_eq_decide_div_mod_eq]
  simp only [e]
  by_cases h : n / 64 = m / 64
  · have h1 : (l.set (n / 64) (l.getD (n / 64) 0 ||| 2 ^ (n % 64))).getD (m / 64) 0 = l.getD (m / 64) 0 ||| 2 ^ (n % 64) := by
      rw [h]
      simp [List.getD, List.getElem?_set, show m / 64 < l.length by omega]
    rw [h1, Nat.testBit_or, Nat.testBit_two_pow]
    congr 1
    exact decide_eq_decide.2 (by omega)
  · have h1 : (l.set (n / 64) (l.getD (n / 64) 0 ||| 2 ^ (n % 64))).getD (m / 64) 0 = l.getD (m / 64) 0 := by
      simp [List.getD, List.getElem?_set, h]
    rw [h1, decide_eq_false (show ¬ n = m by omega), Bool.or_false]
theorem setL_length (l : List Nat) (n : Nat) : (setL l n).length = l.length := by simp [setL]
theorem setL_lt {l : List Nat} (hb : ∀ x ∈ l, x < 2 ^ 64) (n : Nat) : ∀ x ∈ setL l n, x < 2 ^ 64 := by
  intro x hx
  rcases List.mem_or_eq_of_mem_set hx with h | h
  · exact hb x h
  · subst h; exact Nat.or_lt_two_pow (getD_lt (by omega) hb _) (Nat.pow_lt_pow_right (by omega) (by omega))
theorem fnMarkOnce (l : List Nat) (n m : Int) (hl : l.length = 4) (hb : ∀ x ∈ l, x < 2 ^ 64) (_ : I64 n) (_ : I64 m) : FnV Try.prog G0 3 [.agg (words l), nI .i64 n, nI .i64 m] (bI true) := by
  refine fn_of_vwp Γok Try.func3 (by kernel_rfl) rfl (by simp [Try.ntmps3]) (wpv_ok Γok (by kernel_rfl) _ _ _ ?_); conv => whnf
  refine ⟨_, ret_of_fn G0ok (picked_fn n 256 (by omega) (by omega)) (by rfl) rfl, ?_⟩; conv => whnf
  refine ⟨_, ret_of_fn G0ok (picked_fn m 256 (by omega) (by omega)) (by rfl) rfl, ?_⟩; conv => whnf
  obtain ⟨i, hi⟩ : ∃ x : Nat, n % 256 = x := ⟨(n % 256).toNat, by omega⟩
  obtain ⟨j, hj⟩ : ∃ x : Nat, m % 256 = x := ⟨(m % 256).toNat, by omega⟩
  have hi2 : i < 256 := by omega
  have hj2 : j < 256 := by omega
  rw [hi, hj]
  refine bindP_intro (load_agg rfl rfl (by simp [words_length, *])) ?_; conv => whnf
  refine ⟨_, ret_of_fn G0ok (has_fn l hl hb i hi2) (by simp [noHs, noH, words_noHs, nI, bI]) (by simp [noHs, noH, words_noHs, nI, bI]), ?_⟩; conv => whnf
  refine bindP_intro (load_agg rfl rfl (by simp [words_length, *])) ?_; conv => whnf
  refine ⟨_, ret_of_fn G0ok (has_fn l hl hb j hj2) (by simp [noHs, noH, words_noHs, nI, bI]) (by simp [noHs, noH, words_noHs, nI, bI]), ?_⟩; conv => whnf
  refine bindP_intro (load_agg rfl rfl (by simp [words_length, *])) ?_; conv => whnf
  have hs := (setL_length l i).trans hl
  have hsb := setL_lt hb i
  cases hm : bitL l i
  · refine ⟨_, ret_of_fn G0ok (mark_new l hl hb i hi2 hm) (by simp [noHs, noH, words_noHs, nI, bI]) (by simp [noHs, noH, words_noHs, nI, bI]), ?_⟩; conv => whnf
    refine onlyIf_intro (by simp [words_length, *, hs]) ?_; rw [splice_all (by simp [words_length, *, hs])]; conv => whnf
    rw [ws_i64 (x := 256 + (i : Int)) (by omega) (by omega), show (256 : Int) + i = ((256 + i : Nat) : Int) from by omega]
    refine ⟨_, ret_of_fn G0ok (mark_far [0, 0, 0, 0] rfl (256 + i) (by omega)) (by simp [noHs, noH, words_noHs, nI, bI]) (by simp [noHs, noH, words_noHs, nI, bI]), ?_⟩; conv => whnf
    refine bindP_intro (load_agg rfl rfl (by simp [words_length, *])) ?_; conv => whnf
    have b1 := bitL_set l hl i i hi2 hi2
    have b2 := bitL_set l hl i j hi2 hj2
    rw [decide_eq_true rfl, Bool.or_true] at b1
    refine ⟨_, ret_of_fn G0ok (has_fn (setL l i) hs hsb i hi2) (by simp [noHs, noH, words_noHs, nI, bI]) (by simp [noHs, noH, words_noHs, nI, bI]), ?_⟩; conv => whnf
    refine bindP_intro (load_agg rfl rfl (by simp [words_length, *])) ?_; conv => whnf
    refine ⟨_, ret_of_fn G0ok (has_fn (setL l i) hs hsb j hj2) (by simp [noHs, noH, words_noHs, nI, bI]) (by simp [noHs, noH, words_noHs, nI, bI]), ?_⟩; conv => whnf
    refine bindP_intro (load_agg rfl rfl (by simp [words_length, *])) ?_; conv => whnf
    refine ⟨_, ret_of_fn G0ok (mark_twice (setL l i) hs hsb i hi2 b1) (by simp [noHs, noH, words_noHs, nI, bI]) (by simp [noHs, noH, words_noHs, nI, bI]), ?_⟩; conv => whnf
    rw [b1]
    conv => whnf
    rw [b2]
    cases hj : bitL l j
    · conv => whnf
      rw [beq_lit i j]
      cases decide (i = j)
      · exact ⟨_, rfl, rfl⟩
      · exact ⟨_, rfl, rfl⟩
    · conv => whnf
      exact ⟨_, rfl, rfl⟩
  · refine ⟨_, ret_of_fn G0ok (mark_twice l hl hb i hi2 hm) (by simp [noHs, noH, words_noHs, nI, bI]) (by simp [noHs, noH, words_noHs, nI, bI]), ?_⟩; conv => whnf
    rw [ws_i64 (x := 256 + (i : Int)) (by omega) (by omega), show (256 : Int) + i = ((256 + i : Nat) : Int) from by omega]
    refine ⟨_, ret_of_fn G0ok (mark_far [0, 0, 0, 0] rfl (256 + i) (by omega)) (by simp [noHs, noH, words_noHs, nI, bI]) (by simp [noHs, noH, words_noHs, nI, bI]), ?_⟩; conv => whnf
    exact ⟨_, rfl, rfl⟩
namespace lawMarkOnce
set_option linter.unusedVariables false
set_option maxRecDepth 100000 in
theorem lifted (os : Os) (started : os.Started) (H : Type) (enc : TypeId × Value → H) :
    ReturnsInHanded {} Try.checked os 3 .any (Rows.markOnceSpec.pre6 enc Try.prog Try.f3 Rows.markOnceRow.domain false) (Rows.markOnceSpec.post enc Try.prog Try.f3 false true false false) := by
  refine returnsInHanded_of_change (C := Try.checked) rowOwn started (by kernel_rfl) Try.func3
    (ChangeSpec.witness6 (enc := enc) (C := Try.checked) false ⟨#[], #[.agg #[.int .u64 0, .int .u64 0, .int .u64 0, .int .u64 0], .int .i64 0, .int .i64 0], []⟩ 8 (by kernel_rfl) (by kernel_rfl) (by kernel_rfl) (by kernel_rfl)) ?_
  intro W base args ds gs before hval0 hW hcnd _
  have hval : ∀ (j : Nat) t v, Try.f3.params[j]? = some t → args[j]? = some v → Value.okWide Try.prog W .any base t v := hval0
  have hW' := hW
  obtain ⟨p, q, hA0, hV, rfl, hfz, hnd⟩ := hW
  have hA : DataW.TrodAll enc Try.prog W 0 (fun _ => true) true Try.f3.params.toList args.toList ds p := hA0
  rw [Try.params3] at hA hval
  obtain ⟨v0, vs0, d0, ds0, p0, q0, hargs, rfl, rfl, h0, r0⟩ := trodAll_cons hA
  obtain ⟨v1, vs1, d1, ds1, p1, q1, rfl, rfl, rfl, h1, r1⟩ := trodAll_cons r0
  obtain ⟨v2, vs2, d2, ds2, p2, q2, rfl, rfl, rfl, h2, r2⟩ := trodAll_cons r1
  obtain ⟨rfl, rfl, rfl⟩ := trodAll_nil r2
  obtain rfl : args = #[v0, v1, v2] := by cases args; simp_all
  obtain ⟨rfl, rfl⟩ := trodVars_none hV
  have k0 := h0
  have lt0 : ∀ x ∈ p0, x.block < W.heap.size := by obtain ⟨m, hm⟩ := k0; exact DataW.trod_lt m _ _ _ hm
  obtain ⟨a0, l0, w0, u0⟩ := words_open Try.underlying23 Try.underlying22 (by kernel_rfl) (by kernel_rfl) (hval 0 23 v0 rfl rfl) h0
  obtain ⟨a1, rfl, rfl, rfl, w1⟩ := open_int Try.underlying3 (hval 1 3 v1 rfl rfl) h1
  obtain ⟨a2, rfl, rfl, rfl, w2⟩ := open_int Try.underlying3 (hval 2 3 v2 rfl rfl) h2
  clear hA0 hval0
  refine (calls_of_fn Try.func3 (by kernel_rfl) rfl (fnMarkOnce a0 a1 a2 l0 w0 (bounds_i64 w1) (bounds_i64 w2)) (fun _ _ h => by cases h) (VRs.cons (u0 _) (VRs.cons rfl (VRs.cons rfl VRs.snoc_nil)))).mono fun e W' ⟨he, bel⟩ => ?_
  subst he
  exact ⟨_, rfl, _, _, _, [], _, [], hW', trodAll_mk1 (shut_bool Try.underlying4 _), (trodAll_cons_mk (Below.trod rowLaid (by kernel_rfl) (of_decide_eq_true (by kernel_rfl)) k0 bel lt0) (trodAll_cons_mk (shut_int Try.underlying3 w1) (trodAll_cons_mk (shut_int Try.underlying3 w2) trodAll_mk0))), rfl, bel.frame _, fun h => by cases h⟩
theorem over : Rows.markOnceRow.holds Try.pinned (OpenSpec.ofChange Rows.markOnceSpec) :=
  OpenClaim.holds_of_wide 3 Try.f3 rfl rfl rfl rfl rfl rfl rfl ⟨rfl, rfl, rfl, rfl, rfl⟩ rfl rfl rfl rfl rfl (by kernel_rfl) Try.func3 (by kernel_rfl)
    (of_decide_eq_true (by kernel_rfl)) (by unfold Func.isWrapper; first | (rw [if_pos (by decide +kernel)]; kernel_rfl) | (rw [if_neg (by decide +kernel)]; exact ⟨rfl, rfl⟩))
    (fun os started H enc _ => lifted os started H enc)
theorem proved : Rows.MarkOnceSaid := over
end lawMarkOnce

end Go.Proofs.Ytgabjdpbkdmchaa
