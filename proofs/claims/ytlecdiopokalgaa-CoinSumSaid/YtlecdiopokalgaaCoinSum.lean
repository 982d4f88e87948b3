/- CoinSum: whatever is done, all have together as much as there is. -/
import Derived.Test.YtlecdiopokalgaaBUe
import Derived.Test.YtlecdiopokalgaaBUc
namespace Go.Proofs.Ytlecdiopokalgaa
set_option linter.unusedVariables false
set_option linter.unusedSimpArgs false
set_option linter.unusedSectionVars false
open Go.ChangeShapes Go.WideShapes Go.ChangeAt Go.RowKit Go.Joins
set_option maxRecDepth 10000
def sixTo (M : List HoD) : Nat → Nat
  | 0 => 0
  | i + 1 => sixTo M i + ofM M (whoB i)
theorem sixTo_le (M : List HoD) : ∀ i, i ≤ 6 → sixTo M i ≤ sixTo M 6 := fun i hi => by
  have : i = 0 ∨ i = 1 ∨ i = 2 ∨ i = 3 ∨ i = 4 ∨ i = 5 ∨ i = 6 := by omega
  rcases this with rfl | rfl | rfl | rfl | rfl | rfl | rfl <;> simp only [sixTo] <;> omega
theorem sixTo_6 (M : List HoD) : sixTo M 6 = six M := by
  unfold six
  simp only [sixTo]
  omega
theorem fnCoinSum (l : List RawD) (hl : l.length ≤ maxLen) (hok : ∀ r ∈ l, r.ok) : FnV Try.prog G0 9 [.ds false l.length (rawsC l)] (bI true) := by
  obtain ⟨f, mi⟩ := minted_fn hl hok _ rfl
  have h20 : (l.take 20).length ≤ 20 := by rw [List.length_take]; omega
  have ok := minF_ok (l.take 20) _ (Nat.le_refl _)
  refine gen_ex (l.take 20).length fun j ej => ?_
  rw [← ej] at h20 ok mi
  refine gen_ex (minF (l.take 20) j) fun M eM => ?_
  rw [← eM] at ok mi
  have nR : noHs (rawsC l) = true := rawsC_noHs _
  have nc := coinC_noHs
  have okS := ok.sum
  have okL := ok.len
  have ok6 := ok.six
  have T0 : (10000 : Nat) < T256 := by decide
  have ck := ccheck_fn (f := f) ok.hol (by omega) (by omega)
  refine fn_of_vwp Γok Try.func9 (by kernel_rfl) rfl (by simp [Try.ntmps9]) (wpv_ok Γok (by kernel_rfl) _ _ _ ?_); conv => whnf
  refine ⟨_, ret_of_fn G0ok (mi) (by first | rfl | simp only [noHs, noH, nI, bI, Bool.and_self, Bool.and_true, Bool.true_and, nR, nc]) (by first | rfl | simp only [noHs, noH, nI, bI, Bool.and_self, Bool.and_true, Bool.true_and, nR, nc]), ?_⟩; (conv => whnf); (try (refine ⟨by kernel_rfl, ?_⟩; conv => whnf))
  refine vloop_invK G0ok [(0, some 0), (1, some 1)] 2 (X := Nat) (fun i => [(16, nI .i64 i), (5, .ptr 1 0), (4, bI true), (3, .ptr 0 0), (2, bI false)]) (fun i => [(0, some (coinC f M (sumM M))), (1, some (uC (sixTo M i)))]) (fun i => i ≤ 6) (fun i => 6 - i) 0 rfl
    ⟨⟨_, rfl, conv_nI (rfl)⟩, ⟨_, rfl, .ptr rfl⟩, ⟨_, rfl, .same rfl⟩, ⟨_, rfl, .ptr rfl⟩, ⟨_, rfl, .same rfl⟩, trivial⟩ ⟨.inr ⟨_, _, rfl, rfl, .same (nc _ _ _)⟩, .inr ⟨_, _, rfl, rfl, convs_eq ((uC_lit (n := 0) (by decide)).symm) (rfl)⟩, trivial⟩ (by decide) ?_
  intro i hi
  try dsimp only at hi ⊢
  refine wpv_ok Γok (by kernel_rfl) _ _ _ ?_; conv => whnf
  have le6 := sixTo_le M
  have e6 := sixTo_6 M
  refine bool_cases (fun hc => ?_) (fun hc => ?_)
  · have hc := of_decide_eq_true hc
    have hc : i < 6 := by omega
    have wf := who_fn (i : Int)
    rw [show whoR (i : Int) = i from by unfold whoR; omega] at wf
    have oc := cOf_fn (f := f) ok.hol (by omega) (by omega) (whoB_ok hc)
    have lt := le6 (i + 1) (by omega)
    have st : sixTo M (i + 1) = sixTo M i + ofM M (whoB i) := rfl
    have ad := add_fn (a := sixTo M i) (b := ofM M (whoB i)) (by omega) (by omega)
    rw [addS_def, addO_def, ← st, Nat.mod_eq_of_lt (show sixTo M (i + 1) < T256 by omega), decide_eq_false (show ¬ T256 ≤ sixTo M (i + 1) by omega)] at ad
    conv => whnf
    try (refine ⟨by kernel_rfl, ?_⟩; conv => whnf)
    refine ⟨_, ret_of_fn G0ok (wf) (by first | rfl | simp only [noHs, noH, nI, bI, Bool.and_self, Bool.and_true, Bool.true_and, bts_noHs]) (by first | rfl | simp only [noHs, noH, nI, bI, Bool.and_self, Bool.and_true, Bool.true_and, bts_noHs]), ?_⟩; (conv => whnf); (try (refine ⟨by kernel_rfl, ?_⟩; conv => whnf))
    refine ⟨_, ret_of_fn G0ok (oc) (by first | rfl | simp only [noHs, noH, nI, bI, Bool.and_self, Bool.and_true, Bool.true_and, nc, bts_noHs]) (by first | rfl | simp only [noHs, noH, nI, bI, Bool.and_self, Bool.and_true, Bool.true_and, nc, bts_noHs]), ?_⟩; (conv => whnf); (try (refine ⟨by kernel_rfl, ?_⟩; conv => whnf))
    refine ⟨_, ret_of_fn G0ok (ad) (by first | rfl | simp only [noHs, noH, nI, bI, Bool.and_self, Bool.and_true, Bool.true_and, ]) (by first | rfl | simp only [noHs, noH, nI, bI, Bool.and_self, Bool.and_true, Bool.true_and, ]), ?_⟩; (conv => whnf); (try (refine ⟨by kernel_rfl, ?_⟩; conv => whnf))
    refine next_round (y := i) G0ok (i + 1) [(0, some 0), (1, some 1)] rfl ⟨⟨_, rfl, conv_nI (ws_i64 (by omega) (by omega))⟩, ⟨_, rfl, .ptr rfl⟩, ⟨_, rfl, .same rfl⟩, ⟨_, rfl, .ptr rfl⟩, ⟨_, rfl, .same rfl⟩, trivial⟩ ⟨.inr ⟨_, _, rfl, rfl, .same (nc _ _ _)⟩, .inr ⟨_, _, rfl, rfl, .same rfl⟩, trivial⟩ (by omega) (by omega)
  · have hc := of_decide_eq_false hc
    have e : i = 6 := by omega
    subst e
    rw [e6, ok6]
    conv => whnf
    try (refine ⟨by kernel_rfl, ?_⟩; conv => whnf)
    refine ⟨_, ret_of_fn G0ok (coinTells_fn) (by first | rfl | simp only [noHs, noH, nI, bI, Bool.and_self, Bool.and_true, Bool.true_and, ]) (by first | rfl | simp only [noHs, noH, nI, bI, Bool.and_self, Bool.and_true, Bool.true_and, ]), ?_⟩; (conv => whnf); (try (refine ⟨by kernel_rfl, ?_⟩; conv => whnf))
    refine ⟨_, ret_of_fn G0ok (ck) (by first | rfl | simp only [noHs, noH, nI, bI, Bool.and_self, Bool.and_true, Bool.true_and, nc]) (by first | rfl | simp only [noHs, noH, nI, bI, Bool.and_self, Bool.and_true, Bool.true_and, nc]), ?_⟩; (conv => whnf); (try (refine ⟨by kernel_rfl, ?_⟩; conv => whnf))
    refine ⟨_, eq_uC (a := sumM M) (b := sumM M) (by omega) (by omega), ?_⟩
    rw [decide_eq_true (rfl : sumM M = sumM M)]
    conv => whnf
    try (refine ⟨by kernel_rfl, ?_⟩; conv => whnf)
    exact ⟨_, rfl, rfl⟩
namespace lawCoinSum
set_option linter.unusedVariables false
set_option maxRecDepth 100000 in
theorem lifted (os : Os) (started : os.Started) (H : Type) (enc : TypeId × Value → H) :
    ReturnsInHanded {} Try.checked os 9 .any (Rows.coinSumSpec.pre6 enc Try.prog Try.f9 Rows.coinSumRow.domain false) (Rows.coinSumSpec.post enc Try.prog Try.f9 false true false false) := by
  refine returnsInHanded_of_change (C := Try.checked) rowOwn started (by kernel_rfl) Try.func9
    (ChangeSpec.witness6 (enc := enc) (C := Try.checked) false ⟨#[], #[.slice none 0 0], []⟩ 8 (by kernel_rfl) (by kernel_rfl) (by kernel_rfl) (by kernel_rfl)) ?_
  intro W base args ds gs before hval0 hW hcnd _
  have hval : ∀ (j : Nat) t v, Try.f9.params[j]? = some t → args[j]? = some v → Value.okWide Try.prog W .any base t v := hval0
  have hW' := hW
  obtain ⟨p, q, hA0, hV, rfl, hfz, hnd⟩ := hW
  have hA : DataW.TrodAll enc Try.prog W 0 (fun _ => true) true Try.f9.params.toList args.toList ds p := hA0
  rw [Try.params9] at hA hval
  obtain ⟨v0, vs0, d0, ds0, p0, q0, hargs, rfl, rfl, h0, r0⟩ := trodAll_cons hA
  obtain ⟨rfl, rfl, rfl⟩ := trodAll_nil r0
  obtain rfl : args = #[v0] := by cases args; simp_all
  obtain ⟨rfl, rfl⟩ := trodVars_none hV
  have k0 := h0
  have lt0 : ∀ x ∈ p0, x.block < W.heap.size := by obtain ⟨m, hm⟩ := k0; exact DataW.trod_lt m _ _ _ hm
  obtain ⟨a0, l0, w0, u0⟩ := raws_open (hval 0 22 v0 rfl rfl) h0
  clear hA0 hval0
  refine (calls_of_fn Try.func9 (by kernel_rfl) rfl (fnCoinSum a0 l0 w0) (fun _ _ h => by cases h) (VRs.cons u0 VRs.snoc_nil)).mono fun e W' ⟨he, bel⟩ => ?_
  subst he
  exact ⟨_, rfl, _, _, _, [], _, [], hW', trodAll_mk1 (shut_bool Try.underlying4 _), (trodAll_cons_mk (Below.trod rowLaid (by kernel_rfl) (of_decide_eq_true (by kernel_rfl)) k0 bel lt0) trodAll_mk0), rfl, bel.frame _, fun h => by cases h⟩
theorem over : Rows.coinSumRow.holds Try.pinned (OpenSpec.ofChange Rows.coinSumSpec) :=
  OpenClaim.holds_of_wide 9 Try.f9 rfl rfl rfl rfl rfl rfl rfl ⟨rfl, rfl, rfl, rfl, rfl⟩ rfl rfl rfl rfl rfl (by kernel_rfl) Try.func9 (by kernel_rfl)
    (of_decide_eq_true (by kernel_rfl)) (by unfold Func.isWrapper; first | (rw [if_pos (by decide +kernel)]; kernel_rfl) | (rw [if_neg (by decide +kernel)]; exact ⟨rfl, rfl⟩))
    (fun os started H enc _ => lifted os started H enc)
theorem proved : Rows.CoinSumSaid := over
end lawCoinSum

end Go.Proofs.Ytlecdiopokalgaa
