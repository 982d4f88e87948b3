/- CoinBack: what is made and burnt again leaves all as it was. -/
import Derived.Test.YtlecdiopokalgaaBUe
import Derived.Test.YtlecdiopokalgaaBUc
import Derived.Test.YtlecdiopokalgaaVEqH
namespace Go.Proofs.Ytlecdiopokalgaa
set_option linter.unusedVariables false
set_option linter.unusedSimpArgs false
set_option linter.unusedSectionVars false
open Go.ChangeShapes Go.WideShapes Go.ChangeAt Go.RowKit Go.Joins
set_option maxRecDepth 10000
theorem amt_le {M : List HoD} {h : HoD} (hm : h ∈ M) : h.amt ≤ sumM M := by
  induction M with
  | nil => cases hm
  | cons x t ih =>
    show h.amt ≤ x.amt + sumM t
    rcases List.mem_cons.1 hm with e | e
    · subst e; omega
    · have := ih e; omega
theorem fnCoinBack (l : List RawD) (who : Int) (x : RawD) (hl : l.length ≤ maxLen) (hok : ∀ r ∈ l, r.ok) (_ : I64 who) (hx : x.ok) : FnV Try.prog G0 10 [.ds false l.length (rawsC l), nI .i64 who, x.v] (bI true) := by
  obtain ⟨f, mi⟩ := minted_fn hl hok _ rfl
  have h20 : (l.take 20).length ≤ 20 := by rw [List.length_take]; omega
  have ok := minF_ok (l.take 20) _ (Nat.le_refl _)
  refine gen_ex (l.take 20).length fun j ej => ?_
  rw [← ej] at h20 ok mi
  refine gen_ex (minF (l.take 20) j) fun M eM => ?_
  rw [← eM] at ok mi
  have nR : noHs (rawsC l) = true := rawsC_noHs _
  have nc := coinC_noHs
  have okS := ok.sum
  have okL := ok.len
  have T0 : (10000 : Nat) < T256 := by decide
  have wf := who_fn who
  have hw := whoB_ok (whoR_lt who)
  refine gen_ex (whoB (whoR who)) fun w ew => ?_
  rw [← ew] at wf hw
  have n1 := number_fn x
  have hn := rawN_lt x
  refine gen_ex (rawN x) fun n en => ?_
  rw [← en] at n1 hn
  clear en
  by_cases ov : sumM M + n < T256
  · have mf := mint_fn (f := f) (w := w) (n := n) ok.hol (by omega) ov hw
    have ad := add_fn (a := sumM M) (b := n) (by omega) hn
    rw [addS_def, addO_def, decide_eq_false (show ¬ T256 ≤ sumM M + n by omega)] at ad
    have hol2 : HolOk (mintS M w n) := with_ok ok.hol hw
    have len2 := with_len M w (ofM M w + n)
    have sum2 := mint_sum (n := n) ok.hol hw
    have of2 : ofM (mintS M w n) w = ofM M w + n := by unfold mintS; rw [of_with M w w _ ok.hol hw, if_pos rfl]
    have bf := burn_fn (f := false) (M := mintS M w n) (w := w) (n := n) hol2 (by unfold mintS; omega) (by omega) hw (by omega)
    have eb : burnS (mintS M w n) w n = M := by
      show withM (mintS M w n) w (ofM (mintS M w n) w - n) = M
      rw [of2, Nat.add_sub_cancel]
      exact with_back ok.hol hw
    rw [eb] at bf
    refine gen_ex (mintS M w n) fun N eN => ?_
    rw [← eN] at mf bf
    have eqs := eq_uC (a := sumM M) (b := sumM M) (by omega) (by omega)
    rw [decide_eq_true rfl] at eqs
    have hold : ∀ h ∈ M, EqAgg Try.prog .neq 96 h.cells h.cells false := fun h hm => hold_self (ok.hol.who h hm) (by have := amt_le hm; omega)
    have nM : noHs (rows HoD.cells M) = true := rows_noHs hoD_noHs M
    unfold RawD.v RawD.cells at *
    unfold coinC uV at *
    refine fn_of_vwp Γok Try.func10 (by kernel_rfl) rfl (by simp [Try.ntmps10]) (wpv_ok Γok (by kernel_rfl) _ _ _ ?_); conv => whnf
    refine ⟨_, ret_of_fn G0ok (mi) (by first | rfl | simp only [noHs, noH, nI, bI, Bool.and_self, Bool.and_true, Bool.true_and, nR, nM]) (by first | rfl | simp only [noHs, noH, nI, bI, Bool.and_self, Bool.and_true, Bool.true_and, nR, nM]), ?_⟩; (conv => whnf); (try (refine ⟨by kernel_rfl, ?_⟩; conv => whnf))
    refine ⟨_, ret_of_fn G0ok (n1) (by first | rfl | simp only [noHs, noH, nI, bI, Bool.and_self, Bool.and_true, Bool.true_and, words_noHs]) (by first | rfl | simp only [noHs, noH, nI, bI, Bool.and_self, Bool.and_true, Bool.true_and, words_noHs]), ?_⟩; (conv => whnf); (try (refine ⟨by kernel_rfl, ?_⟩; conv => whnf))
    refine ⟨_, ret_of_fn G0ok (wf) (by first | rfl | simp only [noHs, noH, nI, bI, Bool.and_self, Bool.and_true, Bool.true_and, bts_noHs]) (by first | rfl | simp only [noHs, noH, nI, bI, Bool.and_self, Bool.and_true, Bool.true_and, bts_noHs]), ?_⟩; (conv => whnf); (try (refine ⟨by kernel_rfl, ?_⟩; conv => whnf))
    have nN : noHs (rows HoD.cells N) = true := rows_noHs hoD_noHs N
    refine ⟨_, ret_of_fn G0ok (mf) (by first | rfl | simp only [noHs, noH, nI, bI, Bool.and_self, Bool.and_true, Bool.true_and, nM, nN, bts_noHs, words_noHs]) (by first | rfl | simp only [noHs, noH, nI, bI, Bool.and_self, Bool.and_true, Bool.true_and, nM, nN, bts_noHs, words_noHs]), ?_⟩; (conv => whnf); (try (refine ⟨by kernel_rfl, ?_⟩; conv => whnf))
    refine ⟨_, ret_of_fn G0ok (ad) (by first | rfl | simp only [noHs, noH, nI, bI, Bool.and_self, Bool.and_true, Bool.true_and, ]) (by first | rfl | simp only [noHs, noH, nI, bI, Bool.and_self, Bool.and_true, Bool.true_and, ]), ?_⟩; (conv => whnf); (try (refine ⟨by kernel_rfl, ?_⟩; conv => whnf))
    refine ⟨_, ret_of_fn G0ok (wf) (by first | rfl | simp only [noHs, noH, nI, bI, Bool.and_self, Bool.and_true, Bool.true_and, bts_noHs]) (by first | rfl | simp only [noHs, noH, nI, bI, Bool.and_self, Bool.and_true, Bool.true_and, bts_noHs]), ?_⟩; (conv => whnf); (try (refine ⟨by kernel_rfl, ?_⟩; conv => whnf))
    refine ⟨_, ret_of_fn G0ok (bf) (by first | rfl | simp only [noHs, noH, nI, bI, Bool.and_self, Bool.and_true, Bool.true_and, nM, nN, bts_noHs, words_noHs]) (by first | rfl | simp only [noHs, noH, nI, bI, Bool.and_self, Bool.and_true, Bool.true_and, nM, nN, bts_noHs, words_noHs]), ?_⟩; (conv => whnf); (try (refine ⟨by kernel_rfl, ?_⟩; conv => whnf))
    rw [show (((M.length : Nat) : Int) != ((M.length : Nat) : Int)) = false from bne_self_eq_false _]
    conv => whnf
    try (refine ⟨by kernel_rfl, ?_⟩; conv => whnf)
    have nCf : noHs [nI .u64 (lim (sumM M) 0), nI .u64 (lim (sumM M) 1), nI .u64 (lim (sumM M) 2), nI .u64 (lim (sumM M) 3), .ds f M.length (rows HoD.cells M)] = true := coinC_noHs f M (sumM M)
    have nCF : noHs [nI .u64 (lim (sumM M) 0), nI .u64 (lim (sumM M) 1), nI .u64 (lim (sumM M) 2), nI .u64 (lim (sumM M) 3), .ds false M.length (rows HoD.cells M)] = true := coinC_noHs false M (sumM M)
    refine vloop_invK G0ok [(0, some 1), (1, some 5)] 2 (X := Nat) (fun i => [(66, nI .i64 i), (65, nI .i64 M.length), (15, nI .i64 0), (14, .ptr 1 0), (11, nI .i64 0), (8, bI true), (7, .ptr 0 0)]) (fun _ => [(0, some [nI .u64 (lim (sumM M) 0), nI .u64 (lim (sumM M) 1), nI .u64 (lim (sumM M) 2), nI .u64 (lim (sumM M) 3), .ds f M.length (rows HoD.cells M)]), (1, some [nI .u64 (lim (sumM M) 0), nI .u64 (lim (sumM M) 1), nI .u64 (lim (sumM M) 2), nI .u64 (lim (sumM M) 3), .ds false M.length (rows HoD.cells M)])])
      (fun i => i ≤ M.length) (fun i => M.length - i) 0 rfl ⟨⟨_, rfl, conv_nI (rfl)⟩, ⟨_, rfl, conv_nI (rfl)⟩, ⟨_, rfl, conv_nI (rfl)⟩, ⟨_, rfl, .ptr rfl⟩, ⟨_, rfl, conv_nI (rfl)⟩, ⟨_, rfl, .same rfl⟩, ⟨_, rfl, .ptr rfl⟩, trivial⟩ ⟨.inr ⟨_, _, rfl, rfl, .same (nCf)⟩, .inr ⟨_, _, rfl, rfl, .same (nCF)⟩, trivial⟩ (Nat.zero_le _) ?_
    intro i hi
    try dsimp only at hi ⊢
    refine wpv_ok Γok (by kernel_rfl) _ _ _ ?_; conv => whnf
    refine bool_cases (fun hc => ?_) (fun hc => ?_)
    · have hc := of_decide_eq_true hc
      have hc : i < M.length := by omega
      have hd := hold _ (List.getElem_mem hc)
      conv => whnf
      try (refine ⟨by kernel_rfl, ?_⟩; conv => whnf)
      refine bindP_intro (if_pos (inB_ok (by omega) (by omega))) ?_; conv => whnf
      refine bindP_intro (row_load (i := i) (w := 36) rfl rfl rfl (fun a ha => hoD_len (ok.hol.who a ha)) (by dsimp only; omega) hc) ?_
      conv => whnf
      try (refine ⟨by kernel_rfl, ?_⟩; conv => whnf)
      refine bindP_intro (if_pos (inB_ok (by omega) (by omega))) ?_; conv => whnf
      refine bindP_intro (row_load (i := i) (w := 36) rfl rfl rfl (fun a ha => hoD_len (ok.hol.who a ha)) (by dsimp only; omega) hc) ?_
      conv => whnf
      try (refine ⟨by kernel_rfl, ?_⟩; conv => whnf)
      refine ⟨false, hd, ?_⟩
      conv => whnf
      try (refine ⟨by kernel_rfl, ?_⟩; conv => whnf)
      refine next_round (y := i) G0ok (i + 1) [(0, some 0), (1, some 1)] rfl ⟨⟨_, rfl, conv_nI (ws_i64 (by omega) (by omega))⟩, ⟨_, rfl, conv_nI (rfl)⟩, ⟨_, rfl, conv_nI (rfl)⟩, ⟨_, rfl, .ptr rfl⟩, ⟨_, rfl, conv_nI (rfl)⟩, ⟨_, rfl, .same rfl⟩, ⟨_, rfl, .ptr rfl⟩, trivial⟩ ⟨.inr ⟨_, _, rfl, rfl, .same (nCf)⟩, .inr ⟨_, _, rfl, rfl, .same (nCF)⟩, trivial⟩ (by omega) (by omega)
    · have hc := of_decide_eq_false hc
      have e : i = M.length := by omega
      subst e
      conv => whnf
      try (refine ⟨by kernel_rfl, ?_⟩; conv => whnf)
      refine ⟨_, ret_of_fn G0ok (coinTells_fn) (by first | rfl | simp only [noHs, noH, nI, bI, Bool.and_self, Bool.and_true, Bool.true_and, ]) (by first | rfl | simp only [noHs, noH, nI, bI, Bool.and_self, Bool.and_true, Bool.true_and, ]), ?_⟩; (conv => whnf); (try (refine ⟨by kernel_rfl, ?_⟩; conv => whnf))
      refine ⟨true, eqs, ?_⟩
      conv => whnf
      try (refine ⟨by kernel_rfl, ?_⟩; conv => whnf)
      exact ⟨_, rfl, rfl⟩
  · have mf := mint_over (f := f) (w := w) (n := n) ok.hol (by omega) (by omega) hn (by omega)
    rw [zero_coin] at mf
    have ad := add_fn (a := sumM M) (b := n) (by omega) hn
    rw [addS_def, addO_def, decide_eq_true (show T256 ≤ sumM M + n by omega)] at ad
    have nM : noHs (rows HoD.cells M) = true := rows_noHs hoD_noHs M
    unfold RawD.v RawD.cells at *
    unfold coinC uV at *
    refine fn_of_vwp Γok Try.func10 (by kernel_rfl) rfl (by simp [Try.ntmps10]) (wpv_ok Γok (by kernel_rfl) _ _ _ ?_); conv => whnf
    refine ⟨_, ret_of_fn G0ok (mi) (by first | rfl | simp only [noHs, noH, nI, bI, Bool.and_self, Bool.and_true, Bool.true_and, nR, nM]) (by first | rfl | simp only [noHs, noH, nI, bI, Bool.and_self, Bool.and_true, Bool.true_and, nR, nM]), ?_⟩; (conv => whnf); (try (refine ⟨by kernel_rfl, ?_⟩; conv => whnf))
    refine ⟨_, ret_of_fn G0ok (n1) (by first | rfl | simp only [noHs, noH, nI, bI, Bool.and_self, Bool.and_true, Bool.true_and, words_noHs]) (by first | rfl | simp only [noHs, noH, nI, bI, Bool.and_self, Bool.and_true, Bool.true_and, words_noHs]), ?_⟩; (conv => whnf); (try (refine ⟨by kernel_rfl, ?_⟩; conv => whnf))
    refine ⟨_, ret_of_fn G0ok (wf) (by first | rfl | simp only [noHs, noH, nI, bI, Bool.and_self, Bool.and_true, Bool.true_and, bts_noHs]) (by first | rfl | simp only [noHs, noH, nI, bI, Bool.and_self, Bool.and_true, Bool.true_and, bts_noHs]), ?_⟩; (conv => whnf); (try (refine ⟨by kernel_rfl, ?_⟩; conv => whnf))
    refine ⟨_, ret_of_fn G0ok (mf) (by first | rfl | simp only [noHs, noH, nI, bI, Bool.and_self, Bool.and_true, Bool.true_and, nM, bts_noHs, words_noHs]) (by first | rfl | simp only [noHs, noH, nI, bI, Bool.and_self, Bool.and_true, Bool.true_and, nM, bts_noHs, words_noHs]), ?_⟩; (conv => whnf); (try (refine ⟨by kernel_rfl, ?_⟩; conv => whnf))
    refine ⟨_, ret_of_fn G0ok (ad) (by first | rfl | simp only [noHs, noH, nI, bI, Bool.and_self, Bool.and_true, Bool.true_and, ]) (by first | rfl | simp only [noHs, noH, nI, bI, Bool.and_self, Bool.and_true, Bool.true_and, ]), ?_⟩; (conv => whnf); (try (refine ⟨by kernel_rfl, ?_⟩; conv => whnf))
    refine ⟨_, ret_of_fn G0ok (coinTells_fn) (by first | rfl | simp only [noHs, noH, nI, bI, Bool.and_self, Bool.and_true, Bool.true_and, ]) (by first | rfl | simp only [noHs, noH, nI, bI, Bool.and_self, Bool.and_true, Bool.true_and, ]), ?_⟩; (conv => whnf); (try (refine ⟨by kernel_rfl, ?_⟩; conv => whnf))
    exact ⟨_, rfl, rfl⟩
namespace lawCoinBack
set_option linter.unusedVariables false
set_option maxRecDepth 100000 in
theorem lifted (os : Os) (started : os.Started) (H : Type) (enc : TypeId × Value → H) :
    ReturnsInHanded {} Try.checked os 10 .any (Rows.coinBackSpec.pre6 enc Try.prog Try.f10 Rows.coinBackRow.domain false) (Rows.coinBackSpec.post enc Try.prog Try.f10 false true false false) := by
  refine returnsInHanded_of_change (C := Try.checked) rowOwn started (by kernel_rfl) Try.func10
    (ChangeSpec.witness6 (enc := enc) (C := Try.checked) false ⟨#[], #[.slice none 0 0, .int .i64 0, .agg #[.int .i64 0, .int .i64 0, .int .i64 0, .string ByteArray.empty]], []⟩ 8 (by kernel_rfl) (by kernel_rfl) (by kernel_rfl) (by kernel_rfl)) ?_
  intro W base args ds gs before hval0 hW hcnd _
  have hval : ∀ (j : Nat) t v, Try.f10.params[j]? = some t → args[j]? = some v → Value.okWide Try.prog W .any base t v := hval0
  have hW' := hW
  obtain ⟨p, q, hA0, hV, rfl, hfz, hnd⟩ := hW
  have hA : DataW.TrodAll enc Try.prog W 0 (fun _ => true) true Try.f10.params.toList args.toList ds p := hA0
  rw [Try.params10] at hA hval
  obtain ⟨v0, vs0, d0, ds0, p0, q0, hargs, rfl, rfl, h0, r0⟩ := trodAll_cons hA
  obtain ⟨v1, vs1, d1, ds1, p1, q1, rfl, rfl, rfl, h1, r1⟩ := trodAll_cons r0
  obtain ⟨v2, vs2, d2, ds2, p2, q2, rfl, rfl, rfl, h2, r2⟩ := trodAll_cons r1
  obtain ⟨rfl, rfl, rfl⟩ := trodAll_nil r2
  obtain rfl : args = #[v0, v1, v2] := by cases args; simp_all
  obtain ⟨rfl, rfl⟩ := trodVars_none hV
  have k0 := h0
  have lt0 : ∀ x ∈ p0, x.block < W.heap.size := by obtain ⟨m, hm⟩ := k0; exact DataW.trod_lt m _ _ _ hm
  obtain ⟨a0, l0, w0, u0⟩ := raws_open (hval 0 22 v0 rfl rfl) h0
  obtain ⟨a1, rfl, rfl, rfl, w1⟩ := open_int Try.underlying3 (hval 1 3 v1 rfl rfl) h1
  have k2 := h2
  have lt2 : ∀ x ∈ p2, x.block < W.heap.size := by obtain ⟨m, hm⟩ := k2; exact DataW.trod_lt m _ _ _ hm
  obtain ⟨a2, w2, u2⟩ := raw_open (hval 2 24 v2 rfl rfl) h2
  clear hA0 hval0
  refine (calls_of_fn Try.func10 (by kernel_rfl) rfl (fnCoinBack a0 a1 a2 l0 w0 (bounds_i64 w1) w2) (fun _ _ h => by cases h) (VRs.cons u0 (VRs.cons rfl (VRs.cons (u2 _) VRs.snoc_nil)))).mono fun e W' ⟨he, bel⟩ => ?_
  subst he
  exact ⟨_, rfl, _, _, _, [], _, [], hW', trodAll_mk1 (shut_bool Try.underlying4 _), (trodAll_cons_mk (Below.trod rowLaid (by kernel_rfl) (of_decide_eq_true (by kernel_rfl)) k0 bel lt0) (trodAll_cons_mk (shut_int Try.underlying3 w1) (trodAll_cons_mk (Below.trod rowLaid (by kernel_rfl) (of_decide_eq_true (by kernel_rfl)) k2 bel lt2) trodAll_mk0))), rfl, bel.frame _, fun h => by cases h⟩
theorem over : Rows.coinBackRow.holds Try.pinned (OpenSpec.ofChange Rows.coinBackSpec) :=
  OpenClaim.holds_of_wide 10 Try.f10 rfl rfl rfl rfl rfl rfl rfl ⟨rfl, rfl, rfl, rfl, rfl⟩ rfl rfl rfl rfl rfl (by kernel_rfl) Try.func10 (by kernel_rfl)
    (of_decide_eq_true (by kernel_rfl)) (by unfold Func.isWrapper; first | (rw [if_pos (by decide +kernel)]; kernel_rfl) | (rw [if_neg (by decide +kernel)]; exact ⟨rfl, rfl⟩))
    (fun os started H enc _ => lifted os started H enc)
theorem proved : Rows.CoinBackSaid := over
end lawCoinBack

end Go.Proofs.Ytlecdiopokalgaa
