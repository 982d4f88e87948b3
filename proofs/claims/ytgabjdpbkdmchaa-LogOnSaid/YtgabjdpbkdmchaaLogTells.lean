/- Two helpers of the statements about logs. -/
import Derived.Test.YtgabjdpbkdmchaaVLogN
import Derived.Laws.Strings
namespace Go.Proofs.Ytgabjdpbkdmchaa
set_option linter.unusedVariables false
set_option linter.unusedSimpArgs false
set_option linter.unusedSectionVars false
open Go.ChangeShapes Go.WideShapes Go.ChangeAt Go.RowKit Go.Joins
set_option maxRecDepth 10000
theorem logTells_fn : FnV Try.prog G0 16 [] (bI true) := by
  refine fn_of_vwp Γok Try.func16 (by kernel_rfl) rfl (by simp [Try.ntmps16]) (wpv_ok Γok (by kernel_rfl) _ _ _ ?_); conv => whnf
  refine .ownAs 1 [byV 97] rfl rfl ?_
  conv => whnf
  refine ⟨_, ret_give [0] G0ok (append_fn true true false [] [] [97] (by decide) (by decide)) (by rfl) (by first | rfl | simp only [noHs, noH, nI, bI, Bool.and_self, Bool.and_true, Bool.true_and, dsB_noH]), ?_⟩; (conv => whnf); (try (refine ⟨by kernel_rfl, ?_⟩; conv => whnf))
  exact ⟨_, rfl, rfl⟩
theorem sameLists_fn (f g f1 g1 : Bool) (x y : List (List UInt8)) (hx : x.length ≤ 10000) (hy : y.length ≤ 10000) : FnV Try.prog G0 17 [.ds f x.length (x.map (dsB f1)), .ds g y.length (y.map (dsB g1))] (bI (decide (x = y))) := by
  refine fn_of_vwp Γok Try.func17 (by kernel_rfl) rfl (by simp [Try.ntmps17]) (wpv_ok Γok (by kernel_rfl) _ _ _ ?_); conv => whnf
  rw [bne_lit]
  by_cases h : x.length = y.length
  · rw [decide_eq_true h]
    conv => whnf
    refine vloop_invK G0ok [] 0 (X := Nat) (fun i => [(13, nI .i64 i), (12, nI .i64 x.length), (0, .ds f x.length (x.map (dsB f1))), (1, .ds g y.length (y.map (dsB g1)))]) (fun _ => [])
      (fun i => i ≤ x.length ∧ x.take i = y.take i) (fun i => x.length - i) 0 rfl ⟨⟨_, rfl, conv_nI (rfl)⟩, ⟨_, rfl, conv_nI (rfl)⟩, ⟨_, rfl, conv_eq rfl (dsBs_noHs _ _)⟩, ⟨_, rfl, conv_eq rfl (dsBs_noHs _ _)⟩, trivial⟩ trivial ⟨Nat.zero_le _, rfl⟩ ?_
    rintro i ⟨hi, he⟩
    dsimp only at hi he ⊢
    refine wpv_ok Γok (by kernel_rfl) _ _ _ ?_; conv => whnf
    refine bool_cases (fun hc => ?_) (fun hc => ?_)
    · have hc := of_decide_eq_true hc
      conv => whnf
      refine bindP_intro (if_pos (inB_ok (by omega) (by omega))) ?_; conv => whnf
      refine bindP_intro (dsB_ix (i := i) (by dsimp only; omega) (by omega)) ?_
      conv => whnf
      refine ⟨x[i], rfl, rfl, ?_⟩
      conv => whnf
      refine bindP_intro (if_pos (inB_ok (by omega) (by omega))) ?_; conv => whnf
      refine bindP_intro (dsB_ix (i := i) (by dsimp only; omega) (by omega)) ?_
      conv => whnf
      refine ⟨y[i], rfl, rfl, ?_⟩
      conv => whnf
      rw [str_eq]
      by_cases hs : x[i] = y[i]
      · rw [decide_eq_true hs]
        conv => whnf
        try (refine ⟨by kernel_rfl, ?_⟩; conv => whnf)
        refine next_round (y := i) G0ok (i + 1) [] rfl ⟨⟨_, rfl, conv_nI (ws_i64 (by omega) (by omega))⟩, ⟨_, rfl, conv_nI (rfl)⟩, ⟨_, rfl, conv_eq rfl (dsBs_noHs _ _)⟩, ⟨_, rfl, conv_eq rfl (dsBs_noHs _ _)⟩, trivial⟩ trivial ⟨by omega, ?_⟩ (by omega)
        rw [List.take_add_one, List.take_add_one, List.getElem?_eq_getElem (by omega), List.getElem?_eq_getElem (by omega), he, hs]
      · rw [decide_eq_false hs, decide_eq_false (fun e => hs (by subst e; rfl))]
        conv => whnf
        try (refine ⟨by kernel_rfl, ?_⟩; conv => whnf)
        exact ⟨_, rfl, rfl⟩
    · have hc := of_decide_eq_false hc
      have : i = x.length := by omega
      subst this
      rw [List.take_length, h, List.take_length] at he
      rw [decide_eq_true he]
      conv => whnf
      exact ⟨_, rfl, rfl⟩
  · rw [decide_eq_false h, decide_eq_false (fun e => h (by rw [e]))]
    conv => whnf
    exact ⟨_, rfl, rfl⟩
end Go.Proofs.Ytgabjdpbkdmchaa
