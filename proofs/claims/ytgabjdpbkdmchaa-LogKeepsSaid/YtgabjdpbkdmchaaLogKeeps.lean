/- LogKeeps: behind a fall a log has its first records, whole, and all that were synced. -/
import Derived.Test.YtgabjdpbkdmchaaVLogN
import Derived.Laws.Strings
namespace Go.Proofs.Ytgabjdpbkdmchaa
set_option linter.unusedVariables false
set_option linter.unusedSimpArgs false
set_option linter.unusedSectionVars false
open Go.ChangeShapes Go.WideShapes Go.ChangeAt Go.RowKit Go.Joins
set_option maxRecDepth 10000
theorem logTells_fn : FnV Try.prog G0 16 [] (bI true) := by
  refine fn_of_vwp Γok Try.func16 (by kernel_rfl) rfl (by simp [Try.ntmps16]) (wpv_ok Γok (by kernel_rfl) _ _ _ ?_); conv => whnf
  refine .ownAs 1 [byV 97] rfl rfl ?_
  conv => whnf
  refine ⟨_, ret_give [0] G0ok (append_fn true true false [] [] [97] (by decide) (by decide)) (by rfl) (by first | rfl | simp only [noHs, noH, nI, bI, Bool.and_self, Bool.and_true, Bool.true_and, dsB_noH]), ?_⟩; (conv => whnf); (try (refine ⟨by kernel_rfl, ?_⟩; conv => whnf))
  exact ⟨_, rfl, rfl⟩
theorem sameLists_fn (f g f1 g1 : Bool) (x y : List (List UInt8)) (hx : x.length ≤ 10000) (hy : y.length ≤ 10000) : FnV Try.prog G0 17 [.ds f x.length (x.map (dsB f1)), .ds g y.length (y.map (dsB g1))] (bI (decide (x = y))) := by
  refine fn_of_vwp Γok Try.func17 (by kernel_rfl) rfl (by simp [Try.ntmps17]) (wpv_ok Γok (by kernel_rfl) _ _ _ ?_); conv => whnf
  rw [bne_lit]
  by_cases h : x.length = y.length
  · rw [decide_eq_true h]
    conv => whnf
    refine vloop_invK G0ok [] 0 (X := Nat) (fun i => [(13, nI .i64 i), (12, nI .i64 x.length), (0, .ds f x.length (x.map (dsB f1))), (1, .ds g y.length (y.map (dsB g1)))]) (fun _ => [])
      (fun i => i ≤ x.length ∧ x.take i = y.take i) (fun i => x.length - i) 0 rfl ⟨⟨_, rfl, conv_nI (rfl)⟩, ⟨_, rfl, conv_nI (rfl)⟩, ⟨_, rfl, conv_eq rfl (dsBs_noHs _ _)⟩, ⟨_, rfl, conv_eq rfl (dsBs_noHs _ _)⟩, trivial⟩ trivial ⟨Nat.zero_le _, rfl⟩ ?_
    rintro i ⟨hi, he⟩
    dsimp only at hi he ⊢
    refine wpv_ok Γok (by kernel_rfl) _ _ _ ?_; conv => whnf
    refine bool_cases (fun hc => ?_) (fun hc => ?_)
    · have hc := of_decide_eq_true hc
      conv => whnf
      refine bindP_intro (if_pos (inB_ok (by omega) (by omega))) ?_; conv => whnf
      refine bindP_intro (dsB_ix (i := i) (by dsimp only; omega) (by omega)) ?_
      conv => whnf
      refine ⟨x[i], rfl, rfl, ?_⟩
      conv => whnf
      refine bindP_intro (if_pos (inB_ok (by omega) (by omega))) ?_; conv => whnf
      refine bindP_intro (dsB_ix (i := i) (by dsimp only; omega) (by omega)) ?_
      conv => whnf
      refine ⟨y[i], rfl, rfl, ?_⟩
      conv => whnf
      rw [str_eq]
      by_cases hs : x[i] = y[i]
      · rw [decide_eq_true hs]
        conv => whnf
        try (refine ⟨by kernel_rfl, ?_⟩; conv => whnf)
        refine next_round (y := i) G0ok (i + 1) [] rfl ⟨⟨_, rfl, conv_nI (ws_i64 (by omega) (by omega))⟩, ⟨_, rfl, conv_nI (rfl)⟩, ⟨_, rfl, conv_eq rfl (dsBs_noHs _ _)⟩, ⟨_, rfl, conv_eq rfl (dsBs_noHs _ _)⟩, trivial⟩ trivial ⟨by omega, ?_⟩ (by omega)
        rw [List.take_add_one, List.take_add_one, List.getElem?_eq_getElem (by omega), List.getElem?_eq_getElem (by omega), he, hs]
      · rw [decide_eq_false hs, decide_eq_false (fun e => hs (by subst e; rfl))]
        conv => whnf
        try (refine ⟨by kernel_rfl, ?_⟩; conv => whnf)
        exact ⟨_, rfl, rfl⟩
    · have hc := of_decide_eq_false hc
      have : i = x.length := by omega
      subst this
      rw [List.take_length, h, List.take_length] at he
      rw [decide_eq_true he]
      conv => whnf
      exact ⟨_, rfl, rfl⟩
  · rw [decide_eq_false h, decide_eq_false (fun e => h (by rw [e]))]
    conv => whnf
    exact ⟨_, rfl, rfl⟩
theorem fnLogKeeps (l : List RawD) (k : Int) (hl : l.length ≤ maxLen) (hok : ∀ r ∈ l, r.ok) (_ : I64 k) : FnV Try.prog G0 4 [.ds false l.length (rawsC l), nI .i64 k] (bI true) := by
  have hlog := logged_fn false l hl hok
  have hm : (l.take 20).length ≤ 20 := by simp; omega
  have hb := lgOf_bound (l.take 20) (l.take 20).length (Nat.le_refl _)
  rw [List.take_length] at hb
  have hq := lgOf_ok (l.take 20)
  refine gen_ex (lgOf (l.take 20)) fun q eq => ?_
  rw [← eq] at hlog hb hq
  obtain ⟨b1, b2, b3⟩ := hb
  have hbound : q.a.length + q.b.length ≤ 860 := by omega
  clear eq
  have hw : ∀ r ∈ q.w, r.length ≤ 200 := fun r hr => by have := hq.short r hr; omega
  have oall := open_fn q.f1 q.f2 q.a q.b (by omega)
  rw [hq.all, openL_all hw] at oall
  refine fn_of_vwp Γok Try.func4 (by kernel_rfl) rfl (by simp [Try.ntmps4]) (wpv_ok Γok (by kernel_rfl) _ _ _ ?_); conv => whnf
  refine ⟨_, ret_of_fn G0ok (hlog) (by first | rfl | simp only [noHs, noH, nI, bI, Bool.and_self, Bool.and_true, Bool.true_and, dsB_noH, dsBs_noHs, rawsC_noHs]) (by first | rfl | simp only [noHs, noH, nI, bI, Bool.and_self, Bool.and_true, Bool.true_and, dsB_noH, dsBs_noHs, rawsC_noHs]), ?_⟩; (conv => whnf); (try (refine ⟨by kernel_rfl, ?_⟩; conv => whnf))
  rw [ws_i64 (x := (q.b.length : Int) + 1) (by omega) (by omega)]
  refine ⟨_, ret_of_fn G0ok (picked_fn k (q.b.length + 1) (by omega) (by omega)) (by first | rfl | simp only [noHs, noH, nI, bI, Bool.and_self, Bool.and_true, Bool.true_and, ]) (by first | rfl | simp only [noHs, noH, nI, bI, Bool.and_self, Bool.and_true, Bool.true_and, ]), ?_⟩; (conv => whnf); (try (refine ⟨by kernel_rfl, ?_⟩; conv => whnf))
  obtain ⟨j, hj⟩ : ∃ j : Nat, k % (q.b.length + 1) = (j : Int) := ⟨(k % (q.b.length + 1)).toNat, by have := Int.emod_nonneg k (show (q.b.length : Int) + 1 ≠ 0 by omega); omega⟩
  have hj2 : j ≤ q.b.length := by have := Int.emod_lt_of_pos k (show (0 : Int) < (q.b.length : Int) + 1 by omega); omega
  rw [hj]
  refine ⟨_, ret_of_fn G0ok (crash_fn q.f1 q.f2 q.a q.b j (by omega) hj2) (by first | rfl | simp only [noHs, noH, nI, bI, Bool.and_self, Bool.and_true, Bool.true_and, dsB_noH]) (by first | rfl | simp only [noHs, noH, nI, bI, Bool.and_self, Bool.and_true, Bool.true_and, dsB_noH]), ?_⟩; (conv => whnf); (try (refine ⟨by kernel_rfl, ?_⟩; conv => whnf))
  have hx : q.a ++ q.b.take j = (cat q.w).take (q.a.length + j) := by
    rw [← hq.all, List.take_append, List.take_of_length_le (l := q.a) (by omega), Nat.add_sub_cancel_left]
  obtain ⟨i, t, hi, ht, ho, hmin⟩ := cat_take q.w (q.a.length + j) hw
  have hn : q.n ≤ i := hmin q.n hq.n (by rw [← hq.synced]; omega)
  have hopen := openL_cat (q.w.take i) t (fun r hr => hw r (List.mem_of_mem_take hr)) ho
  rw [← ht, ← hx] at hopen
  have hlen : (cat (q.w.take i)).length ≤ (q.a ++ q.b.take j).length := by have := openL_le (q.a ++ q.b.take j); rw [hopen] at this; exact this
  have ox := open_fn false true (q.a ++ q.b.take j) [] (by simp; omega)
  rw [List.append_nil, hopen] at ox
  clear hopen ht hx
  refine gen_ex (q.a ++ q.b.take j) fun x ex => ?_
  rw [← ex] at ox hlen ⊢
  clear ex
  refine gen_ex (q.w.take i) fun g eg => ?_
  have hgl : g.length = i := by rw [eg]; simp; omega
  have hpre : g = q.w.take g.length := by rw [hgl, eg]
  rw [← eg] at ox hlen
  clear eg
  refine gen_ex (cat g).length fun gn egn => ?_
  rw [← egn] at ox hlen
  clear egn
  refine ⟨_, ret_of_fn G0ok (ox) (by first | rfl | simp only [noHs, noH, nI, bI, Bool.and_self, Bool.and_true, Bool.true_and, dsB_noH, dsBs_noHs]) (by first | rfl | simp only [noHs, noH, nI, bI, Bool.and_self, Bool.and_true, Bool.true_and, dsB_noH, dsBs_noHs]), ?_⟩; (conv => whnf); (try (refine ⟨by kernel_rfl, ?_⟩; conv => whnf))
  refine ⟨_, ret_of_fn G0ok (oall) (by first | rfl | simp only [noHs, noH, nI, bI, Bool.and_self, Bool.and_true, Bool.true_and, dsB_noH, dsBs_noHs]) (by first | rfl | simp only [noHs, noH, nI, bI, Bool.and_self, Bool.and_true, Bool.true_and, dsB_noH, dsBs_noHs]), ?_⟩; (conv => whnf); (try (refine ⟨by kernel_rfl, ?_⟩; conv => whnf))
  refine ⟨_, ret_of_fn G0ok (logTells_fn) (by first | rfl | simp only [noHs, noH, nI, bI, Bool.and_self, Bool.and_true, Bool.true_and, ]) (by first | rfl | simp only [noHs, noH, nI, bI, Bool.and_self, Bool.and_true, Bool.true_and, ]), ?_⟩; (conv => whnf); (try (refine ⟨by kernel_rfl, ?_⟩; conv => whnf))
  rw [decide_eq_true (show ((gn : Nat) : Int) ≤ (x.length : Nat) by omega)]
  conv => whnf
  try (refine ⟨by kernel_rfl, ?_⟩; conv => whnf)
  refine ⟨_, ret_of_fn G0ok (sameLists_fn false false false false q.w q.w (by omega) (by omega)) (by first | rfl | simp only [noHs, noH, nI, bI, Bool.and_self, Bool.and_true, Bool.true_and, dsBs_noHs]) (by first | rfl | simp only [noHs, noH, nI, bI, Bool.and_self, Bool.and_true, Bool.true_and, dsBs_noHs]), ?_⟩; (conv => whnf); (try (refine ⟨by kernel_rfl, ?_⟩; conv => whnf))
  rw [decide_eq_true rfl]
  conv => whnf
  try (refine ⟨by kernel_rfl, ?_⟩; conv => whnf)
  rw [decide_eq_true (show ((g.length : Nat) : Int) ≥ (q.n : Nat) by omega)]
  conv => whnf
  try (refine ⟨by kernel_rfl, ?_⟩; conv => whnf)
  rw [decide_eq_true (show ((g.length : Nat) : Int) ≤ (q.w.length : Nat) by omega)]
  conv => whnf
  try (refine ⟨by kernel_rfl, ?_⟩; conv => whnf)
  refine bindP_intro (vpure_slice (vslice_map rfl rfl (by rfl) (by rfl) (vb_nat) (Nat.zero_le _) (show g.length ≤ q.w.length by omega))) ?_; (conv => whnf); (try (refine ⟨by kernel_rfl, ?_⟩; conv => whnf))
  rw [show (q.w.drop 0).take (g.length - 0) = g from by rw [List.drop_zero, Nat.sub_zero]; exact hpre.symm]
  refine ⟨_, ret_of_fn G0ok (sameLists_fn false _ false false g g (by omega) (by omega)) (by first | rfl | simp only [noHs, noH, nI, bI, Bool.and_self, Bool.and_true, Bool.true_and, dsBs_noHs]) (by first | rfl | simp only [noHs, noH, nI, bI, Bool.and_self, Bool.and_true, Bool.true_and, dsBs_noHs]), ?_⟩; (conv => whnf); (try (refine ⟨by kernel_rfl, ?_⟩; conv => whnf))
  rw [decide_eq_true rfl]
  conv => whnf
  try (refine ⟨by kernel_rfl, ?_⟩; conv => whnf)
  exact ⟨_, rfl, rfl⟩
namespace lawLogKeeps
set_option linter.unusedVariables false
set_option maxRecDepth 100000 in
theorem lifted (os : Os) (started : os.Started) (H : Type) (enc : TypeId × Value → H) :
    ReturnsInHanded {} Try.checked os 4 .any (Rows.logKeepsSpec.pre6 enc Try.prog Try.f4 Rows.logKeepsRow.domain false) (Rows.logKeepsSpec.post enc Try.prog Try.f4 false true false false) := by
  refine returnsInHanded_of_change (C := Try.checked) rowOwn started (by kernel_rfl) Try.func4
    (ChangeSpec.witness6 (enc := enc) (C := Try.checked) false ⟨#[], #[.slice none 0 0, .int .i64 0], []⟩ 8 (by kernel_rfl) (by kernel_rfl) (by kernel_rfl) (by kernel_rfl)) ?_
  intro W base args ds gs before hval0 hW hcnd _
  have hval : ∀ (j : Nat) t v, Try.f4.params[j]? = some t → args[j]? = some v → Value.okWide Try.prog W .any base t v := hval0
  have hW' := hW
  obtain ⟨p, q, hA0, hV, rfl, hfz, hnd⟩ := hW
  have hA : DataW.TrodAll enc Try.prog W 0 (fun _ => true) true Try.f4.params.toList args.toList ds p := hA0
  rw [Try.params4] at hA hval
  obtain ⟨v0, vs0, d0, ds0, p0, q0, hargs, rfl, rfl, h0, r0⟩ := trodAll_cons hA
  obtain ⟨v1, vs1, d1, ds1, p1, q1, rfl, rfl, rfl, h1, r1⟩ := trodAll_cons r0
  obtain ⟨rfl, rfl, rfl⟩ := trodAll_nil r1
  obtain rfl : args = #[v0, v1] := by cases args; simp_all
  obtain ⟨rfl, rfl⟩ := trodVars_none hV
  have k0 := h0
  have lt0 : ∀ x ∈ p0, x.block < W.heap.size := by obtain ⟨m, hm⟩ := k0; exact DataW.trod_lt m _ _ _ hm
  obtain ⟨a0, l0, w0, u0⟩ := raws_open (hval 0 32 v0 rfl rfl) h0
  obtain ⟨a1, rfl, rfl, rfl, w1⟩ := open_int Try.underlying3 (hval 1 3 v1 rfl rfl) h1
  clear hA0 hval0
  refine (calls_of_fn Try.func4 (by kernel_rfl) rfl (fnLogKeeps a0 a1 l0 w0 (bounds_i64 w1)) (fun _ _ h => by cases h) (VRs.cons u0 (VRs.cons rfl VRs.snoc_nil))).mono fun e W' ⟨he, bel⟩ => ?_
  subst he
  exact ⟨_, rfl, _, _, _, [], _, [], hW', trodAll_mk1 (shut_bool Try.underlying4 _), (trodAll_cons_mk (Below.trod rowLaid (by kernel_rfl) (of_decide_eq_true (by kernel_rfl)) k0 bel lt0) (trodAll_cons_mk (shut_int Try.underlying3 w1) trodAll_mk0)), rfl, bel.frame _, fun h => by cases h⟩
theorem over : Rows.logKeepsRow.holds Try.pinned (OpenSpec.ofChange Rows.logKeepsSpec) :=
  OpenClaim.holds_of_wide 4 Try.f4 rfl rfl rfl rfl rfl rfl rfl ⟨rfl, rfl, rfl, rfl, rfl⟩ rfl rfl rfl rfl rfl (by kernel_rfl) Try.func4 (by kernel_rfl)
    (of_decide_eq_true (by kernel_rfl)) (by unfold Func.isWrapper; first | (rw [if_pos (by decide +kernel)]; kernel_rfl) | (rw [if_neg (by decide +kernel)]; exact ⟨rfl, rfl⟩))
    (fun os started H enc _ => lifted os started H enc)
theorem proved : Rows.LogKeepsSaid := over
end lawLogKeeps

end Go.Proofs.Ytgabjdpbkdmchaa
