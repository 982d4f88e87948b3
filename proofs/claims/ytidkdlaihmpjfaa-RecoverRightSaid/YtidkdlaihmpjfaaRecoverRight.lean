/- RecoverRight: whatever point is told, the signature is right by it. -/
import Derived.Test.YtidkdlaihmpjfaaBUd
namespace Go.Proofs.Ytidkdlaihmpjfaa
set_option linter.unusedVariables false
set_option linter.unusedSimpArgs false
set_option linter.unusedSectionVars false
open Go.ChangeShapes Go.WideShapes Go.ChangeAt Go.RowKit Go.Joins
set_option maxRecDepth 10000
theorem rec_right {k : Nat} (h : k < 8) {b : List Nat} (lb : b.length = 32) (hb : ∀ x ∈ b, x < 256) {s : SgD} {o : Nat} (ho : s.odd = (o : Int)) (R0 : 0 < s.R) (hR : s.R < (crv k).N) (S0 : 0 < s.S) (hS : s.S < (crv k).N) :
    FnV Try.prog G0 7 [(crv k).v, .agg (bts b), s.v] (.tup [nilP.v, nI .i64 10]) ∨ (∃ J, FnV Try.prog G0 7 [(crv k).v, .agg (bts b), s.v] (.tup [(gk k J).v, nI .i64 0]) ∧ FnV Try.prog G0 10 [(crv k).v, (gk k J).v, .agg (bts b), s.v] (nI .i64 0)) := by
  rcases rec_any h (b := b) ho hR hS with e | ⟨hf, i, i0, i1, hx, hp⟩
  · exact .inl e
  · have ho3 : o ≤ 3 := by
      unfold formB at hf
      rw [Bool.and_eq_true, Bool.and_eq_true, Bool.and_eq_true, Bool.and_eq_true] at hf
      have := of_decide_eq_true hf.2.2.2.2
      omega
    have rg := rec_gk h i0 i1 lb hb ho ho3 hf R0 hR hS hx hp
    by_cases e : recI k (modN (fromV b 32) (crv k).N) s.R s.S i % (crv k).N = 0
    · rw [if_pos e, if_pos e] at rg
      exact .inl rg
    · rw [if_neg e, if_neg e] at rg
      refine .inr ⟨_, rg, ?_⟩
      have ck := check_gk h e lb hb hf R0 hR S0 hS
      have e1 := chkI_eq h (z := modN (fromV b 32) (crv k).N) (R := s.R) (recI k (modN (fromV b 32) (crv k).N) s.R s.S i) S0 hS
      have e2 := recI_eq h (z := modN (fromV b 32) (crv k).N) (S := s.S) i R0 hR
      have e3 := cong_trans e1 (cong_plus (cong_rfl _ ((modN (fromV b 32) (crv k).N : Nat) : Int)) e2)
      rw [show ((modN (fromV b 32) (crv k).N : Nat) : Int) + ((s.S : Int) * i - (modN (fromV b 32) (crv k).N : Nat)) = (s.S : Int) * i from by omega] at e3
      rw [gk_cong h (cN_cancel h S0 hS e3)] at ck
      have hc : chkE (crv k) (gk k i) s.R = true := by
        unfold chkE
        rw [gk_far, Nat.mod_eq_of_lt i1, decide_eq_false (by omega), modN_def, hx]
        rw [decide_eq_true]
        · rfl
        · split
          · rw [Nat.add_mod_right, Nat.mod_eq_of_lt hR]
          · rw [Nat.add_zero, Nat.mod_eq_of_lt hR]
      rw [hc, if_pos rfl] at ck
      exact ck
theorem fnRecoverRight (n : Int) (q : RawD) (a b odd : Int) (_ : I64 n) (_ : q.ok) (_ : I64 a) (_ : I64 b) (_ : I64 odd) : FnV Try.prog G0 3 [nI .i64 n, q.v, nI .i64 a, nI .i64 b, nI .i64 odd] (bI true) := by
  obtain ⟨k, h, cv⟩ := law_curve n
  obtain ⟨b1, b2, b3, b4, _⟩ := crv_bounds h
  obtain ⟨l1, l2⟩ := crv_B64 h
  have tT : B64 < T256 := by decide
  have sc := bsecret_fn h a
  have sm := rsum_fn q
  have st := stells_fn
  obtain ⟨R, eR, R0, hR⟩ : ∃ R : Nat, 1 + (a % ((crv k).N - 1 : Int)).toNat = R ∧ 0 < R ∧ R < (crv k).N := ⟨_, rfl, by omega, by have := Int.emod_nonneg a (show ((crv k).N - 1 : Int) ≠ 0 by omega); have := Int.emod_lt_of_pos a (show 0 < ((crv k).N - 1 : Int) by omega); omega⟩
  rw [eR] at sc
  have pk1 := picked_fn b (((crv k).N / 2 : Nat) : Int) (by omega) (by omega)
  obtain ⟨B, hB, lB⟩ : ∃ B : Nat, b % (((crv k).N / 2 : Nat) : Int) = (B : Int) ∧ B < (crv k).N / 2 := ⟨(b % (((crv k).N / 2 : Nat) : Int)).toNat, by have := Int.emod_nonneg b (show (((crv k).N / 2 : Nat) : Int) ≠ 0 by omega); omega, by have := Int.emod_nonneg b (show (((crv k).N / 2 : Nat) : Int) ≠ 0 by omega); have := Int.emod_lt_of_pos b (show 0 < (((crv k).N / 2 : Nat) : Int) by omega); omega⟩
  rw [hB] at pk1
  have pk2 := picked_fn odd 5 (by decide) (by decide)
  obtain ⟨o, hO, lO⟩ : ∃ o : Nat, odd % 5 = (o : Int) ∧ o < 5 := ⟨(odd % 5).toNat, by omega, by omega⟩
  rw [hO] at pk2
  have rr := rec_right h (rsumN_length q) (rsumN_lt q) (s := ⟨R, 1 + B, (o : Int)⟩) (o := o) rfl R0 hR (by show 0 < 1 + B; omega) (by show 1 + B < _; omega)
  have w1 : wS .i64 ((crv k).N : Int) = ((crv k).N : Int) := ws_i64 (by omega) (by omega)
  have w2 : ((crv k).N : Int).tdiv 2 = (((crv k).N / 2 : Nat) : Int) := by rw [Int.tdiv_eq_ediv_of_nonneg (by omega)]; omega
  have w3 : wS .i64 (((crv k).N / 2 : Nat) : Int) = (((crv k).N / 2 : Nat) : Int) := ws_i64 (by omega) (by omega)
  have w4 : wS .u64 (B : Int) = (B : Int) := ws_u64n (by omega) (by omega)
  have w5 : wS .u64 (1 + (B : Int)) = ((1 + B : Nat) : Int) := by rw [ws_u64n (by omega) (by omega)]; omega
  have lS := rsumN_length q
  refine gen_ex (rsumN q) fun L eL => ?_
  rw [← eL] at sm rr lS
  clear eL
  have mL : (bts L).length = 32 := by rw [bts_length, lS]
  unfold SgD.v SgD.cells at rr
  dsimp only at rr
  have uN : uC (crv k).N = words [(crv k).N, 0, 0, 0] := uC_lit l1
  have uS : uC (1 + B) = words [1 + B, 0, 0, 0] := uC_lit (by omega)
  unfold CvD.v CvD.cells RawD.v RawD.cells at *
  rw [uS] at rr
  clear uN
  refine gen_ex (crv k) fun C eC => ?_
  rw [← eC] at cv sc rr pk1 w1 w2 w3 l1
  clear eC
  refine gen_ex ((C.N / 2 : Nat) : Int) fun hf ef => ?_
  rw [← ef] at w2 w3 pk1
  clear ef
  rw [nil_v] at rr
  obtain ⟨cP, cA, cB, cN, cX, cY⟩ := C
  dsimp only at *
  have uN : uC cN = words [cN, 0, 0, 0] := uC_lit l1
  rw [uN] at cv sc rr
  clear uN
  rcases rr with rr | ⟨J, r1, r2⟩
  · refine fn_of_vwp Γok Try.func3 (by kernel_rfl) rfl (by simp [Try.ntmps3]) (wpv_ok Γok (by kernel_rfl) _ _ _ ?_); conv => whnf
    refine ⟨_, ret_of_fn G0ok (cv) (by first | rfl | simp only [noHs, noH, nI, bI, Bool.and_self, Bool.and_true, Bool.true_and, ]) (by first | rfl | simp only [noHs, noH, nI, bI, Bool.and_self, Bool.and_true, Bool.true_and, ]), ?_⟩; (conv => whnf); (try (refine ⟨by kernel_rfl, ?_⟩; conv => whnf))
    refine ⟨_, ret_of_fn G0ok (sc) (by first | rfl | simp only [noHs, noH, nI, bI, Bool.and_self, Bool.and_true, Bool.true_and, ]) (by first | rfl | simp only [noHs, noH, nI, bI, Bool.and_self, Bool.and_true, Bool.true_and, ]), ?_⟩; (conv => whnf); (try (refine ⟨by kernel_rfl, ?_⟩; conv => whnf))
    rw [w1, w2, w3]
    conv => whnf
    try (refine ⟨by kernel_rfl, ?_⟩; conv => whnf)
    refine ⟨_, ret_of_fn G0ok (pk1) (by first | rfl | simp only [noHs, noH, nI, bI, Bool.and_self, Bool.and_true, Bool.true_and, ]) (by first | rfl | simp only [noHs, noH, nI, bI, Bool.and_self, Bool.and_true, Bool.true_and, ]), ?_⟩; (conv => whnf); (try (refine ⟨by kernel_rfl, ?_⟩; conv => whnf))
    rw [w4, w5]
    conv => whnf
    try (refine ⟨by kernel_rfl, ?_⟩; conv => whnf)
    refine ⟨_, ret_of_fn G0ok (pk2) (by first | rfl | simp only [noHs, noH, nI, bI, Bool.and_self, Bool.and_true, Bool.true_and, ]) (by first | rfl | simp only [noHs, noH, nI, bI, Bool.and_self, Bool.and_true, Bool.true_and, ]), ?_⟩; (conv => whnf); (try (refine ⟨by kernel_rfl, ?_⟩; conv => whnf))
    refine ⟨_, ret_of_fn G0ok (sm) (by first | rfl | simp only [noHs, noH, nI, bI, Bool.and_self, Bool.and_true, Bool.true_and, bts_noHs]) (by first | rfl | simp only [noHs, noH, nI, bI, Bool.and_self, Bool.and_true, Bool.true_and, bts_noHs]), ?_⟩; (conv => whnf); (try (refine ⟨by kernel_rfl, ?_⟩; conv => whnf))
    refine ⟨_, ret_of_fn G0ok (rr) (by first | rfl | simp only [noHs, noH, nI, bI, Bool.and_self, Bool.and_true, Bool.true_and, noHs_append, words_noHs, bts_noHs, uC, uV, noHs, noH]) (by first | rfl | simp only [noHs, noH, nI, bI, Bool.and_self, Bool.and_true, Bool.true_and, noHs_append, words_noHs, bts_noHs, uC, uV, noHs, noH]), ?_⟩; (conv => whnf); (try (refine ⟨by kernel_rfl, ?_⟩; conv => whnf))
    refine ⟨_, ret_of_fn G0ok (st) (by first | rfl | simp only [noHs, noH, nI, bI, Bool.and_self, Bool.and_true, Bool.true_and, ]) (by first | rfl | simp only [noHs, noH, nI, bI, Bool.and_self, Bool.and_true, Bool.true_and, ]), ?_⟩; (conv => whnf); (try (refine ⟨by kernel_rfl, ?_⟩; conv => whnf))
    exact ⟨_, rfl, rfl⟩
  · refine gen_ex (gk k J) fun p ep => ?_
    rw [← ep] at r1 r2
    clear ep
    unfold PtD.v PtD.cells at r1 r2
    refine fn_of_vwp Γok Try.func3 (by kernel_rfl) rfl (by simp [Try.ntmps3]) (wpv_ok Γok (by kernel_rfl) _ _ _ ?_); conv => whnf
    refine ⟨_, ret_of_fn G0ok (cv) (by first | rfl | simp only [noHs, noH, nI, bI, Bool.and_self, Bool.and_true, Bool.true_and, ]) (by first | rfl | simp only [noHs, noH, nI, bI, Bool.and_self, Bool.and_true, Bool.true_and, ]), ?_⟩; (conv => whnf); (try (refine ⟨by kernel_rfl, ?_⟩; conv => whnf))
    refine ⟨_, ret_of_fn G0ok (sc) (by first | rfl | simp only [noHs, noH, nI, bI, Bool.and_self, Bool.and_true, Bool.true_and, ]) (by first | rfl | simp only [noHs, noH, nI, bI, Bool.and_self, Bool.and_true, Bool.true_and, ]), ?_⟩; (conv => whnf); (try (refine ⟨by kernel_rfl, ?_⟩; conv => whnf))
    rw [w1, w2, w3]
    conv => whnf
    try (refine ⟨by kernel_rfl, ?_⟩; conv => whnf)
    refine ⟨_, ret_of_fn G0ok (pk1) (by first | rfl | simp only [noHs, noH, nI, bI, Bool.and_self, Bool.and_true, Bool.true_and, ]) (by first | rfl | simp only [noHs, noH, nI, bI, Bool.and_self, Bool.and_true, Bool.true_and, ]), ?_⟩; (conv => whnf); (try (refine ⟨by kernel_rfl, ?_⟩; conv => whnf))
    rw [w4, w5]
    conv => whnf
    try (refine ⟨by kernel_rfl, ?_⟩; conv => whnf)
    refine ⟨_, ret_of_fn G0ok (pk2) (by first | rfl | simp only [noHs, noH, nI, bI, Bool.and_self, Bool.and_true, Bool.true_and, ]) (by first | rfl | simp only [noHs, noH, nI, bI, Bool.and_self, Bool.and_true, Bool.true_and, ]), ?_⟩; (conv => whnf); (try (refine ⟨by kernel_rfl, ?_⟩; conv => whnf))
    refine ⟨_, ret_of_fn G0ok (sm) (by first | rfl | simp only [noHs, noH, nI, bI, Bool.and_self, Bool.and_true, Bool.true_and, bts_noHs]) (by first | rfl | simp only [noHs, noH, nI, bI, Bool.and_self, Bool.and_true, Bool.true_and, bts_noHs]), ?_⟩; (conv => whnf); (try (refine ⟨by kernel_rfl, ?_⟩; conv => whnf))
    refine ⟨_, ret_of_fn G0ok (r1) (by first | rfl | simp only [noHs, noH, nI, bI, Bool.and_self, Bool.and_true, Bool.true_and, noHs_append, words_noHs, bts_noHs, uC, uV, noHs, noH]) (by first | rfl | simp only [noHs, noH, nI, bI, Bool.and_self, Bool.and_true, Bool.true_and, noHs_append, words_noHs, bts_noHs, uC, uV, noHs, noH]), ?_⟩; (conv => whnf); (try (refine ⟨by kernel_rfl, ?_⟩; conv => whnf))
    refine ⟨_, ret_of_fn G0ok (st) (by first | rfl | simp only [noHs, noH, nI, bI, Bool.and_self, Bool.and_true, Bool.true_and, ]) (by first | rfl | simp only [noHs, noH, nI, bI, Bool.and_self, Bool.and_true, Bool.true_and, ]), ?_⟩; (conv => whnf); (try (refine ⟨by kernel_rfl, ?_⟩; conv => whnf))
    refine ⟨_, ret_of_fn G0ok (sm) (by first | rfl | simp only [noHs, noH, nI, bI, Bool.and_self, Bool.and_true, Bool.true_and, bts_noHs]) (by first | rfl | simp only [noHs, noH, nI, bI, Bool.and_self, Bool.and_true, Bool.true_and, bts_noHs]), ?_⟩; (conv => whnf); (try (refine ⟨by kernel_rfl, ?_⟩; conv => whnf))
    refine ⟨_, ret_of_fn G0ok (r2) (by first | rfl | simp only [noHs, noH, nI, bI, Bool.and_self, Bool.and_true, Bool.true_and, noHs_append, words_noHs, bts_noHs, uC, uV, noHs, noH]) (by first | rfl | simp only [noHs, noH, nI, bI, Bool.and_self, Bool.and_true, Bool.true_and, noHs_append, words_noHs, bts_noHs, uC, uV, noHs, noH]), ?_⟩; (conv => whnf); (try (refine ⟨by kernel_rfl, ?_⟩; conv => whnf))
    exact ⟨_, rfl, rfl⟩
namespace lawRecoverRight
set_option linter.unusedVariables false
set_option maxRecDepth 100000 in
theorem lifted (os : Os) (started : os.Started) (H : Type) (enc : TypeId × Value → H) :
    ReturnsInHanded {} Try.checked os 3 .any (Rows.recoverRightSpec.pre6 enc Try.prog Try.f3 Rows.recoverRightRow.domain false) (Rows.recoverRightSpec.post enc Try.prog Try.f3 false true false false) := by
  refine returnsInHanded_of_change (C := Try.checked) rowOwn started (by kernel_rfl) Try.func3
    (ChangeSpec.witness6 (enc := enc) (C := Try.checked) false ⟨#[], #[.int .i64 0, .agg #[.int .i64 0, .int .i64 0, .int .i64 0, .string ByteArray.empty], .int .i64 0, .int .i64 0, .int .i64 0], []⟩ 8 (by kernel_rfl) (by kernel_rfl) (by kernel_rfl) (by kernel_rfl)) ?_
  intro W base args ds gs before hval0 hW hcnd _
  have hval : ∀ (j : Nat) t v, Try.f3.params[j]? = some t → args[j]? = some v → Value.okWide Try.prog W .any base t v := hval0
  have hW' := hW
  obtain ⟨p, q, hA0, hV, rfl, hfz, hnd⟩ := hW
  have hA : DataW.TrodAll enc Try.prog W 0 (fun _ => true) true Try.f3.params.toList args.toList ds p := hA0
  rw [Try.params3] at hA hval
  obtain ⟨v0, vs0, d0, ds0, p0, q0, hargs, rfl, rfl, h0, r0⟩ := trodAll_cons hA
  obtain ⟨v1, vs1, d1, ds1, p1, q1, rfl, rfl, rfl, h1, r1⟩ := trodAll_cons r0
  obtain ⟨v2, vs2, d2, ds2, p2, q2, rfl, rfl, rfl, h2, r2⟩ := trodAll_cons r1
  obtain ⟨v3, vs3, d3, ds3, p3, q3, rfl, rfl, rfl, h3, r3⟩ := trodAll_cons r2
  obtain ⟨v4, vs4, d4, ds4, p4, q4, rfl, rfl, rfl, h4, r4⟩ := trodAll_cons r3
  obtain ⟨rfl, rfl, rfl⟩ := trodAll_nil r4
  obtain rfl : args = #[v0, v1, v2, v3, v4] := by cases args; simp_all
  obtain ⟨rfl, rfl⟩ := trodVars_none hV
  obtain ⟨a0, rfl, rfl, rfl, w0⟩ := open_int Try.underlying3 (hval 0 3 v0 rfl rfl) h0
  have k1 := h1
  have lt1 : ∀ x ∈ p1, x.block < W.heap.size := by obtain ⟨m, hm⟩ := k1; exact DataW.trod_lt m _ _ _ hm
  obtain ⟨a1, w1, u1⟩ := raw_open (hval 1 23 v1 rfl rfl) h1
  obtain ⟨a2, rfl, rfl, rfl, w2⟩ := open_int Try.underlying3 (hval 2 3 v2 rfl rfl) h2
  obtain ⟨a3, rfl, rfl, rfl, w3⟩ := open_int Try.underlying3 (hval 3 3 v3 rfl rfl) h3
  obtain ⟨a4, rfl, rfl, rfl, w4⟩ := open_int Try.underlying3 (hval 4 3 v4 rfl rfl) h4
  clear hA0 hval0
  refine (calls_of_fn Try.func3 (by kernel_rfl) rfl (fnRecoverRight a0 a1 a2 a3 a4 (bounds_i64 w0) w1 (bounds_i64 w2) (bounds_i64 w3) (bounds_i64 w4)) (fun _ _ h => by cases h) (VRs.cons rfl (VRs.cons (u1 _) (VRs.cons rfl (VRs.cons rfl (VRs.cons rfl VRs.snoc_nil)))))).mono fun e W' ⟨he, bel⟩ => ?_
  subst he
  exact ⟨_, rfl, _, _, _, [], _, [], hW', trodAll_mk1 (shut_bool Try.underlying4 _), (trodAll_cons_mk (shut_int Try.underlying3 w0) (trodAll_cons_mk (Below.trod rowLaid (by kernel_rfl) (of_decide_eq_true (by kernel_rfl)) k1 bel lt1) (trodAll_cons_mk (shut_int Try.underlying3 w2) (trodAll_cons_mk (shut_int Try.underlying3 w3) (trodAll_cons_mk (shut_int Try.underlying3 w4) trodAll_mk0))))), rfl, bel.frame _, fun h => by cases h⟩
theorem over : Rows.recoverRightRow.holds Try.pinned (OpenSpec.ofChange Rows.recoverRightSpec) :=
  OpenClaim.holds_of_wide 3 Try.f3 rfl rfl rfl rfl rfl rfl rfl ⟨rfl, rfl, rfl, rfl, rfl⟩ rfl rfl rfl rfl rfl (by kernel_rfl) Try.func3 (by kernel_rfl)
    (of_decide_eq_true (by kernel_rfl)) (by unfold Func.isWrapper; first | (rw [if_pos (by decide +kernel)]; kernel_rfl) | (rw [if_neg (by decide +kernel)]; exact ⟨rfl, rfl⟩))
    (fun os started H enc _ => lifted os started H enc)
theorem proved : Rows.RecoverRightSaid := over
end lawRecoverRight

end Go.Proofs.Ytidkdlaihmpjfaa
