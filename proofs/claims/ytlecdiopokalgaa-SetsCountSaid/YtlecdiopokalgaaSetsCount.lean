/- SetsCount: a set counts till a day after the next one came, and the last one always; its keys stay. -/
import Derived.Test.YtlecdiopokalgaaVTurned
import Derived.Test.YtlecdiopokalgaaBUc
namespace Go.Proofs.Ytlecdiopokalgaa
set_option linter.unusedVariables false
set_option linter.unusedSimpArgs false
set_option linter.unusedSectionVars false
open Go.ChangeShapes Go.WideShapes Go.ChangeAt Go.RowKit Go.Joins
set_option maxRecDepth 10000
theorem intsA_ix {A : List Nat} {i j : Nat} (hj : j = i) (h : i < A.length) : (intsA A)[j]? = some (nI .i64 ((A[i] : Nat) : Int)) := by
  subst hj
  unfold intsA
  rw [List.getElem?_map, List.getElem?_eq_getElem h]
  rfl
theorem fnSetsCount (l : List RawD) (w k : Int) (hl : l.length ≤ maxLen) (hok : ∀ r ∈ l, r.ok) (_ : I64 w) (_ : I64 k) : FnV Try.prog G0 5 [.ds false l.length (rawsC l), nI .i64 w, nI .i64 k] (bI true) := by
  have td := turned_fn hl hok _ rfl
  have h7 : (l.take 7).length ≤ 7 := by rw [List.length_take]; exact Nat.min_le_left _ _
  have ok := turnS_ok (l.take 7) h7 _ (Nat.le_refl _)
  refine gen_ex (l.take 7).length fun j ej => ?_
  rw [← ej] at h7 ok td
  refine gen_ex (turnS (l.take 7) j) fun p ep => ?_
  rw [← ep] at ok td
  clear ep ej
  have nR : noHs (rawsC l) = true := rawsC_noHs _
  have nP : noHs (rows SetD.cells p.L) = true := rows_noHs setD_noHs _
  have nA : noHs (intsA p.A) = true := intsA_noHs _
  have ck := scheck_fn (f := false) ok.sets
  obtain ⟨i, hi⟩ : ∃ i : Nat, w % ((j + 1 : Nat) : Int) = (i : Int) := ⟨(w % ((j + 1 : Nat) : Int)).toNat, by have := Int.emod_nonneg w (show ((j + 1 : Nat) : Int) ≠ 0 by omega); omega⟩
  have hi2 : i < j + 1 := by have := Int.emod_lt_of_pos w (show (0 : Int) < ((j + 1 : Nat) : Int) by omega); omega
  obtain ⟨n, hn⟩ : ∃ n : Nat, k % 500 = (n : Int) := ⟨(k % 500).toNat, by have := Int.emod_nonneg k (show (500 : Int) ≠ 0 by decide); omega⟩
  have hn2 : n < 500 := by have := Int.emod_lt_of_pos k (show (0 : Int) < 500 by decide); omega
  have pl := ok.len
  have pa := ok.alen
  have lv := slive_fn (f := false) (i := i) (now := n) ok.sets (by omega) (by omega)
  have ln := slive_none (f := false) (n := p.L.length) (now := n) ok.sets (Nat.le_refl _) (by omega) (by omega)
  have hiL : i < p.L.length := by omega
  obtain ⟨tl, ek⟩ := ok.keys i hiL
  have ix := ok.sets.index i (by omega)
  have la := ok.sets.last i (by omega)
  have lm := (ok.sets.keys _ (List.getElem_mem (show i < p.L.length by omega))).most
  have kl := (ok.sets.keys _ (List.getElem_mem (show i < p.L.length by omega))).len
  have ti : ∀ (h' : i < p.A.length), (p.L[i]'hiL).till = p.A[i]'h' + 24 := fun h' => ok.till i hiL h'
  refine gen_ex (p.L[i]'(by omega)) fun s es => ?_
  rw [← es] at lv ek ix la ti lm kl
  clear es
  have k0 : s.keys[0]'(by rw [ek]; exact Nat.succ_pos _) = keyA (i + 1) 0 := by simp [ek]
  have kp : 0 < s.keys.length := by rw [ek]; exact Nat.succ_pos _
  have eqk := eq_key (l := keyA (i + 1) 0) (m := keyA (i + 1) 0) rfl rfl
  rw [decide_eq_true rfl] at eqk
  have nS : noHs s.cells = true := setD_noHs s
  by_cases hj : i < j
  · have t := ti (by omega)
    have le : p.A[i]'(by omega) ≤ 1000 := by
      have := ok.last _ (List.getElem_mem (show i < p.A.length by omega))
      have := ok.n2
      omega
    by_cases hh : p.A[i]'(by omega) + 24 ≤ n
    · rw [if_pos ⟨by omega, by omega⟩] at lv
      refine fn_of_vwp Γok Try.func5 (by kernel_rfl) rfl (by simp [Try.ntmps5]) (wpv_ok Γok (by kernel_rfl) _ _ _ ?_); conv => whnf
      refine ⟨_, ret_of_fn G0ok (td) (by first | rfl | simp only [noHs, noH, nI, bI, Bool.and_self, Bool.and_true, Bool.true_and, nR, nP, nA]) (by first | rfl | simp only [noHs, noH, nI, bI, Bool.and_self, Bool.and_true, Bool.true_and, nR, nP, nA]), ?_⟩; (conv => whnf); (try (refine ⟨by kernel_rfl, ?_⟩; conv => whnf))
      rw [pa, ws_i64 (x := (j : Int) + 1) (by omega) (by omega), show (j : Int) + 1 = ((j + 1 : Nat) : Int) from rfl]
      refine ⟨_, ret_of_fn G0ok (picked_fn w ((j + 1 : Nat) : Int) (by omega) (by omega)) (by first | rfl | simp only [noHs, noH, nI, bI, Bool.and_self, Bool.and_true, Bool.true_and, ]) (by first | rfl | simp only [noHs, noH, nI, bI, Bool.and_self, Bool.and_true, Bool.true_and, ]), ?_⟩; (conv => whnf); (try (refine ⟨by kernel_rfl, ?_⟩; conv => whnf))
      rw [hi]
      refine ⟨_, ret_of_fn G0ok (picked_fn k 500 (by decide) (by decide)) (by first | rfl | simp only [noHs, noH, nI, bI, Bool.and_self, Bool.and_true, Bool.true_and, ]) (by first | rfl | simp only [noHs, noH, nI, bI, Bool.and_self, Bool.and_true, Bool.true_and, ]), ?_⟩; (conv => whnf); (try (refine ⟨by kernel_rfl, ?_⟩; conv => whnf))
      rw [hn]
      refine ⟨_, ret_of_fn G0ok (lv) (by first | rfl | simp only [noHs, noH, nI, bI, Bool.and_self, Bool.and_true, Bool.true_and, nP]) (by first | rfl | simp only [noHs, noH, nI, bI, Bool.and_self, Bool.and_true, Bool.true_and, nP]), ?_⟩; (conv => whnf); (try (refine ⟨by kernel_rfl, ?_⟩; conv => whnf))
      refine ⟨_, ret_of_fn G0ok (ln) (by first | rfl | simp only [noHs, noH, nI, bI, Bool.and_self, Bool.and_true, Bool.true_and, nP]) (by first | rfl | simp only [noHs, noH, nI, bI, Bool.and_self, Bool.and_true, Bool.true_and, nP]), ?_⟩; (conv => whnf); (try (refine ⟨by kernel_rfl, ?_⟩; conv => whnf))
      refine ⟨_, ret_of_fn G0ok (ck) (by first | rfl | simp only [noHs, noH, nI, bI, Bool.and_self, Bool.and_true, Bool.true_and, nP]) (by first | rfl | simp only [noHs, noH, nI, bI, Bool.and_self, Bool.and_true, Bool.true_and, nP]), ?_⟩; (conv => whnf); (try (refine ⟨by kernel_rfl, ?_⟩; conv => whnf))
      rw [decide_eq_true (show (i : Int) < (j : Int) by omega)]
      conv => whnf
      try (refine ⟨by kernel_rfl, ?_⟩; conv => whnf)
      refine bindP_intro (if_pos (inB_ok (by omega) (by omega))) ?_; conv => whnf
      refine bindP_intro (intsA_ix (i := i) (by dsimp only; omega) (by omega)) ?_
      conv => whnf
      try (refine ⟨by kernel_rfl, ?_⟩; conv => whnf)
      rw [ws_i64 (x := ((p.A[i]'(by omega) : Nat) : Int) + 24) (by omega) (by omega)]
      rw [decide_eq_true (show (n : Int) ≥ ((p.A[i]'(by omega) : Nat) : Int) + 24 by omega)]
      conv => whnf
      try (refine ⟨by kernel_rfl, ?_⟩; conv => whnf)
      exact ⟨_, rfl, rfl⟩
    · rw [if_neg (by omega)] at lv
      refine fn_of_vwp Γok Try.func5 (by kernel_rfl) rfl (by simp [Try.ntmps5]) (wpv_ok Γok (by kernel_rfl) _ _ _ ?_); conv => whnf
      refine ⟨_, ret_of_fn G0ok (td) (by first | rfl | simp only [noHs, noH, nI, bI, Bool.and_self, Bool.and_true, Bool.true_and, nR, nP, nA]) (by first | rfl | simp only [noHs, noH, nI, bI, Bool.and_self, Bool.and_true, Bool.true_and, nR, nP, nA]), ?_⟩; (conv => whnf); (try (refine ⟨by kernel_rfl, ?_⟩; conv => whnf))
      rw [pa, ws_i64 (x := (j : Int) + 1) (by omega) (by omega), show (j : Int) + 1 = ((j + 1 : Nat) : Int) from rfl]
      refine ⟨_, ret_of_fn G0ok (picked_fn w ((j + 1 : Nat) : Int) (by omega) (by omega)) (by first | rfl | simp only [noHs, noH, nI, bI, Bool.and_self, Bool.and_true, Bool.true_and, ]) (by first | rfl | simp only [noHs, noH, nI, bI, Bool.and_self, Bool.and_true, Bool.true_and, ]), ?_⟩; (conv => whnf); (try (refine ⟨by kernel_rfl, ?_⟩; conv => whnf))
      rw [hi]
      refine ⟨_, ret_of_fn G0ok (picked_fn k 500 (by decide) (by decide)) (by first | rfl | simp only [noHs, noH, nI, bI, Bool.and_self, Bool.and_true, Bool.true_and, ]) (by first | rfl | simp only [noHs, noH, nI, bI, Bool.and_self, Bool.and_true, Bool.true_and, ]), ?_⟩; (conv => whnf); (try (refine ⟨by kernel_rfl, ?_⟩; conv => whnf))
      rw [hn]
      refine ⟨_, ret_of_fn G0ok (lv) (by first | rfl | simp only [noHs, noH, nI, bI, Bool.and_self, Bool.and_true, Bool.true_and, nP, nS]) (by first | rfl | simp only [noHs, noH, nI, bI, Bool.and_self, Bool.and_true, Bool.true_and, nP, nS]), ?_⟩; (conv => whnf); (try (refine ⟨by kernel_rfl, ?_⟩; conv => whnf))
      refine ⟨_, ret_of_fn G0ok (ln) (by first | rfl | simp only [noHs, noH, nI, bI, Bool.and_self, Bool.and_true, Bool.true_and, nP]) (by first | rfl | simp only [noHs, noH, nI, bI, Bool.and_self, Bool.and_true, Bool.true_and, nP]), ?_⟩; (conv => whnf); (try (refine ⟨by kernel_rfl, ?_⟩; conv => whnf))
      refine ⟨_, ret_of_fn G0ok (ck) (by first | rfl | simp only [noHs, noH, nI, bI, Bool.and_self, Bool.and_true, Bool.true_and, nP]) (by first | rfl | simp only [noHs, noH, nI, bI, Bool.and_self, Bool.and_true, Bool.true_and, nP]), ?_⟩; (conv => whnf); (try (refine ⟨by kernel_rfl, ?_⟩; conv => whnf))
      rw [decide_eq_true (show (i : Int) < (j : Int) by omega)]
      conv => whnf
      try (refine ⟨by kernel_rfl, ?_⟩; conv => whnf)
      refine bindP_intro (if_pos (inB_ok (by omega) (by omega))) ?_; conv => whnf
      refine bindP_intro (intsA_ix (i := i) (by dsimp only; omega) (by omega)) ?_
      conv => whnf
      try (refine ⟨by kernel_rfl, ?_⟩; conv => whnf)
      rw [ws_i64 (x := ((p.A[i]'(by omega) : Nat) : Int) + 24) (by omega) (by omega)]
      rw [decide_eq_false (show ¬ (n : Int) ≥ ((p.A[i]'(by omega) : Nat) : Int) + 24 by omega)]
      conv => whnf
      try (refine ⟨by kernel_rfl, ?_⟩; conv => whnf)
      rw [show (((s.index : Nat) : Int) == (i : Int)) = decide (s.index = i) from beq_lit _ _, decide_eq_true ix]
      conv => whnf
      try (refine ⟨by kernel_rfl, ?_⟩; conv => whnf)
      rw [decide_eq_true (show ((s.keys.length : Nat) : Int) > 0 by omega)]
      conv => whnf
      try (refine ⟨by kernel_rfl, ?_⟩; conv => whnf)
      refine bindP_intro (if_pos (inB_ok (by omega) (by omega))) ?_; conv => whnf
      refine bindP_intro (row_load (i := 0) (w := 20) rfl rfl rfl (fun a ha => by rw [bts_length, kl a ha]) (by dsimp only; omega) (by omega)) ?_
      conv => whnf
      try (refine ⟨by kernel_rfl, ?_⟩; conv => whnf)
      rw [k0, ws_i64 (x := (i : Int) + 1) (by omega) (by omega), show wS .u8 ((i : Int) + 1) = ((i + 1 : Nat) : Int) from by rw [ws_u8]; omega]
      conv => whnf
      try (refine ⟨by kernel_rfl, ?_⟩; conv => whnf)
      refine ⟨true, eqk, ?_⟩
      conv => whnf
      try (refine ⟨by kernel_rfl, ?_⟩; conv => whnf)
      exact ⟨_, rfl, rfl⟩
  · rw [if_neg (fun hh => hh.1 (la.2 (by omega)))] at lv
    refine fn_of_vwp Γok Try.func5 (by kernel_rfl) rfl (by simp [Try.ntmps5]) (wpv_ok Γok (by kernel_rfl) _ _ _ ?_); conv => whnf
    refine ⟨_, ret_of_fn G0ok (td) (by first | rfl | simp only [noHs, noH, nI, bI, Bool.and_self, Bool.and_true, Bool.true_and, nR, nP, nA]) (by first | rfl | simp only [noHs, noH, nI, bI, Bool.and_self, Bool.and_true, Bool.true_and, nR, nP, nA]), ?_⟩; (conv => whnf); (try (refine ⟨by kernel_rfl, ?_⟩; conv => whnf))
    rw [pa, ws_i64 (x := (j : Int) + 1) (by omega) (by omega), show (j : Int) + 1 = ((j + 1 : Nat) : Int) from rfl]
    refine ⟨_, ret_of_fn G0ok (picked_fn w ((j + 1 : Nat) : Int) (by omega) (by omega)) (by first | rfl | simp only [noHs, noH, nI, bI, Bool.and_self, Bool.and_true, Bool.true_and, ]) (by first | rfl | simp only [noHs, noH, nI, bI, Bool.and_self, Bool.and_true, Bool.true_and, ]), ?_⟩; (conv => whnf); (try (refine ⟨by kernel_rfl, ?_⟩; conv => whnf))
    rw [hi]
    refine ⟨_, ret_of_fn G0ok (picked_fn k 500 (by decide) (by decide)) (by first | rfl | simp only [noHs, noH, nI, bI, Bool.and_self, Bool.and_true, Bool.true_and, ]) (by first | rfl | simp only [noHs, noH, nI, bI, Bool.and_self, Bool.and_true, Bool.true_and, ]), ?_⟩; (conv => whnf); (try (refine ⟨by kernel_rfl, ?_⟩; conv => whnf))
    rw [hn]
    refine ⟨_, ret_of_fn G0ok (lv) (by first | rfl | simp only [noHs, noH, nI, bI, Bool.and_self, Bool.and_true, Bool.true_and, nP, nS]) (by first | rfl | simp only [noHs, noH, nI, bI, Bool.and_self, Bool.and_true, Bool.true_and, nP, nS]), ?_⟩; (conv => whnf); (try (refine ⟨by kernel_rfl, ?_⟩; conv => whnf))
    refine ⟨_, ret_of_fn G0ok (ln) (by first | rfl | simp only [noHs, noH, nI, bI, Bool.and_self, Bool.and_true, Bool.true_and, nP]) (by first | rfl | simp only [noHs, noH, nI, bI, Bool.and_self, Bool.and_true, Bool.true_and, nP]), ?_⟩; (conv => whnf); (try (refine ⟨by kernel_rfl, ?_⟩; conv => whnf))
    refine ⟨_, ret_of_fn G0ok (ck) (by first | rfl | simp only [noHs, noH, nI, bI, Bool.and_self, Bool.and_true, Bool.true_and, nP]) (by first | rfl | simp only [noHs, noH, nI, bI, Bool.and_self, Bool.and_true, Bool.true_and, nP]), ?_⟩; (conv => whnf); (try (refine ⟨by kernel_rfl, ?_⟩; conv => whnf))
    rw [decide_eq_false (show ¬ (i : Int) < (j : Int) by omega)]
    conv => whnf
    try (refine ⟨by kernel_rfl, ?_⟩; conv => whnf)
    rw [show (((s.index : Nat) : Int) == (i : Int)) = decide (s.index = i) from beq_lit _ _, decide_eq_true ix]
    conv => whnf
    try (refine ⟨by kernel_rfl, ?_⟩; conv => whnf)
    rw [decide_eq_true (show ((s.keys.length : Nat) : Int) > 0 by omega)]
    conv => whnf
    try (refine ⟨by kernel_rfl, ?_⟩; conv => whnf)
    refine bindP_intro (if_pos (inB_ok (by omega) (by omega))) ?_; conv => whnf
    refine bindP_intro (row_load (i := 0) (w := 20) rfl rfl rfl (fun a ha => by rw [bts_length, kl a ha]) (by dsimp only; omega) (by omega)) ?_
    conv => whnf
    try (refine ⟨by kernel_rfl, ?_⟩; conv => whnf)
    rw [k0, ws_i64 (x := (i : Int) + 1) (by omega) (by omega), show wS .u8 ((i : Int) + 1) = ((i + 1 : Nat) : Int) from by rw [ws_u8]; omega]
    conv => whnf
    try (refine ⟨by kernel_rfl, ?_⟩; conv => whnf)
    refine ⟨true, eqk, ?_⟩
    conv => whnf
    try (refine ⟨by kernel_rfl, ?_⟩; conv => whnf)
    exact ⟨_, rfl, rfl⟩
namespace lawSetsCount
set_option linter.unusedVariables false
set_option maxRecDepth 100000 in
theorem lifted (os : Os) (started : os.Started) (H : Type) (enc : TypeId × Value → H) :
    ReturnsInHanded {} Try.checked os 5 .any (Rows.setsCountSpec.pre6 enc Try.prog Try.f5 Rows.setsCountRow.domain false) (Rows.setsCountSpec.post enc Try.prog Try.f5 false true false false) := by
  refine returnsInHanded_of_change (C := Try.checked) rowOwn started (by kernel_rfl) Try.func5
    (ChangeSpec.witness6 (enc := enc) (C := Try.checked) false ⟨#[], #[.slice none 0 0, .int .i64 0, .int .i64 0], []⟩ 8 (by kernel_rfl) (by kernel_rfl) (by kernel_rfl) (by kernel_rfl)) ?_
  intro W base args ds gs before hval0 hW hcnd _
  have hval : ∀ (j : Nat) t v, Try.f5.params[j]? = some t → args[j]? = some v → Value.okWide Try.prog W .any base t v := hval0
  have hW' := hW
  obtain ⟨p, q, hA0, hV, rfl, hfz, hnd⟩ := hW
  have hA : DataW.TrodAll enc Try.prog W 0 (fun _ => true) true Try.f5.params.toList args.toList ds p := hA0
  rw [Try.params5] at hA hval
  obtain ⟨v0, vs0, d0, ds0, p0, q0, hargs, rfl, rfl, h0, r0⟩ := trodAll_cons hA
  obtain ⟨v1, vs1, d1, ds1, p1, q1, rfl, rfl, rfl, h1, r1⟩ := trodAll_cons r0
  obtain ⟨v2, vs2, d2, ds2, p2, q2, rfl, rfl, rfl, h2, r2⟩ := trodAll_cons r1
  obtain ⟨rfl, rfl, rfl⟩ := trodAll_nil r2
  obtain rfl : args = #[v0, v1, v2] := by cases args; simp_all
  obtain ⟨rfl, rfl⟩ := trodVars_none hV
  have k0 := h0
  have lt0 : ∀ x ∈ p0, x.block < W.heap.size := by obtain ⟨m, hm⟩ := k0; exact DataW.trod_lt m _ _ _ hm
  obtain ⟨a0, l0, w0, u0⟩ := raws_open (hval 0 22 v0 rfl rfl) h0
  obtain ⟨a1, rfl, rfl, rfl, w1⟩ := open_int Try.underlying3 (hval 1 3 v1 rfl rfl) h1
  obtain ⟨a2, rfl, rfl, rfl, w2⟩ := open_int Try.underlying3 (hval 2 3 v2 rfl rfl) h2
  clear hA0 hval0
  refine (calls_of_fn Try.func5 (by kernel_rfl) rfl (fnSetsCount a0 a1 a2 l0 w0 (bounds_i64 w1) (bounds_i64 w2)) (fun _ _ h => by cases h) (VRs.cons u0 (VRs.cons rfl (VRs.cons rfl VRs.snoc_nil)))).mono fun e W' ⟨he, bel⟩ => ?_
  subst he
  exact ⟨_, rfl, _, _, _, [], _, [], hW', trodAll_mk1 (shut_bool Try.underlying4 _), (trodAll_cons_mk (Below.trod rowLaid (by kernel_rfl) (of_decide_eq_true (by kernel_rfl)) k0 bel lt0) (trodAll_cons_mk (shut_int Try.underlying3 w1) (trodAll_cons_mk (shut_int Try.underlying3 w2) trodAll_mk0))), rfl, bel.frame _, fun h => by cases h⟩
theorem over : Rows.setsCountRow.holds Try.pinned (OpenSpec.ofChange Rows.setsCountSpec) :=
  OpenClaim.holds_of_wide 5 Try.f5 rfl rfl rfl rfl rfl rfl rfl ⟨rfl, rfl, rfl, rfl, rfl⟩ rfl rfl rfl rfl rfl (by kernel_rfl) Try.func5 (by kernel_rfl)
    (of_decide_eq_true (by kernel_rfl)) (by unfold Func.isWrapper; first | (rw [if_pos (by decide +kernel)]; kernel_rfl) | (rw [if_neg (by decide +kernel)]; exact ⟨rfl, rfl⟩))
    (fun os started H enc _ => lifted os started H enc)
theorem proved : Rows.SetsCountSaid := over
end lawSetsCount

end Go.Proofs.Ytlecdiopokalgaa
