/- CoinGives: what one gives another has, nobody else has more or less, and there is as much as there was. -/
import Derived.Test.YtlecdiopokalgaaBUe
import Derived.Test.YtlecdiopokalgaaBUc
import Derived.Test.YtlecdiopokalgaaVEqH
import Derived.Test.YtlecdiopokalgaaVCmp
namespace Go.Proofs.Ytlecdiopokalgaa
set_option linter.unusedVariables false
set_option linter.unusedSimpArgs false
set_option linter.unusedSectionVars false
open Go.ChangeShapes Go.WideShapes Go.ChangeAt Go.RowKit Go.Joins
set_option maxRecDepth 10000
theorem eq_who {a b : List Nat} (ha : a.length = 32) (hb : b.length = 32) : EqAgg Try.prog .eql 26 (bts a) (bts b) (decide (a = b)) ∧ EqAgg Try.prog .neq 26 (bts a) (bts b) (!decide (a = b)) := by
  rw [bts_v, bts_v]
  refine eqAgg_of (by kernel_rfl) fun w => ?_
  exact equal_nats (k := .u8) Γok (t := 26) (e := 5) Try.underlying26 rfl rfl rfl Try.underlying5 a b ha hb 9998 w
theorem of_move {M : List HoD} {w v z : List Nat} {n : Nat} (k : HolOk M) (hw : WhoOk w) (hv : WhoOk v) :
    ofM (moveS M w v n) z = if v = z then (if w = v then ofM M w - n else ofM M v) + n else if w = z then ofM M w - n else ofM M z := by
  unfold moveS mintS burnS
  rw [of_with _ _ _ _ (with_ok k hw) hv]
  simp only [of_with M _ _ _ k hw]
theorem fnCoinGives (l : List RawD) (from' to' n' other : Int) (hl : l.length ≤ maxLen) (hok : ∀ r ∈ l, r.ok) (_ : I64 from') (_ : I64 to') (_ : I64 n') (_ : I64 other) : FnV Try.prog G0 11 [.ds false l.length (rawsC l), nI .i64 from', nI .i64 to', nI .i64 n', nI .i64 other] (bI true) := by
  obtain ⟨f, mi⟩ := minted_fn hl hok _ rfl
  have h20 : (l.take 20).length ≤ 20 := by rw [List.length_take]; omega
  have ok := minF_ok (l.take 20) _ (Nat.le_refl _)
  refine gen_ex (l.take 20).length fun j ej => ?_
  rw [← ej] at h20 ok mi
  refine gen_ex (minF (l.take 20) j) fun M eM => ?_
  rw [← eM] at ok mi
  have nR : noHs (rawsC l) = true := rawsC_noHs _
  have okS := ok.sum
  have okL := ok.len
  have T0 : (10000 : Nat) < T256 := by decide
  have wf := who_fn from'
  have hw := whoB_ok (whoR_lt from')
  refine gen_ex (whoB (whoR from')) fun w ew => ?_
  rw [← ew] at wf hw
  have vf := who_fn to'
  have hv := whoB_ok (whoR_lt to')
  refine gen_ex (whoB (whoR to')) fun v ev => ?_
  rw [← ev] at vf hv
  have zf := who_fn other
  have hz := whoB_ok (whoR_lt other)
  refine gen_ex (whoB (whoR other)) fun z ez => ?_
  rw [← ez] at zf hz
  obtain ⟨n, hn⟩ : ∃ n : Nat, n' % 100 = (n : Int) := ⟨(n' % 100).toNat, by have := Int.emod_nonneg n' (show (100 : Int) ≠ 0 by decide); omega⟩
  have hn2 : n < 100 := by have := Int.emod_lt_of_pos n' (show (0 : Int) < 100 by decide); omega
  have pk := picked_fn n' 100 (by decide) (by decide)
  rw [hn] at pk
  have uv : uV n = .agg (words [n, 0, 0, 0]) := congrArg VV.agg (uC_lit (n := n) (by unfold B64; omega))
  have o1 := cOf_fn (f := f) ok.hol (by omega) (by omega) hw
  have o2 := cOf_fn (f := f) ok.hol (by omega) (by omega) hv
  have o3 := cOf_fn (f := f) ok.hol (by omega) (by omega) hz
  have l1 := of_le M w
  have l2 := of_le M v
  have l3 := of_le M z
  have cp := cmp_fn (a := ofM M w) (b := n) (by omega) (by omega)
  rw [uv] at cp
  have nM : noHs (rows HoD.cells M) = true := rows_noHs hoD_noHs M
  by_cases hb : n ≤ ofM M w
  · have mf := move_fn (f := f) ok.hol (by omega) (by omega) hw hv hb
    rw [cmpN_def, if_neg (show ¬ ofM M w < n by omega)] at cp
    have m1 := burn_sum (n := n) ok.hol hw hb
    have m2 := mint_sum (M := burnS M w n) (w := v) (n := n) (with_ok ok.hol hw) hv
    have m3 : sumM (moveS M w v n) = sumM M := by unfold moveS; omega
    have m4 := with_len_burn M w (ofM M w - n) ok.hol hw (Nat.sub_le _ _)
    have m5 := with_len (burnS M w n) v (ofM (burnS M w n) v + n)
    have holD : HolOk (moveS M w v n) := with_ok (with_ok ok.hol hw) hv
    have lenD : (moveS M w v n).length ≤ 40 := by
      show (withM (burnS M w n) v _).length ≤ 40
      unfold burnS at m5 ⊢
      omega
    have d1 := cOf_fn (f := false) holD lenD (by omega) hw
    have d2 := cOf_fn (f := false) holD lenD (by omega) hv
    have d3 := cOf_fn (f := false) holD lenD (by omega) hz
    rw [of_move ok.hol hw hv] at d1 d2 d3
    have nD : noHs (rows HoD.cells (moveS M w v n)) = true := rows_noHs hoD_noHs _
    rw [m3] at mf d1 d2 d3
    refine gen_ex (moveS M w v n) fun D eD => ?_
    rw [← eD] at mf d1 d2 d3 nD
    have x1 : (if v = w then (if w = v then ofM M w - n else ofM M v) + n else if w = w then ofM M w - n else ofM M w) = if w = v then ofM M w else ofM M w - n := by
      by_cases e : w = v
      · subst e; simp; omega
      · rw [if_neg (fun h => e h.symm), if_pos rfl, if_neg e]
    have x2 : (if v = v then (if w = v then ofM M w - n else ofM M v) + n else if w = v then ofM M w - n else ofM M v) = if w = v then ofM M w else ofM M v + n := by
      by_cases e : w = v
      · subst e; simp; omega
      · simp [e]
    have x3 : ¬ z = w → ¬ z = v → (if v = z then (if w = v then ofM M w - n else ofM M v) + n else if w = z then ofM M w - n else ofM M z) = ofM M z := fun h1 h2 => by
      rw [if_neg (fun h => h2 h.symm), if_neg (fun h => h1 h.symm)]
    rw [x1] at d1
    rw [x2] at d2
    refine gen_ex (if v = z then (if w = v then ofM M w - n else ofM M v) + n else if w = z then ofM M w - n else ofM M z) fun P eP => ?_
    rw [← eP] at x3 d3
    clear eP
    refine gen_ex (if w = v then ofM M w else ofM M w - n) fun X eX => ?_
    rw [← eX] at d1
    refine gen_ex (if w = v then ofM M w else ofM M v + n) fun Y eY => ?_
    rw [← eY] at d2
    clear x1 x2
    rw [uv] at mf
    have q0 := (eq_who hw.1 hv.1).1
    have q1 := (eq_who hz.1 hw.1).2
    have q2 := (eq_who hz.1 hv.1).2
    have eqs := eq_uC (a := sumM M) (b := sumM M) (by omega) (by omega)
    rw [decide_eq_true rfl] at eqs
    have cp : FnV Try.prog G0 39 [uV (ofM M w), .agg (words [n, 0, 0, 0])] (nI .i64 (if n < ofM M w then 1 else 0)) := cp
    have cp0 : ¬ (if n < ofM M w then (1 : Int) else 0) < 0 := by split <;> omega
    refine gen_ex (if n < ofM M w then (1 : Int) else 0) fun c ec => ?_
    rw [← ec] at cp cp0
    have sb := sub_fn (a := ofM M w) (b := n) (by omega) (by omega)
    rw [subS_def, subO_def, show ofM M w + T256 - n = (ofM M w - n) + T256 by omega, Nat.add_mod_right, Nat.mod_eq_of_lt (show ofM M w - n < T256 by omega), decide_eq_false (show ¬ ofM M w < n by omega), uv] at sb
    have ad := add_fn (a := ofM M v) (b := n) (by omega) (by omega)
    rw [addS_def, addO_def, Nat.mod_eq_of_lt (show ofM M v + n < T256 by omega), decide_eq_false (show ¬ T256 ≤ ofM M v + n by omega), uv] at ad
    have eL := eq_uC (a := ofM M w - n) (b := ofM M w - n) (by omega) (by omega)
    have eR := eq_uC (a := ofM M v + n) (b := ofM M v + n) (by omega) (by omega)
    have eA := eq_uC (a := ofM M w) (b := ofM M w) (by omega) (by omega)
    have eZ := ne_uC (a := ofM M z) (b := ofM M z) (by omega) (by omega)
    rw [decide_eq_true rfl] at eL eR eA eZ
    unfold coinC uV at *
    refine fn_of_vwp Γok Try.func11 (by kernel_rfl) rfl (by simp [Try.ntmps11]) (wpv_ok Γok (by kernel_rfl) _ _ _ ?_); conv => whnf
    refine ⟨_, ret_of_fn G0ok (mi) (by first | rfl | simp only [noHs, noH, nI, bI, Bool.and_self, Bool.and_true, Bool.true_and, nR, nM]) (by first | rfl | simp only [noHs, noH, nI, bI, Bool.and_self, Bool.and_true, Bool.true_and, nR, nM]), ?_⟩; (conv => whnf); (try (refine ⟨by kernel_rfl, ?_⟩; conv => whnf))
    refine ⟨_, ret_of_fn G0ok (pk) (by first | rfl | simp only [noHs, noH, nI, bI, Bool.and_self, Bool.and_true, Bool.true_and, ]) (by first | rfl | simp only [noHs, noH, nI, bI, Bool.and_self, Bool.and_true, Bool.true_and, ]), ?_⟩; (conv => whnf); (try (refine ⟨by kernel_rfl, ?_⟩; conv => whnf))
    rw [ws_u64n (x := (n : Int)) (by omega) (by omega)]
    conv => whnf
    try (refine ⟨by kernel_rfl, ?_⟩; conv => whnf)
    refine ⟨_, ret_of_fn G0ok (wf) (by first | rfl | simp only [noHs, noH, nI, bI, Bool.and_self, Bool.and_true, Bool.true_and, bts_noHs]) (by first | rfl | simp only [noHs, noH, nI, bI, Bool.and_self, Bool.and_true, Bool.true_and, bts_noHs]), ?_⟩; (conv => whnf); (try (refine ⟨by kernel_rfl, ?_⟩; conv => whnf))
    refine ⟨_, ret_of_fn G0ok (o1) (by first | rfl | simp only [noHs, noH, nI, bI, Bool.and_self, Bool.and_true, Bool.true_and, bts_noHs, words_noHs, nM]) (by first | rfl | simp only [noHs, noH, nI, bI, Bool.and_self, Bool.and_true, Bool.true_and, bts_noHs, words_noHs, nM]), ?_⟩; (conv => whnf); (try (refine ⟨by kernel_rfl, ?_⟩; conv => whnf))
    refine ⟨_, ret_of_fn G0ok (vf) (by first | rfl | simp only [noHs, noH, nI, bI, Bool.and_self, Bool.and_true, Bool.true_and, bts_noHs]) (by first | rfl | simp only [noHs, noH, nI, bI, Bool.and_self, Bool.and_true, Bool.true_and, bts_noHs]), ?_⟩; (conv => whnf); (try (refine ⟨by kernel_rfl, ?_⟩; conv => whnf))
    refine ⟨_, ret_of_fn G0ok (o2) (by first | rfl | simp only [noHs, noH, nI, bI, Bool.and_self, Bool.and_true, Bool.true_and, bts_noHs, words_noHs, nM]) (by first | rfl | simp only [noHs, noH, nI, bI, Bool.and_self, Bool.and_true, Bool.true_and, bts_noHs, words_noHs, nM]), ?_⟩; (conv => whnf); (try (refine ⟨by kernel_rfl, ?_⟩; conv => whnf))
    refine ⟨_, ret_of_fn G0ok (zf) (by first | rfl | simp only [noHs, noH, nI, bI, Bool.and_self, Bool.and_true, Bool.true_and, bts_noHs]) (by first | rfl | simp only [noHs, noH, nI, bI, Bool.and_self, Bool.and_true, Bool.true_and, bts_noHs]), ?_⟩; (conv => whnf); (try (refine ⟨by kernel_rfl, ?_⟩; conv => whnf))
    refine ⟨_, ret_of_fn G0ok (o3) (by first | rfl | simp only [noHs, noH, nI, bI, Bool.and_self, Bool.and_true, Bool.true_and, bts_noHs, words_noHs, nM]) (by first | rfl | simp only [noHs, noH, nI, bI, Bool.and_self, Bool.and_true, Bool.true_and, bts_noHs, words_noHs, nM]), ?_⟩; (conv => whnf); (try (refine ⟨by kernel_rfl, ?_⟩; conv => whnf))
    refine ⟨_, ret_of_fn G0ok (wf) (by first | rfl | simp only [noHs, noH, nI, bI, Bool.and_self, Bool.and_true, Bool.true_and, bts_noHs]) (by first | rfl | simp only [noHs, noH, nI, bI, Bool.and_self, Bool.and_true, Bool.true_and, bts_noHs]), ?_⟩; (conv => whnf); (try (refine ⟨by kernel_rfl, ?_⟩; conv => whnf))
    refine ⟨_, ret_of_fn G0ok (vf) (by first | rfl | simp only [noHs, noH, nI, bI, Bool.and_self, Bool.and_true, Bool.true_and, bts_noHs]) (by first | rfl | simp only [noHs, noH, nI, bI, Bool.and_self, Bool.and_true, Bool.true_and, bts_noHs]), ?_⟩; (conv => whnf); (try (refine ⟨by kernel_rfl, ?_⟩; conv => whnf))
    refine ⟨_, ret_of_fn G0ok (mf) (by first | rfl | simp only [noHs, noH, nI, bI, Bool.and_self, Bool.and_true, Bool.true_and, bts_noHs, words_noHs, nM, nD]) (by first | rfl | simp only [noHs, noH, nI, bI, Bool.and_self, Bool.and_true, Bool.true_and, bts_noHs, words_noHs, nM, nD]), ?_⟩; (conv => whnf); (try (refine ⟨by kernel_rfl, ?_⟩; conv => whnf))
    refine ⟨_, ret_of_fn G0ok (cp) (by first | rfl | simp only [noHs, noH, nI, bI, Bool.and_self, Bool.and_true, Bool.true_and, words_noHs]) (by first | rfl | simp only [noHs, noH, nI, bI, Bool.and_self, Bool.and_true, Bool.true_and, words_noHs]), ?_⟩; (conv => whnf); (try (refine ⟨by kernel_rfl, ?_⟩; conv => whnf))
    rw [decide_eq_false cp0]
    conv => whnf
    try (refine ⟨by kernel_rfl, ?_⟩; conv => whnf)
    refine ⟨_, ret_of_fn G0ok (wf) (by first | rfl | simp only [noHs, noH, nI, bI, Bool.and_self, Bool.and_true, Bool.true_and, bts_noHs]) (by first | rfl | simp only [noHs, noH, nI, bI, Bool.and_self, Bool.and_true, Bool.true_and, bts_noHs]), ?_⟩; (conv => whnf); (try (refine ⟨by kernel_rfl, ?_⟩; conv => whnf))
    refine ⟨_, ret_of_fn G0ok (d1) (by first | rfl | simp only [noHs, noH, nI, bI, Bool.and_self, Bool.and_true, Bool.true_and, bts_noHs, words_noHs, nD]) (by first | rfl | simp only [noHs, noH, nI, bI, Bool.and_self, Bool.and_true, Bool.true_and, bts_noHs, words_noHs, nD]), ?_⟩; (conv => whnf); (try (refine ⟨by kernel_rfl, ?_⟩; conv => whnf))
    refine ⟨_, ret_of_fn G0ok (vf) (by first | rfl | simp only [noHs, noH, nI, bI, Bool.and_self, Bool.and_true, Bool.true_and, bts_noHs]) (by first | rfl | simp only [noHs, noH, nI, bI, Bool.and_self, Bool.and_true, Bool.true_and, bts_noHs]), ?_⟩; (conv => whnf); (try (refine ⟨by kernel_rfl, ?_⟩; conv => whnf))
    refine ⟨_, ret_of_fn G0ok (d2) (by first | rfl | simp only [noHs, noH, nI, bI, Bool.and_self, Bool.and_true, Bool.true_and, bts_noHs, words_noHs, nD]) (by first | rfl | simp only [noHs, noH, nI, bI, Bool.and_self, Bool.and_true, Bool.true_and, bts_noHs, words_noHs, nD]), ?_⟩; (conv => whnf); (try (refine ⟨by kernel_rfl, ?_⟩; conv => whnf))
    refine ⟨_, ret_of_fn G0ok (zf) (by first | rfl | simp only [noHs, noH, nI, bI, Bool.and_self, Bool.and_true, Bool.true_and, bts_noHs]) (by first | rfl | simp only [noHs, noH, nI, bI, Bool.and_self, Bool.and_true, Bool.true_and, bts_noHs]), ?_⟩; (conv => whnf); (try (refine ⟨by kernel_rfl, ?_⟩; conv => whnf))
    refine ⟨_, ret_of_fn G0ok (d3) (by first | rfl | simp only [noHs, noH, nI, bI, Bool.and_self, Bool.and_true, Bool.true_and, bts_noHs, words_noHs, nD]) (by first | rfl | simp only [noHs, noH, nI, bI, Bool.and_self, Bool.and_true, Bool.true_and, bts_noHs, words_noHs, nD]), ?_⟩; (conv => whnf); (try (refine ⟨by kernel_rfl, ?_⟩; conv => whnf))
    refine ⟨_, ret_of_fn G0ok (wf) (by first | rfl | simp only [noHs, noH, nI, bI, Bool.and_self, Bool.and_true, Bool.true_and, bts_noHs]) (by first | rfl | simp only [noHs, noH, nI, bI, Bool.and_self, Bool.and_true, Bool.true_and, bts_noHs]), ?_⟩; (conv => whnf); (try (refine ⟨by kernel_rfl, ?_⟩; conv => whnf))
    refine ⟨_, ret_of_fn G0ok (vf) (by first | rfl | simp only [noHs, noH, nI, bI, Bool.and_self, Bool.and_true, Bool.true_and, bts_noHs]) (by first | rfl | simp only [noHs, noH, nI, bI, Bool.and_self, Bool.and_true, Bool.true_and, bts_noHs]), ?_⟩; (conv => whnf); (try (refine ⟨by kernel_rfl, ?_⟩; conv => whnf))
    refine ⟨_, q0, ?_⟩
    by_cases e1 : w = v
    · rw [decide_eq_true e1]
      conv => whnf
      try (refine ⟨by kernel_rfl, ?_⟩; conv => whnf)
      refine ⟨_, ret_of_fn G0ok (coinTells_fn) (by first | rfl | simp only [noHs, noH, nI, bI, Bool.and_self, Bool.and_true, Bool.true_and, ]) (by first | rfl | simp only [noHs, noH, nI, bI, Bool.and_self, Bool.and_true, Bool.true_and, ]), ?_⟩; (conv => whnf); (try (refine ⟨by kernel_rfl, ?_⟩; conv => whnf))
      rw [if_pos e1] at eX
      rw [← eX] at eA
      rw [← eX]
      refine ⟨true, eA, ?_⟩
      conv => whnf
      try (refine ⟨by kernel_rfl, ?_⟩; conv => whnf)
      refine ⟨true, eqs, ?_⟩
      conv => whnf
      try (refine ⟨by kernel_rfl, ?_⟩; conv => whnf)
      exact ⟨_, rfl, rfl⟩
    · rw [decide_eq_false e1]
      conv => whnf
      try (refine ⟨by kernel_rfl, ?_⟩; conv => whnf)
      refine ⟨_, ret_of_fn G0ok (sb) (by first | rfl | simp only [noHs, noH, nI, bI, Bool.and_self, Bool.and_true, Bool.true_and, ]) (by first | rfl | simp only [noHs, noH, nI, bI, Bool.and_self, Bool.and_true, Bool.true_and, ]), ?_⟩; (conv => whnf); (try (refine ⟨by kernel_rfl, ?_⟩; conv => whnf))
      refine ⟨_, ret_of_fn G0ok (ad) (by first | rfl | simp only [noHs, noH, nI, bI, Bool.and_self, Bool.and_true, Bool.true_and, ]) (by first | rfl | simp only [noHs, noH, nI, bI, Bool.and_self, Bool.and_true, Bool.true_and, ]), ?_⟩; (conv => whnf); (try (refine ⟨by kernel_rfl, ?_⟩; conv => whnf))
      rw [if_neg e1] at eX eY
      rw [← eX] at eL
      rw [← eX, ← eY]
      rw [← eY] at eR
      refine ⟨_, ret_of_fn G0ok (zf) (by first | rfl | simp only [noHs, noH, nI, bI, Bool.and_self, Bool.and_true, Bool.true_and, bts_noHs]) (by first | rfl | simp only [noHs, noH, nI, bI, Bool.and_self, Bool.and_true, Bool.true_and, bts_noHs]), ?_⟩; (conv => whnf); (try (refine ⟨by kernel_rfl, ?_⟩; conv => whnf))
      refine ⟨_, ret_of_fn G0ok (wf) (by first | rfl | simp only [noHs, noH, nI, bI, Bool.and_self, Bool.and_true, Bool.true_and, bts_noHs]) (by first | rfl | simp only [noHs, noH, nI, bI, Bool.and_self, Bool.and_true, Bool.true_and, bts_noHs]), ?_⟩; (conv => whnf); (try (refine ⟨by kernel_rfl, ?_⟩; conv => whnf))
      refine ⟨_, q1, ?_⟩
      by_cases e2 : z = w
      · rw [decide_eq_true e2]
        conv => whnf
        try (refine ⟨by kernel_rfl, ?_⟩; conv => whnf)
        refine ⟨_, ret_of_fn G0ok (coinTells_fn) (by first | rfl | simp only [noHs, noH, nI, bI, Bool.and_self, Bool.and_true, Bool.true_and, ]) (by first | rfl | simp only [noHs, noH, nI, bI, Bool.and_self, Bool.and_true, Bool.true_and, ]), ?_⟩; (conv => whnf); (try (refine ⟨by kernel_rfl, ?_⟩; conv => whnf))
        refine ⟨true, eL, ?_⟩
        conv => whnf
        try (refine ⟨by kernel_rfl, ?_⟩; conv => whnf)
        refine ⟨true, eR, ?_⟩
        conv => whnf
        try (refine ⟨by kernel_rfl, ?_⟩; conv => whnf)
        refine ⟨true, eqs, ?_⟩
        conv => whnf
        try (refine ⟨by kernel_rfl, ?_⟩; conv => whnf)
        exact ⟨_, rfl, rfl⟩
      · rw [decide_eq_false e2]
        conv => whnf
        try (refine ⟨by kernel_rfl, ?_⟩; conv => whnf)
        refine ⟨_, ret_of_fn G0ok (zf) (by first | rfl | simp only [noHs, noH, nI, bI, Bool.and_self, Bool.and_true, Bool.true_and, bts_noHs]) (by first | rfl | simp only [noHs, noH, nI, bI, Bool.and_self, Bool.and_true, Bool.true_and, bts_noHs]), ?_⟩; (conv => whnf); (try (refine ⟨by kernel_rfl, ?_⟩; conv => whnf))
        refine ⟨_, ret_of_fn G0ok (vf) (by first | rfl | simp only [noHs, noH, nI, bI, Bool.and_self, Bool.and_true, Bool.true_and, bts_noHs]) (by first | rfl | simp only [noHs, noH, nI, bI, Bool.and_self, Bool.and_true, Bool.true_and, bts_noHs]), ?_⟩; (conv => whnf); (try (refine ⟨by kernel_rfl, ?_⟩; conv => whnf))
        refine ⟨_, q2, ?_⟩
        by_cases e3 : z = v
        · rw [decide_eq_true e3]
          conv => whnf
          try (refine ⟨by kernel_rfl, ?_⟩; conv => whnf)
          refine ⟨_, ret_of_fn G0ok (coinTells_fn) (by first | rfl | simp only [noHs, noH, nI, bI, Bool.and_self, Bool.and_true, Bool.true_and, ]) (by first | rfl | simp only [noHs, noH, nI, bI, Bool.and_self, Bool.and_true, Bool.true_and, ]), ?_⟩; (conv => whnf); (try (refine ⟨by kernel_rfl, ?_⟩; conv => whnf))
          refine ⟨true, eL, ?_⟩
          conv => whnf
          try (refine ⟨by kernel_rfl, ?_⟩; conv => whnf)
          refine ⟨true, eR, ?_⟩
          conv => whnf
          try (refine ⟨by kernel_rfl, ?_⟩; conv => whnf)
          refine ⟨true, eqs, ?_⟩
          conv => whnf
          try (refine ⟨by kernel_rfl, ?_⟩; conv => whnf)
          exact ⟨_, rfl, rfl⟩
        · rw [decide_eq_false e3, x3 e2 e3]
          conv => whnf
          try (refine ⟨by kernel_rfl, ?_⟩; conv => whnf)
          refine ⟨_, eZ, ?_⟩
          conv => whnf
          try (refine ⟨by kernel_rfl, ?_⟩; conv => whnf)
          refine ⟨_, ret_of_fn G0ok (coinTells_fn) (by first | rfl | simp only [noHs, noH, nI, bI, Bool.and_self, Bool.and_true, Bool.true_and, ]) (by first | rfl | simp only [noHs, noH, nI, bI, Bool.and_self, Bool.and_true, Bool.true_and, ]), ?_⟩; (conv => whnf); (try (refine ⟨by kernel_rfl, ?_⟩; conv => whnf))
          refine ⟨true, eL, ?_⟩
          conv => whnf
          try (refine ⟨by kernel_rfl, ?_⟩; conv => whnf)
          refine ⟨true, eR, ?_⟩
          conv => whnf
          try (refine ⟨by kernel_rfl, ?_⟩; conv => whnf)
          refine ⟨true, eqs, ?_⟩
          conv => whnf
          try (refine ⟨by kernel_rfl, ?_⟩; conv => whnf)
          exact ⟨_, rfl, rfl⟩
  · have mf := move_over (f := f) (v := v) ok.hol (by omega) (by omega) hw (by omega) (show ofM M w < n by omega)
    rw [cmpN_lt (show ofM M w < n by omega)] at cp
    rw [zero_coin, uv] at mf
    unfold coinC uV at *
    refine fn_of_vwp Γok Try.func11 (by kernel_rfl) rfl (by simp [Try.ntmps11]) (wpv_ok Γok (by kernel_rfl) _ _ _ ?_); conv => whnf
    refine ⟨_, ret_of_fn G0ok (mi) (by first | rfl | simp only [noHs, noH, nI, bI, Bool.and_self, Bool.and_true, Bool.true_and, nR, nM]) (by first | rfl | simp only [noHs, noH, nI, bI, Bool.and_self, Bool.and_true, Bool.true_and, nR, nM]), ?_⟩; (conv => whnf); (try (refine ⟨by kernel_rfl, ?_⟩; conv => whnf))
    refine ⟨_, ret_of_fn G0ok (pk) (by first | rfl | simp only [noHs, noH, nI, bI, Bool.and_self, Bool.and_true, Bool.true_and, ]) (by first | rfl | simp only [noHs, noH, nI, bI, Bool.and_self, Bool.and_true, Bool.true_and, ]), ?_⟩; (conv => whnf); (try (refine ⟨by kernel_rfl, ?_⟩; conv => whnf))
    rw [ws_u64n (x := (n : Int)) (by omega) (by omega)]
    conv => whnf
    try (refine ⟨by kernel_rfl, ?_⟩; conv => whnf)
    refine ⟨_, ret_of_fn G0ok (wf) (by first | rfl | simp only [noHs, noH, nI, bI, Bool.and_self, Bool.and_true, Bool.true_and, bts_noHs]) (by first | rfl | simp only [noHs, noH, nI, bI, Bool.and_self, Bool.and_true, Bool.true_and, bts_noHs]), ?_⟩; (conv => whnf); (try (refine ⟨by kernel_rfl, ?_⟩; conv => whnf))
    refine ⟨_, ret_of_fn G0ok (o1) (by first | rfl | simp only [noHs, noH, nI, bI, Bool.and_self, Bool.and_true, Bool.true_and, bts_noHs, words_noHs, nM]) (by first | rfl | simp only [noHs, noH, nI, bI, Bool.and_self, Bool.and_true, Bool.true_and, bts_noHs, words_noHs, nM]), ?_⟩; (conv => whnf); (try (refine ⟨by kernel_rfl, ?_⟩; conv => whnf))
    refine ⟨_, ret_of_fn G0ok (vf) (by first | rfl | simp only [noHs, noH, nI, bI, Bool.and_self, Bool.and_true, Bool.true_and, bts_noHs]) (by first | rfl | simp only [noHs, noH, nI, bI, Bool.and_self, Bool.and_true, Bool.true_and, bts_noHs]), ?_⟩; (conv => whnf); (try (refine ⟨by kernel_rfl, ?_⟩; conv => whnf))
    refine ⟨_, ret_of_fn G0ok (o2) (by first | rfl | simp only [noHs, noH, nI, bI, Bool.and_self, Bool.and_true, Bool.true_and, bts_noHs, words_noHs, nM]) (by first | rfl | simp only [noHs, noH, nI, bI, Bool.and_self, Bool.and_true, Bool.true_and, bts_noHs, words_noHs, nM]), ?_⟩; (conv => whnf); (try (refine ⟨by kernel_rfl, ?_⟩; conv => whnf))
    refine ⟨_, ret_of_fn G0ok (zf) (by first | rfl | simp only [noHs, noH, nI, bI, Bool.and_self, Bool.and_true, Bool.true_and, bts_noHs]) (by first | rfl | simp only [noHs, noH, nI, bI, Bool.and_self, Bool.and_true, Bool.true_and, bts_noHs]), ?_⟩; (conv => whnf); (try (refine ⟨by kernel_rfl, ?_⟩; conv => whnf))
    refine ⟨_, ret_of_fn G0ok (o3) (by first | rfl | simp only [noHs, noH, nI, bI, Bool.and_self, Bool.and_true, Bool.true_and, bts_noHs, words_noHs, nM]) (by first | rfl | simp only [noHs, noH, nI, bI, Bool.and_self, Bool.and_true, Bool.true_and, bts_noHs, words_noHs, nM]), ?_⟩; (conv => whnf); (try (refine ⟨by kernel_rfl, ?_⟩; conv => whnf))
    refine ⟨_, ret_of_fn G0ok (wf) (by first | rfl | simp only [noHs, noH, nI, bI, Bool.and_self, Bool.and_true, Bool.true_and, bts_noHs]) (by first | rfl | simp only [noHs, noH, nI, bI, Bool.and_self, Bool.and_true, Bool.true_and, bts_noHs]), ?_⟩; (conv => whnf); (try (refine ⟨by kernel_rfl, ?_⟩; conv => whnf))
    refine ⟨_, ret_of_fn G0ok (vf) (by first | rfl | simp only [noHs, noH, nI, bI, Bool.and_self, Bool.and_true, Bool.true_and, bts_noHs]) (by first | rfl | simp only [noHs, noH, nI, bI, Bool.and_self, Bool.and_true, Bool.true_and, bts_noHs]), ?_⟩; (conv => whnf); (try (refine ⟨by kernel_rfl, ?_⟩; conv => whnf))
    refine ⟨_, ret_of_fn G0ok (mf) (by first | rfl | simp only [noHs, noH, nI, bI, Bool.and_self, Bool.and_true, Bool.true_and, bts_noHs, words_noHs, nM]) (by first | rfl | simp only [noHs, noH, nI, bI, Bool.and_self, Bool.and_true, Bool.true_and, bts_noHs, words_noHs, nM]), ?_⟩; (conv => whnf); (try (refine ⟨by kernel_rfl, ?_⟩; conv => whnf))
    refine ⟨_, ret_of_fn G0ok (cp) (by first | rfl | simp only [noHs, noH, nI, bI, Bool.and_self, Bool.and_true, Bool.true_and, words_noHs]) (by first | rfl | simp only [noHs, noH, nI, bI, Bool.and_self, Bool.and_true, Bool.true_and, words_noHs]), ?_⟩; (conv => whnf); (try (refine ⟨by kernel_rfl, ?_⟩; conv => whnf))
    refine ⟨_, ret_of_fn G0ok (coinTells_fn) (by first | rfl | simp only [noHs, noH, nI, bI, Bool.and_self, Bool.and_true, Bool.true_and, ]) (by first | rfl | simp only [noHs, noH, nI, bI, Bool.and_self, Bool.and_true, Bool.true_and, ]), ?_⟩; (conv => whnf); (try (refine ⟨by kernel_rfl, ?_⟩; conv => whnf))
    exact ⟨_, rfl, rfl⟩
namespace lawCoinGives
set_option linter.unusedVariables false
set_option maxRecDepth 100000 in
theorem lifted (os : Os) (started : os.Started) (H : Type) (enc : TypeId × Value → H) :
    ReturnsInHanded {} Try.checked os 11 .any (Rows.coinGivesSpec.pre6 enc Try.prog Try.f11 Rows.coinGivesRow.domain false) (Rows.coinGivesSpec.post enc Try.prog Try.f11 false true false false) := by
  refine returnsInHanded_of_change (C := Try.checked) rowOwn started (by kernel_rfl) Try.func11
    (ChangeSpec.witness6 (enc := enc) (C := Try.checked) false ⟨#[], #[.slice none 0 0, .int .i64 0, .int .i64 0, .int .i64 0, .int .i64 0], []⟩ 8 (by kernel_rfl) (by kernel_rfl) (by kernel_rfl) (by kernel_rfl)) ?_
  intro W base args ds gs before hval0 hW hcnd _
  have hval : ∀ (j : Nat) t v, Try.f11.params[j]? = some t → args[j]? = some v → Value.okWide Try.prog W .any base t v := hval0
  have hW' := hW
  obtain ⟨p, q, hA0, hV, rfl, hfz, hnd⟩ := hW
  have hA : DataW.TrodAll enc Try.prog W 0 (fun _ => true) true Try.f11.params.toList args.toList ds p := hA0
  rw [Try.params11] at hA hval
  obtain ⟨v0, vs0, d0, ds0, p0, q0, hargs, rfl, rfl, h0, r0⟩ := trodAll_cons hA
  obtain ⟨v1, vs1, d1, ds1, p1, q1, rfl, rfl, rfl, h1, r1⟩ := trodAll_cons r0
  obtain ⟨v2, vs2, d2, ds2, p2, q2, rfl, rfl, rfl, h2, r2⟩ := trodAll_cons r1
  obtain ⟨v3, vs3, d3, ds3, p3, q3, rfl, rfl, rfl, h3, r3⟩ := trodAll_cons r2
  obtain ⟨v4, vs4, d4, ds4, p4, q4, rfl, rfl, rfl, h4, r4⟩ := trodAll_cons r3
  obtain ⟨rfl, rfl, rfl⟩ := trodAll_nil r4
  obtain rfl : args = #[v0, v1, v2, v3, v4] := by cases args; simp_all
  obtain ⟨rfl, rfl⟩ := trodVars_none hV
  have k0 := h0
  have lt0 : ∀ x ∈ p0, x.block < W.heap.size := by obtain ⟨m, hm⟩ := k0; exact DataW.trod_lt m _ _ _ hm
  obtain ⟨a0, l0, w0, u0⟩ := raws_open (hval 0 22 v0 rfl rfl) h0
  obtain ⟨a1, rfl, rfl, rfl, w1⟩ := open_int Try.underlying3 (hval 1 3 v1 rfl rfl) h1
  obtain ⟨a2, rfl, rfl, rfl, w2⟩ := open_int Try.underlying3 (hval 2 3 v2 rfl rfl) h2
  obtain ⟨a3, rfl, rfl, rfl, w3⟩ := open_int Try.underlying3 (hval 3 3 v3 rfl rfl) h3
  obtain ⟨a4, rfl, rfl, rfl, w4⟩ := open_int Try.underlying3 (hval 4 3 v4 rfl rfl) h4
  clear hA0 hval0
  refine (calls_of_fn Try.func11 (by kernel_rfl) rfl (fnCoinGives a0 a1 a2 a3 a4 l0 w0 (bounds_i64 w1) (bounds_i64 w2) (bounds_i64 w3) (bounds_i64 w4)) (fun _ _ h => by cases h) (VRs.cons u0 (VRs.cons rfl (VRs.cons rfl (VRs.cons rfl (VRs.cons rfl VRs.snoc_nil)))))).mono fun e W' ⟨he, bel⟩ => ?_
  subst he
  exact ⟨_, rfl, _, _, _, [], _, [], hW', trodAll_mk1 (shut_bool Try.underlying4 _), (trodAll_cons_mk (Below.trod rowLaid (by kernel_rfl) (of_decide_eq_true (by kernel_rfl)) k0 bel lt0) (trodAll_cons_mk (shut_int Try.underlying3 w1) (trodAll_cons_mk (shut_int Try.underlying3 w2) (trodAll_cons_mk (shut_int Try.underlying3 w3) (trodAll_cons_mk (shut_int Try.underlying3 w4) trodAll_mk0))))), rfl, bel.frame _, fun h => by cases h⟩
theorem over : Rows.coinGivesRow.holds Try.pinned (OpenSpec.ofChange Rows.coinGivesSpec) :=
  OpenClaim.holds_of_wide 11 Try.f11 rfl rfl rfl rfl rfl rfl rfl ⟨rfl, rfl, rfl, rfl, rfl⟩ rfl rfl rfl rfl rfl (by kernel_rfl) Try.func11 (by kernel_rfl)
    (of_decide_eq_true (by kernel_rfl)) (by unfold Func.isWrapper; first | (rw [if_pos (by decide +kernel)]; kernel_rfl) | (rw [if_neg (by decide +kernel)]; exact ⟨rfl, rfl⟩))
    (fun os started H enc _ => lifted os started H enc)
theorem proved : Rows.CoinGivesSaid := over
end lawCoinGives

end Go.Proofs.Ytlecdiopokalgaa
