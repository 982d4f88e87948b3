/- Sets of keys, by the engine. -/
import Derived.Test.YtlecdiopokalgaaBUa
import Derived.Test.YtlecdiopokalgaaBUc
namespace Go.Proofs.Ytlecdiopokalgaa
set_option linter.unusedVariables false
set_option linter.unusedSimpArgs false
set_option linter.unusedSectionVars false
open Go.ChangeShapes Go.WideShapes Go.ChangeAt Go.RowKit Go.Joins
set_option maxRecDepth 10000
theorem eq_key {l m : List Nat} (hl : l.length = 20) (hm : m.length = 20) : EqAgg Try.prog .eql 60 (bts l) (bts m) (decide (l = m)) := by
  have h := eqAgg_ints (k := .u8) Γok (t := 60) (e := 5) Try.underlying60 rfl rfl rfl Try.underlying5 (by kernel_rfl) (l.map fun (x : Nat) => (x : Int)) (m.map fun (x : Nat) => (x : Int)) (by simpa using hl) (by simpa using hm)
  rw [← bts_map, ← bts_map] at h
  rw [show decide (l = m) = decide ((l.map fun (x : Nat) => (x : Int)) = m.map fun (x : Nat) => (x : Int)) from decide_eq_decide.2 (map_cast_eq _ _).symm]
  exact h
/-- Keys that may be: some, not too many, no two the same. -/
structure KeysOk (L : List (List Nat)) : Prop where
  some : 1 ≤ L.length
  most : L.length ≤ 19
  len : ∀ k ∈ L, k.length = 20
  ne : ∀ (i j : Nat) (hi : i < L.length) (hj : j < i), L[i] ≠ L[j]
theorem keysOk_len {L : List (List Nat)} (h : KeysOk L) : ∀ k ∈ L, (bts k).length = 20 := fun k hk => by rw [bts_length, h.len k hk]
theorem keys_fn {f : Bool} {L : List (List Nat)} (h : KeysOk L) : FnV Try.prog G0 56 [.ds f L.length (rows bts L)] (nI .i64 0) := by
  have h1 := h.some
  have h19 := h.most
  have kl := keysOk_len h
  refine fn_of_vwp Γok Try.func56 (by kernel_rfl) rfl (by simp [Try.ntmps56]) (wpv_ok Γok (by kernel_rfl) _ _ _ ?_); conv => whnf
  rw [decide_eq_false (show ¬ ((L.length : Nat) : Int) < 1 by omega)]
  conv => whnf
  try (refine ⟨by kernel_rfl, ?_⟩; conv => whnf)
  rw [decide_eq_false (show ¬ ((L.length : Nat) : Int) > 19 by omega)]
  conv => whnf
  try (refine ⟨by kernel_rfl, ?_⟩; conv => whnf)
  have nB' : noHs (rows bts L) = true := rows_noHs bts_noHs L
  refine vloop_invK G0ok [] 0 (X := Nat) (fun i => [(17, nI .i64 i), (16, nI .i64 L.length), (15, .ds f L.length (rows bts L)), (2, nI .i64 0), (0, .ds f L.length (rows bts L))]) (fun _ => []) (fun i => i ≤ L.length) (fun i => L.length - i) 0 rfl
    ⟨⟨_, rfl, conv_nI (rfl)⟩, ⟨_, rfl, conv_nI (rfl)⟩, ⟨_, rfl, conv_eq rfl (nB')⟩, ⟨_, rfl, conv_nI (rfl)⟩, ⟨_, rfl, conv_eq rfl (nB')⟩, trivial⟩ trivial (Nat.zero_le _) ?_
  intro i hi
  try dsimp only at hi
  try dsimp only
  refine wpv_ok Γok (by kernel_rfl) _ _ _ ?_; conv => whnf
  refine bool_cases (fun hc => ?_) (fun hc => ?_)
  · have hc := of_decide_eq_true hc
    have hc : i < L.length := by omega
    have hk := kl _ (List.getElem_mem hc)
    conv => whnf
    try (refine ⟨by kernel_rfl, ?_⟩; conv => whnf)
    refine bindP_intro (if_pos (inB_ok (by omega) (by omega))) ?_; conv => whnf
    refine bindP_intro (row_load (i := i) (w := 20) rfl rfl rfl kl (by dsimp only; omega) hc) ?_
    conv => whnf
    try (refine ⟨by kernel_rfl, ?_⟩; conv => whnf)
    refine onlyIf_intro (by rw [hk]; rfl) ?_
    rw [splice_all (by rw [hk]; rfl)]
    conv => whnf
    try (refine ⟨by kernel_rfl, ?_⟩; conv => whnf)
    refine bindP_intro (vpure_slice (vslice_rows (f := bts) (w := 20) rfl rfl kl rfl (by rfl) vb_nat (Nat.zero_le _) hi)) ?_
    conv => whnf
    try (refine ⟨by kernel_rfl, ?_⟩; conv => whnf)
    have eM : (L.drop 0).take (i - 0) = L.take i := rfl
    have lM : (L.take i).length = i := by rw [List.length_take]; omega
    have km : ∀ k ∈ L.take i, (bts k).length = 20 := fun k hk => kl k (List.mem_of_mem_take hk)
    have nM : noHs (rows bts (L.take i)) = true := rows_noHs bts_noHs _
    refine vloop_invK G0ok [(0, some 0)] 1 (X := Nat) (fun j => [(26, nI .i64 j), (25, nI .i64 i), (24, .ds (f && decide (i = L.length)) i (rows bts (L.take i))), (17, nI .i64 i), (16, nI .i64 L.length), (15, .ds f L.length (rows bts L)), (4, .ptr 0 0), (2, nI .i64 0), (0, .ds f L.length (rows bts L))]) (fun _ => [(0, some (bts L[i]))]) (fun j => j ≤ i) (fun j => i - j) 0 rfl
      ⟨⟨_, rfl, conv_nI (rfl)⟩, ⟨_, rfl, conv_nI (congrArg (fun (n : Nat) => (n : Int)) lM)⟩, ⟨_, rfl, conv_eq (by rw [eM, lM]) (nM)⟩, ⟨_, rfl, conv_nI (rfl)⟩, ⟨_, rfl, conv_nI (rfl)⟩, ⟨_, rfl, conv_eq rfl (nB')⟩, ⟨_, rfl, .ptr rfl⟩, ⟨_, rfl, conv_nI (rfl)⟩, ⟨_, rfl, conv_eq rfl (nB')⟩, trivial⟩ ⟨.inr ⟨_, _, rfl, rfl, convs_eq rfl (bts_noHs _)⟩, trivial⟩ (Nat.zero_le _) ?_
    intro j hj
    try dsimp only at hj
    try dsimp only
    refine wpv_ok Γok (by kernel_rfl) _ _ _ ?_; conv => whnf
    refine bool_cases (fun hd => ?_) (fun hd => ?_)
    · have hd := of_decide_eq_true hd
      have hd : j < i := by omega
      have eq := eq_key (h.len _ (List.getElem_mem hc)) (h.len _ (List.getElem_mem (show j < L.length by omega)))
      rw [decide_eq_false (h.ne i j hc hd)] at eq
      have kj := kl _ (List.getElem_mem (show j < L.length by omega))
      have gj : (L.take i)[j]'(by omega) = L[j] := List.getElem_take
      conv => whnf
      try (refine ⟨by kernel_rfl, ?_⟩; conv => whnf)
      refine bindP_intro (if_pos (inB_ok (by omega) (by omega))) ?_; conv => whnf
      refine bindP_intro (row_load (i := j) (w := 20) rfl rfl rfl km (by dsimp only; omega) (by omega)) ?_
      rw [gj]
      conv => whnf
      try (refine ⟨by kernel_rfl, ?_⟩; conv => whnf)
      refine onlyIf_intro (by rw [kj]; rfl) ?_
      rw [splice_all (by rw [kj]; rfl)]
      conv => whnf
      try (refine ⟨by kernel_rfl, ?_⟩; conv => whnf)
      refine bindP_intro (load_agg rfl rfl hk) ?_
      conv => whnf
      try (refine ⟨by kernel_rfl, ?_⟩; conv => whnf)
      refine bindP_intro (load_agg rfl rfl kj) ?_
      conv => whnf
      try (refine ⟨by kernel_rfl, ?_⟩; conv => whnf)
      refine ⟨_, eq, ?_⟩
      conv => whnf
      try (refine ⟨by kernel_rfl, ?_⟩; conv => whnf)
      refine next_round (y := j) G0ok (j + 1) [(0, some 0)] rfl ⟨⟨_, rfl, conv_nI (ws_i64 (by omega) (by omega))⟩, ⟨_, rfl, conv_nI (rfl)⟩, ⟨_, rfl, conv_eq rfl (nM)⟩, ⟨_, rfl, conv_nI (rfl)⟩, ⟨_, rfl, conv_nI (rfl)⟩, ⟨_, rfl, conv_eq rfl (nB')⟩, ⟨_, rfl, .ptr rfl⟩, ⟨_, rfl, conv_nI (rfl)⟩, ⟨_, rfl, conv_eq rfl (nB')⟩, trivial⟩ ⟨.inr ⟨_, _, rfl, rfl, convs_eq rfl (bts_noHs _)⟩, trivial⟩ (by omega) (by omega)
    · conv => whnf
      try (refine ⟨by kernel_rfl, ?_⟩; conv => whnf)
      refine next_round (y := i) G0ok (i + 1) [] rfl ⟨⟨_, rfl, conv_nI (ws_i64 (by omega) (by omega))⟩, ⟨_, rfl, conv_nI (rfl)⟩, ⟨_, rfl, conv_eq rfl (nB')⟩, ⟨_, rfl, conv_nI (rfl)⟩, ⟨_, rfl, conv_eq rfl (nB')⟩, trivial⟩ trivial (by omega) (by omega)
  · conv => whnf
    try (refine ⟨by kernel_rfl, ?_⟩; conv => whnf)
    exact ⟨_, rfl, rfl⟩
end Go.Proofs.Ytlecdiopokalgaa
