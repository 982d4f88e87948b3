/- LoadBack: a load is read as it was written; cut, it is none, but for the bytes behind a transfer. -/
import Derived.Test.YtilmfdlonpjjiaaBUd
namespace Go.Proofs.Ytilmfdlonpjjiaa
set_option linter.unusedVariables false
set_option linter.unusedSimpArgs false
set_option linter.unusedSectionVars false
open Go.ChangeShapes Go.WideShapes Go.ChangeAt Go.RowKit Go.Joins
set_option maxRecDepth 10000
theorem btsL_v (l : List Nat) : bts l = (wI .u8 l).map .v := by simp [bts, wI, nI]
theorem neq_key {l m : List Nat} (hl : l.length = 20) (hm : m.length = 20) : EqAgg Try.prog .neq 99 (bts l) (bts m) (!decide (l = m)) := by
  rw [btsL_v, btsL_v]
  exact (eqAgg_of (by kernel_rfl) fun w => equal_nats (k := .u8) Γok (t := 99) (e := 5) Try.underlying99 rfl rfl rfl Try.underlying5 l m hl hm 9998 w).2
theorem sameLoad_fn {C D : List VV} {l : LdD} {fd fk gd gk : Bool} (c : LdC C l fd fk) (d : LdC D l gd gk) (h1 : l.amt < T256) (h2 : l.fee < T256) (h3 : l.token.length = 32) (h4 : l.to.length = 32) (h5 : ∀ x ∈ l.data, x < 256) (h6 : l.keys.length ≤ 100) (h7 : ∀ k ∈ l.keys, k.length = 20) : FnV Try.prog G0 16 [.agg C, .agg D] (bI true) := by
  have e1 := eq_uC (a := l.amt) (b := l.amt) h1 h1
  have e2 := eq_uC (a := l.fee) (b := l.fee) h2 h2
  have e3 := eq_b32 (l := l.token) (m := l.token) h3 h3
  have e4 := eq_b32 (l := l.to) (m := l.to) h4 h4
  rw [decide_eq_true rfl] at e1 e2 e3 e4
  have es := str_eq (l.sym.map fun n => n.toUInt8) (l.sym.map fun n => n.toUInt8)
  rw [decide_eq_true rfl] at es
  have ed := str_eq (l.data.map fun n => n.toUInt8) (l.data.map fun n => n.toUInt8)
  rw [decide_eq_true rfl] at ed
  have nC := c.noHs
  have nD := d.noHs
  refine fn_of_vwp Γok Try.func16 (by kernel_rfl) rfl (by simp [Try.ntmps16]) (wpv_ok Γok (by kernel_rfl) _ _ _ ?_); conv => whnf
  refine bindP_intro c.keys ?_
  conv => whnf
  try (refine ⟨by kernel_rfl, ?_⟩; conv => whnf)
  refine bindP_intro d.keys ?_
  conv => whnf
  try (refine ⟨by kernel_rfl, ?_⟩; conv => whnf)
  rw [show (((l.keys.length : Nat) : Int) != ((l.keys.length : Nat) : Int)) = false from by rw [bne_lit, decide_eq_true rfl]; rfl]
  conv => whnf
  try (refine ⟨by kernel_rfl, ?_⟩; conv => whnf)
  refine bindP_intro c.keys ?_
  conv => whnf
  try (refine ⟨by kernel_rfl, ?_⟩; conv => whnf)
  have nK : noHs (rows bts l.keys) = true := rows_noHs bts_noHs _
  refine vloop_invK G0ok [(0, some 0), (1, some 1)] 2 (X := Nat) (fun i => [(16, nI .i64 i), (15, nI .i64 l.keys.length), (4, bI false), (3, .ptr 1 0), (2, .ptr 0 0)])
    (fun i => [(0, some C), (1, some D)]) (fun i => i ≤ l.keys.length) (fun i => l.keys.length - i) 0 rfl ⟨⟨_, rfl, conv_nI (rfl)⟩, ⟨_, rfl, conv_nI (rfl)⟩, ⟨_, rfl, .same rfl⟩, ⟨_, rfl, .ptr rfl⟩, ⟨_, rfl, .ptr rfl⟩, trivial⟩ ⟨.inr ⟨_, _, rfl, rfl, .same (nC)⟩, .inr ⟨_, _, rfl, rfl, .same (nD)⟩, trivial⟩ (Nat.zero_le _) ?_
  intro i hi
  try dsimp only at hi ⊢
  refine wpv_ok Γok (by kernel_rfl) _ _ _ ?_; conv => whnf
  refine bool_cases (fun hc => ?_) (fun hc => ?_)
  · have hc := of_decide_eq_true hc
    have hc : i < l.keys.length := by omega
    conv => whnf
    try (refine ⟨by kernel_rfl, ?_⟩; conv => whnf)
    refine bindP_intro c.keys ?_
    conv => whnf
    try (refine ⟨by kernel_rfl, ?_⟩; conv => whnf)
    refine bindP_intro (if_pos (inB_ok (by omega) (by omega))) ?_; conv => whnf
    refine bindP_intro (row_load (i := i) (w := 20) rfl rfl rfl (fun a ha => by rw [bts_length, h7 a ha]) (by dsimp only; omega) hc) ?_
    conv => whnf
    try (refine ⟨by kernel_rfl, ?_⟩; conv => whnf)
    refine bindP_intro d.keys ?_
    conv => whnf
    try (refine ⟨by kernel_rfl, ?_⟩; conv => whnf)
    refine bindP_intro (if_pos (inB_ok (by omega) (by omega))) ?_; conv => whnf
    refine bindP_intro (row_load (i := i) (w := 20) rfl rfl rfl (fun a ha => by rw [bts_length, h7 a ha]) (by dsimp only; omega) hc) ?_
    have kl := h7 _ (List.getElem_mem hc)
    conv => whnf
    try (refine ⟨by kernel_rfl, ?_⟩; conv => whnf)
    refine ⟨_, neq_key kl kl, ?_⟩
    rw [decide_eq_true rfl]
    conv => whnf
    try (refine ⟨by kernel_rfl, ?_⟩; conv => whnf)
    refine next_round (y := i) G0ok (i + 1) [(0, some 0), (1, some 1)] rfl ⟨⟨_, rfl, conv_nI (ws_i64 (by omega) (by omega))⟩, ⟨_, rfl, conv_nI (rfl)⟩, ⟨_, rfl, .same rfl⟩, ⟨_, rfl, .ptr rfl⟩, ⟨_, rfl, .ptr rfl⟩, trivial⟩ ⟨.inr ⟨_, _, rfl, rfl, .same (nC)⟩, .inr ⟨_, _, rfl, rfl, .same (nD)⟩, trivial⟩ (by omega) (by omega)
  · have hc := of_decide_eq_false hc
    have e : i = l.keys.length := by omega
    conv => whnf
    try (refine ⟨by kernel_rfl, ?_⟩; conv => whnf)
    refine bindP_intro c.kind ?_
    conv => whnf
    try (refine ⟨by kernel_rfl, ?_⟩; conv => whnf)
    refine bindP_intro d.kind ?_
    conv => whnf
    try (refine ⟨by kernel_rfl, ?_⟩; conv => whnf)
    rw [show (((l.kind : Nat) : Int) == ((l.kind : Nat) : Int)) = true from beq_self_eq_true _]
    conv => whnf
    try (refine ⟨by kernel_rfl, ?_⟩; conv => whnf)
    refine bindP_intro (load_sub (ds := uC l.amt) rfl rfl (by rw [c.len]; decide) c.amt) ?_
    conv => whnf
    try (refine ⟨by kernel_rfl, ?_⟩; conv => whnf)
    refine bindP_intro (load_sub (ds := uC l.amt) rfl rfl (by rw [d.len]; decide) d.amt) ?_
    conv => whnf
    try (refine ⟨by kernel_rfl, ?_⟩; conv => whnf)
    refine ⟨true, e1, ?_⟩
    conv => whnf
    try (refine ⟨by kernel_rfl, ?_⟩; conv => whnf)
    refine bindP_intro (load_sub (ds := uC l.fee) rfl rfl (by rw [c.len]; decide) c.fee) ?_
    conv => whnf
    try (refine ⟨by kernel_rfl, ?_⟩; conv => whnf)
    refine bindP_intro (load_sub (ds := uC l.fee) rfl rfl (by rw [d.len]; decide) d.fee) ?_
    conv => whnf
    try (refine ⟨by kernel_rfl, ?_⟩; conv => whnf)
    refine ⟨true, e2, ?_⟩
    conv => whnf
    try (refine ⟨by kernel_rfl, ?_⟩; conv => whnf)
    refine bindP_intro (load_sub (ds := bts l.token) rfl rfl (by rw [c.len]; decide) c.token) ?_
    conv => whnf
    try (refine ⟨by kernel_rfl, ?_⟩; conv => whnf)
    refine bindP_intro (load_sub (ds := bts l.token) rfl rfl (by rw [d.len]; decide) d.token) ?_
    conv => whnf
    try (refine ⟨by kernel_rfl, ?_⟩; conv => whnf)
    refine ⟨true, e3, ?_⟩
    conv => whnf
    try (refine ⟨by kernel_rfl, ?_⟩; conv => whnf)
    refine bindP_intro c.home ?_
    conv => whnf
    try (refine ⟨by kernel_rfl, ?_⟩; conv => whnf)
    refine bindP_intro d.home ?_
    conv => whnf
    try (refine ⟨by kernel_rfl, ?_⟩; conv => whnf)
    rw [show (((l.home : Nat) : Int) == ((l.home : Nat) : Int)) = true from beq_self_eq_true _]
    conv => whnf
    try (refine ⟨by kernel_rfl, ?_⟩; conv => whnf)
    refine bindP_intro (load_sub (ds := bts l.to) rfl rfl (by rw [c.len]; decide) c.to) ?_
    conv => whnf
    try (refine ⟨by kernel_rfl, ?_⟩; conv => whnf)
    refine bindP_intro (load_sub (ds := bts l.to) rfl rfl (by rw [d.len]; decide) d.to) ?_
    conv => whnf
    try (refine ⟨by kernel_rfl, ?_⟩; conv => whnf)
    refine ⟨true, e4, ?_⟩
    conv => whnf
    try (refine ⟨by kernel_rfl, ?_⟩; conv => whnf)
    refine bindP_intro c.toc ?_
    conv => whnf
    try (refine ⟨by kernel_rfl, ?_⟩; conv => whnf)
    refine bindP_intro d.toc ?_
    conv => whnf
    try (refine ⟨by kernel_rfl, ?_⟩; conv => whnf)
    rw [show (((l.toc : Nat) : Int) == ((l.toc : Nat) : Int)) = true from beq_self_eq_true _]
    conv => whnf
    try (refine ⟨by kernel_rfl, ?_⟩; conv => whnf)
    refine bindP_intro c.dec ?_
    conv => whnf
    try (refine ⟨by kernel_rfl, ?_⟩; conv => whnf)
    refine bindP_intro d.dec ?_
    conv => whnf
    try (refine ⟨by kernel_rfl, ?_⟩; conv => whnf)
    rw [show (((l.dec : Nat) : Int) == ((l.dec : Nat) : Int)) = true from beq_self_eq_true _]
    conv => whnf
    try (refine ⟨by kernel_rfl, ?_⟩; conv => whnf)
    refine bindP_intro c.sym ?_
    conv => whnf
    try (refine ⟨by kernel_rfl, ?_⟩; conv => whnf)
    refine bindP_intro d.sym ?_
    conv => whnf
    try (refine ⟨by kernel_rfl, ?_⟩; conv => whnf)
    rw [es]
    conv => whnf
    try (refine ⟨by kernel_rfl, ?_⟩; conv => whnf)
    refine bindP_intro c.data ?_
    conv => whnf
    try (refine ⟨by kernel_rfl, ?_⟩; conv => whnf)
    refine ⟨l.data.map fun n => n.toUInt8, (sym_cells h5).symm, (List.length_map _).symm, ?_⟩
    conv => whnf
    try (refine ⟨by kernel_rfl, ?_⟩; conv => whnf)
    refine bindP_intro d.data ?_
    conv => whnf
    try (refine ⟨by kernel_rfl, ?_⟩; conv => whnf)
    refine ⟨l.data.map fun n => n.toUInt8, (sym_cells h5).symm, (List.length_map _).symm, ?_⟩
    conv => whnf
    try (refine ⟨by kernel_rfl, ?_⟩; conv => whnf)
    rw [ed]
    conv => whnf
    try (refine ⟨by kernel_rfl, ?_⟩; conv => whnf)
    refine bindP_intro c.index ?_
    conv => whnf
    try (refine ⟨by kernel_rfl, ?_⟩; conv => whnf)
    refine bindP_intro d.index ?_
    conv => whnf
    try (refine ⟨by kernel_rfl, ?_⟩; conv => whnf)
    rw [show (((l.index : Nat) : Int) == ((l.index : Nat) : Int)) = true from beq_self_eq_true _]
    conv => whnf
    try (refine ⟨by kernel_rfl, ?_⟩; conv => whnf)
    exact ⟨_, rfl, rfl⟩
theorem ldDec_cut {l : LdD} (k : OkL l) {j : Nat} (hj : j < (ldPut l).length - l.data.length) : ldDec ((ldPut l).take j) = (4, ld0) := by
  cases j with
  | zero => rw [List.take_zero]; rfl
  | succ j =>
    unfold ldPut at hj ⊢
    rw [List.take_succ_cons]
    rw [List.length_cons] at hj
    show ldDec1 l.kind _ = _
    unfold ldDec1
    rcases k with k | k | k
    · have kk := k.kind
      have pl := ldPutT_len k.token k.to
      rw [if_neg (show ¬ l.kind = 2 by omega), if_neg (show ¬ l.kind = 4 by omega)] at hj ⊢
      rw [if_pos kk, if_pos (by rw [List.length_take]; omega)]
    · have kk := k.kind
      have pl := (ldGetM_put k).2
      rw [if_pos kk] at hj ⊢
      rw [if_neg (show ¬ (l.kind = 1 ∨ l.kind = 3) by omega), if_pos kk, if_pos (by rw [List.length_take]; omega)]
    · have kk := k.kind
      obtain ⟨p1, p2, p3⟩ := ldGetK_put k
      rw [if_neg (show ¬ l.kind = 2 by omega), if_pos kk] at hj ⊢
      rw [if_neg (show ¬ (l.kind = 1 ∨ l.kind = 3) by omega), if_neg (show ¬ l.kind = 2 by omega), if_pos kk, if_pos]
      rcases Nat.lt_or_ge j 5 with h5 | h5
      · left; rw [List.length_take]; omega
      · right
        have : ((ldPutK l).take j).getD 4 0 = (ldPutK l).getD 4 0 := by
          rw [List.getD_eq_getElem?_getD, List.getD_eq_getElem?_getD, List.getElem?_take_of_lt (by omega)]
        rw [this, p3, List.length_take]
        omega
theorem back_of {kind : Int} {x y : RawD} {l : List RawD} {at' : Int} {L : LdD} {fd fk : Bool} (ok : OkL L) (lo : FnV Try.prog G0 11 [nI .i64 kind, x.v, y.v, .ds false l.length (rawsC l)] (.agg (ldC fd fk L))) (hd : L.data.length ≤ 100) (hdb : ∀ x ∈ L.data, x < 256) (ha : L.amt < T256) (hf : L.fee < T256) (hk : L.keys.length ≤ 100) (hk2 : ∀ k ∈ L.keys, k.length = 20) : FnV Try.prog G0 3 [nI .i64 kind, x.v, y.v, .ds false l.length (rawsC l), nI .i64 at'] (bI true) := by
  have c := ldC_ok (fd := fd) (fk := fk) ok.lens.1 ok.lens.2
  have c2 := ldR_ok ok
  have cc := lcheck_all c ok
  have en := lenc_all c ok
  have pb := ldPut_bytes ok
  have pl := ldPut_len ok
  have d1 := ldec_fn (f := false) (b := ldPut L) pb (by omega)
  rw [ldDec_of ok] at d1
  unfold decV at d1
  rw [if_pos rfl] at d1
  have sm := sameLoad_fn c c2 ha hf ok.lens.1 ok.lens.2 hdb hk hk2
  have hpos : L.data.length < (ldPut L).length := by
    unfold ldPut
    rw [List.length_cons]
    rcases ok with k | k | k
    · have := k.kind
      have pl := ldPutT_len k.token k.to
      rw [if_neg (by omega), if_neg (by omega)]
      omega
    · rw [k.rest.2.2.2.2.1]; exact Nat.zero_lt_succ _
    · rw [k.rest.2.2.2.2.2.2.2.2]; exact Nat.zero_lt_succ _
  have pk := picked_fn at' (((ldPut L).length - L.data.length : Nat) : Int) (by omega) (by omega)
  obtain ⟨j, hj, lj⟩ : ∃ j : Nat, at' % (((ldPut L).length - L.data.length : Nat) : Int) = (j : Int) ∧ j < (ldPut L).length - L.data.length := ⟨(at' % (((ldPut L).length - L.data.length : Nat) : Int)).toNat, by have := Int.emod_nonneg at' (show (((ldPut L).length - L.data.length : Nat) : Int) ≠ 0 by omega); omega, by have := Int.emod_nonneg at' (show (((ldPut L).length - L.data.length : Nat) : Int) ≠ 0 by omega); have := Int.emod_lt_of_pos at' (show 0 < (((ldPut L).length - L.data.length : Nat) : Int) by omega); omega⟩
  rw [hj] at pk
  have cu := ldDec_cut ok lj
  have d2 := ldec_fn (f := false && decide (j = (ldPut L).length)) (b := (ldPut L).take j) (fun z hz => pb z (List.mem_of_mem_take hz)) (by rw [List.length_take]; omega)
  rw [cu] at d2
  unfold decV at d2
  rw [if_neg (by decide), noLd_eq] at d2
  have lC := c.len
  have nC := c.noHs
  have lD := c2.len
  have nD := c2.noHs
  have dt := c.data
  refine gen_ex (ldC fd fk L) fun C eC => ?_
  rw [← eC] at lo cc en sm lC nC dt
  clear eC c
  refine gen_ex (ldR L) fun D eD => ?_
  rw [← eD] at d1 sm lD nD
  clear eD c2
  refine gen_ex (ldPut L) fun E eE => ?_
  rw [← eE] at en pb pl d1 hpos pk lj d2
  clear eE cu hj
  unfold RawD.v RawD.cells at *
  refine fn_of_vwp Γok Try.func3 (by kernel_rfl) rfl (by simp [Try.ntmps3]) (wpv_ok Γok (by kernel_rfl) _ _ _ ?_); conv => whnf
  refine ⟨_, ret_of_fn G0ok (lo) (by first | rfl | simp only [noHs, noH, nI, bI, Bool.and_self, Bool.and_true, Bool.true_and, rawsC_noHs, nC]) (by first | rfl | simp only [noHs, noH, nI, bI, Bool.and_self, Bool.and_true, Bool.true_and, rawsC_noHs, nC]), ?_⟩; (conv => whnf); (try (refine ⟨by kernel_rfl, ?_⟩; conv => whnf))
  refine onlyIf_intro (by rw [lC]; rfl) ?_
  rw [splice_all (by rw [lC]; rfl)]
  conv => whnf
  try (refine ⟨by kernel_rfl, ?_⟩; conv => whnf)
  refine bindP_intro (load_agg rfl rfl lC) ?_
  conv => whnf
  try (refine ⟨by kernel_rfl, ?_⟩; conv => whnf)
  refine ⟨_, ret_of_fn G0ok (en) (by first | rfl | simp only [noHs, noH, nI, bI, Bool.and_self, Bool.and_true, Bool.true_and, bts_noHs, nC]) (by first | rfl | simp only [noHs, noH, nI, bI, Bool.and_self, Bool.and_true, Bool.true_and, bts_noHs, nC]), ?_⟩; (conv => whnf); (try (refine ⟨by kernel_rfl, ?_⟩; conv => whnf))
  refine ⟨_, ret_of_fn G0ok (d1) (by first | rfl | simp only [noHs, noH, nI, bI, Bool.and_self, Bool.and_true, Bool.true_and, bts_noHs, nD]) (by first | rfl | simp only [noHs, noH, nI, bI, Bool.and_self, Bool.and_true, Bool.true_and, bts_noHs, nD]), ?_⟩; (conv => whnf); (try (refine ⟨by kernel_rfl, ?_⟩; conv => whnf))
  refine onlyIf_intro (by rw [lD]; rfl) ?_
  rw [splice_all (by rw [lD]; rfl)]
  conv => whnf
  try (refine ⟨by kernel_rfl, ?_⟩; conv => whnf)
  refine bindP_intro dt ?_
  conv => whnf
  try (refine ⟨by kernel_rfl, ?_⟩; conv => whnf)
  rw [ws_i64 (x := (E.length : Int) - (L.data.length : Nat)) (by omega) (by omega)]
  conv => whnf
  try (refine ⟨by kernel_rfl, ?_⟩; conv => whnf)
  have hmx : (if (1 : Int) > (E.length : Int) - (L.data.length : Nat) then (1 : Int) else (E.length : Int) - (L.data.length : Nat)) = ((E.length - L.data.length : Nat) : Int) := by rw [if_neg (by omega)]; omega
  have pk2 := pk
  rw [← hmx] at pk2
  refine ⟨_, ret_of_fn G0ok (pk2) (by first | rfl | simp only [noHs, noH, nI, bI, Bool.and_self, Bool.and_true, Bool.true_and, ]) (by first | rfl | simp only [noHs, noH, nI, bI, Bool.and_self, Bool.and_true, Bool.true_and, ]), ?_⟩; (conv => whnf); (try (refine ⟨by kernel_rfl, ?_⟩; conv => whnf))
  refine bindP_intro (vpure_slice (vslice_bts rfl rfl rfl (by rfl) vb_nat (Nat.zero_le _) (by omega))) ?_
  conv => whnf
  try (refine ⟨by kernel_rfl, ?_⟩; conv => whnf)
  refine ⟨_, ret_of_fn G0ok (d2) (by first | rfl | simp only [noHs, noH, nI, bI, Bool.and_self, Bool.and_true, Bool.true_and, bts_noHs]) (by first | rfl | simp only [noHs, noH, nI, bI, Bool.and_self, Bool.and_true, Bool.true_and, bts_noHs]), ?_⟩; (conv => whnf); (try (refine ⟨by kernel_rfl, ?_⟩; conv => whnf))
  refine bindP_intro (load_agg rfl rfl lC) ?_
  conv => whnf
  try (refine ⟨by kernel_rfl, ?_⟩; conv => whnf)
  refine ⟨_, ret_of_fn G0ok (cc) (by first | rfl | simp only [noHs, noH, nI, bI, Bool.and_self, Bool.and_true, Bool.true_and, nC]) (by first | rfl | simp only [noHs, noH, nI, bI, Bool.and_self, Bool.and_true, Bool.true_and, nC]), ?_⟩; (conv => whnf); (try (refine ⟨by kernel_rfl, ?_⟩; conv => whnf))
  refine bindP_intro (load_agg rfl rfl lC) ?_
  conv => whnf
  try (refine ⟨by kernel_rfl, ?_⟩; conv => whnf)
  refine bindP_intro (load_agg rfl rfl lD) ?_
  conv => whnf
  try (refine ⟨by kernel_rfl, ?_⟩; conv => whnf)
  refine ⟨_, ret_of_fn G0ok (sm) (by first | rfl | simp only [noHs, noH, nI, bI, Bool.and_self, Bool.and_true, Bool.true_and, nC, nD]) (by first | rfl | simp only [noHs, noH, nI, bI, Bool.and_self, Bool.and_true, Bool.true_and, nC, nD]), ?_⟩; (conv => whnf); (try (refine ⟨by kernel_rfl, ?_⟩; conv => whnf))
  exact ⟨_, rfl, rfl⟩
theorem fnLoadBack (kind : Int) (x y : RawD) (l : List RawD) (at' : Int) (_ : I64 kind) (hx : x.ok) (_ : y.ok) (hl : l.length ≤ maxLen) (_ : ∀ q ∈ l, q.ok) (_ : I64 at') : FnV Try.prog G0 3 [nI .i64 kind, x.v, y.v, .ds false l.length (rawsC l), nI .i64 at'] (bI true) := by
  have h4 : kind % 4 = 0 ∨ kind % 4 = 1 ∨ kind % 4 = 2 ∨ kind % 4 = 3 := by omega
  rcases h4 with h | h | h
  · have ok := ldM0_ok x y
    exact back_of (.inr (.inl ok)) (loadOf_m h) (by rw [ok.rest.2.2.2.2.1]; decide) (by rw [ok.rest.2.2.2.2.1]; simp) (by rw [ok.rest.1]; decide) (by rw [ok.rest.2.1]; decide) (by rw [ok.rest.2.2.2.2.2.2]; decide) (by rw [ok.rest.2.2.2.2.2.2]; simp)
  · have ok := ldK0_ok x l
    exact back_of (.inr (.inr ok)) (loadOf_k h hl) (by rw [ok.rest.2.2.2.2.2.2.2.2]; decide) (by rw [ok.rest.2.2.2.2.2.2.2.2]; simp) (by rw [ok.rest.1]; decide) (by rw [ok.rest.2.1]; decide) (by have := ok.most; omega) ok.len
  · have ok := ldT0_ok (decide (kind % 4 = 3)) x y
    obtain ⟨fd, lo⟩ := loadOf_t (f := false) (kind := kind) (x := x) (y := y) (l := l) h hx
    exact back_of (.inl ok) lo ok.len ok.datab ok.amt (Nat.lt_of_le_of_lt ok.fee ok.amt) (by rw [ok.rest.2.2.2]; decide) (by rw [ok.rest.2.2.2]; simp)
namespace lawLoadBack
set_option linter.unusedVariables false
set_option maxRecDepth 100000 in
theorem lifted (os : Os) (started : os.Started) (H : Type) (enc : TypeId × Value → H) :
    ReturnsInHanded {} Try.checked os 3 .any (Rows.loadBackSpec.pre6 enc Try.prog Try.f3 Rows.loadBackRow.domain false) (Rows.loadBackSpec.post enc Try.prog Try.f3 false true false false) := by
  refine returnsInHanded_of_change (C := Try.checked) rowOwn started (by kernel_rfl) Try.func3
    (ChangeSpec.witness6 (enc := enc) (C := Try.checked) false ⟨#[], #[.int .i64 0, .agg #[.int .i64 0, .int .i64 0, .int .i64 0, .string ByteArray.empty], .agg #[.int .i64 0, .int .i64 0, .int .i64 0, .string ByteArray.empty], .slice none 0 0, .int .i64 0], []⟩ 8 (by kernel_rfl) (by kernel_rfl) (by kernel_rfl) (by kernel_rfl)) ?_
  intro W base args ds gs before hval0 hW hcnd _
  have hval : ∀ (j : Nat) t v, Try.f3.params[j]? = some t → args[j]? = some v → Value.okWide Try.prog W .any base t v := hval0
  have hW' := hW
  obtain ⟨p, q, hA0, hV, rfl, hfz, hnd⟩ := hW
  have hA : DataW.TrodAll enc Try.prog W 0 (fun _ => true) true Try.f3.params.toList args.toList ds p := hA0
  rw [Try.params3] at hA hval
  obtain ⟨v0, vs0, d0, ds0, p0, q0, hargs, rfl, rfl, h0, r0⟩ := trodAll_cons hA
  obtain ⟨v1, vs1, d1, ds1, p1, q1, rfl, rfl, rfl, h1, r1⟩ := trodAll_cons r0
  obtain ⟨v2, vs2, d2, ds2, p2, q2, rfl, rfl, rfl, h2, r2⟩ := trodAll_cons r1
  obtain ⟨v3, vs3, d3, ds3, p3, q3, rfl, rfl, rfl, h3, r3⟩ := trodAll_cons r2
  obtain ⟨v4, vs4, d4, ds4, p4, q4, rfl, rfl, rfl, h4, r4⟩ := trodAll_cons r3
  obtain ⟨rfl, rfl, rfl⟩ := trodAll_nil r4
  obtain rfl : args = #[v0, v1, v2, v3, v4] := by cases args; simp_all
  obtain ⟨rfl, rfl⟩ := trodVars_none hV
  obtain ⟨a0, rfl, rfl, rfl, w0⟩ := open_int Try.underlying3 (hval 0 3 v0 rfl rfl) h0
  have k1 := h1
  have lt1 : ∀ x ∈ p1, x.block < W.heap.size := by obtain ⟨m, hm⟩ := k1; exact DataW.trod_lt m _ _ _ hm
  obtain ⟨a1, w1, u1⟩ := raw_open (hval 1 23 v1 rfl rfl) h1
  have k2 := h2
  have lt2 : ∀ x ∈ p2, x.block < W.heap.size := by obtain ⟨m, hm⟩ := k2; exact DataW.trod_lt m _ _ _ hm
  obtain ⟨a2, w2, u2⟩ := raw_open (hval 2 23 v2 rfl rfl) h2
  have k3 := h3
  have lt3 : ∀ x ∈ p3, x.block < W.heap.size := by obtain ⟨m, hm⟩ := k3; exact DataW.trod_lt m _ _ _ hm
  obtain ⟨a3, l3, w3, u3⟩ := raws_open (hval 3 24 v3 rfl rfl) h3
  obtain ⟨a4, rfl, rfl, rfl, w4⟩ := open_int Try.underlying3 (hval 4 3 v4 rfl rfl) h4
  clear hA0 hval0
  refine (calls_of_fn Try.func3 (by kernel_rfl) rfl (fnLoadBack a0 a1 a2 a3 a4 (bounds_i64 w0) w1 w2 l3 w3 (bounds_i64 w4)) (fun _ _ h => by cases h) (VRs.cons rfl (VRs.cons (u1 _) (VRs.cons (u2 _) (VRs.cons u3 (VRs.cons rfl VRs.snoc_nil)))))).mono fun e W' ⟨he, bel⟩ => ?_
  subst he
  exact ⟨_, rfl, _, _, _, [], _, [], hW', trodAll_mk1 (shut_bool Try.underlying4 _), (trodAll_cons_mk (shut_int Try.underlying3 w0) (trodAll_cons_mk (Below.trod rowLaid (by kernel_rfl) (of_decide_eq_true (by kernel_rfl)) k1 bel lt1) (trodAll_cons_mk (Below.trod rowLaid (by kernel_rfl) (of_decide_eq_true (by kernel_rfl)) k2 bel lt2) (trodAll_cons_mk (Below.trod rowLaid (by kernel_rfl) (of_decide_eq_true (by kernel_rfl)) k3 bel lt3) (trodAll_cons_mk (shut_int Try.underlying3 w4) trodAll_mk0))))), rfl, bel.frame _, fun h => by cases h⟩
theorem over : Rows.loadBackRow.holds Try.pinned (OpenSpec.ofChange Rows.loadBackSpec) :=
  OpenClaim.holds_of_wide 3 Try.f3 rfl rfl rfl rfl rfl rfl rfl ⟨rfl, rfl, rfl, rfl, rfl⟩ rfl rfl rfl rfl rfl (by kernel_rfl) Try.func3 (by kernel_rfl)
    (of_decide_eq_true (by kernel_rfl)) (by unfold Func.isWrapper; first | (rw [if_pos (by decide +kernel)]; kernel_rfl) | (rw [if_neg (by decide +kernel)]; exact ⟨rfl, rfl⟩))
    (fun os started H enc _ => lifted os started H enc)
theorem proved : Rows.LoadBackSaid := over
end lawLoadBack

end Go.Proofs.Ytilmfdlonpjjiaa
