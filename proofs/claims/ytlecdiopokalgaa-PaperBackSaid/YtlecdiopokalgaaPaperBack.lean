/- PaperBack: a paper is read as it was written; cut in its head it is none. -/
import Derived.Test.YtlecdiopokalgaaBUc
namespace Go.Proofs.Ytlecdiopokalgaa
set_option linter.unusedVariables false
set_option linter.unusedSimpArgs false
set_option linter.unusedSectionVars false
open Go.ChangeShapes Go.WideShapes Go.ChangeAt Go.RowKit Go.Joins
set_option maxRecDepth 10000
theorem sameB_self (b : BoD) : sameB b b = true := by unfold sameB; simp
theorem encB_lt {set : Nat} {L : List SgnD} {b : BoI} (he : ∀ x ∈ b.em, x < 256) (hl : ∀ x ∈ b.load, x < 256) : ∀ x ∈ encB set L b, x < 256 := by
  intro x hx
  rw [encB_eq] at hx
  simp only [List.mem_append] at hx
  rcases hx with h | h | h | h | h
  · exact be_lt _ _ x h
  · exact be_lt _ _ x h
  · exact be_lt _ _ x h
  · unfold sgnsB at h
    obtain ⟨y, _, h⟩ := List.mem_flatMap.1 h
    unfold sgnB at h
    simp only [List.mem_append] at h
    rcases h with ((h | h) | h) | h
    · exact be_lt _ _ x h
    · exact nB_lt _ x h
    · exact nB_lt _ x h
    · exact be_lt _ _ x h
  · unfold bodyB BoI.d at h
    simp only [List.mem_append] at h
    rcases h with (((((h | h) | h) | h) | h) | h) | h
    · exact be_lt _ _ x h
    · exact be_lt _ _ x h
    · exact be_lt _ _ x h
    · exact he x h
    · exact be_lt _ _ x h
    · exact be_lt _ _ x h
    · exact hl x h
theorem encB_len {set : Nat} {L : List SgnD} {b : BoI} (he : b.em.length = 32) : (encB set L b).length = 61 + 66 * L.length + b.load.length := by
  rw [encB_eq]
  unfold bodyB BoI.d
  simp only [List.length_append, be_len, sgnsB_len, he]
  omega
theorem fnPaperBack (l : List RawD) (set : Int) (x : RawD) (at' : Int) (hl : l.length ≤ maxLen) (_ : ∀ q ∈ l, q.ok) (_ : I64 set) (hx : x.ok) (_ : I64 at') : FnV Try.prog G0 3 [.ds false l.length (rawsC l), nI .i64 set, x.v, nI .i64 at'] (bI true) := by
  have wr := written_fn (f := false) (set := set) (x := x) hl hx
  have sL : (sgnsR l).length ≤ 19 := by unfold sgnsR; rw [List.length_map, List.length_take]; omega
  have sw : ∀ y ∈ sgnsR l, y.who ≤ 255 ∧ y.R < T256 ∧ y.S < T256 ∧ y.odd ≤ 255 := fun y hy => by obtain ⟨r, _, rfl⟩ := List.mem_map.1 hy; exact sgnR_ok r
  have ok := bodyR_ok x
  have hc := i_chk ok
  have he : (bodyR x).i.em.length = 32 := ok.em
  have h6 : (bodyR x).i.load.length ≤ 300 := ok.load
  have be' : ∀ z ∈ (bodyR x).i.em, z < 256 := wordN_lt x
  have bl : ∀ z ∈ (bodyR x).i.load, z < 256 := cutN_lt x 60
  have sm := same_fn ok ok (cutN_lt x 60) (cutN_lt x 60)
  rw [sameB_self] at sm
  unfold BoD.v at sm
  rw [← i_cells (b := bodyR x) rfl] at sm
  obtain ⟨S, eS, lS⟩ : ∃ S : Nat, (set % 4294967296).toNat = S ∧ S ≤ 4294967295 := ⟨_, rfl, by omega⟩
  rw [eS] at wr
  clear eS
  refine gen_ex (sgnsR l) fun L eL => ?_
  rw [← eL] at wr sL sw
  clear eL
  refine gen_ex (bodyR x).i fun b eb => ?_
  rw [← eb] at wr hc he h6 be' bl sm
  clear eb ok
  have en := enc_fn (f := false) lS sL (fun y hy => ⟨(sw y hy).1, (sw y hy).2.2.2⟩) he hc
  obtain ⟨q0, q1, q2, q3⟩ := dec_enc lS sL sw he hc
  have lt := encB_lt (set := S) (L := L) be' bl
  have len := encB_len (set := S) (L := L) he
  have d1 := dec_fn (f := false) (l := encB S L b) (by omega) lt
  rw [q0, if_pos rfl, q1, q2, q3] at d1
  have pk := picked_fn at' ((61 + 66 * L.length : Nat) : Int) (by omega) (by omega)
  obtain ⟨k, hk, lk⟩ : ∃ k : Nat, at' % ((61 + 66 * L.length : Nat) : Int) = (k : Int) ∧ k < 61 + 66 * L.length := ⟨(at' % ((61 + 66 * L.length : Nat) : Int)).toNat, by have := Int.emod_nonneg at' (show ((61 + 66 * L.length : Nat) : Int) ≠ 0 by omega); omega, by have := Int.emod_nonneg at' (show ((61 + 66 * L.length : Nat) : Int) ≠ 0 by omega); have := Int.emod_lt_of_pos at' (show 0 < ((61 + 66 * L.length : Nat) : Int) by omega); omega⟩
  rw [hk] at pk
  clear hk
  have cu := dec_cut (set := S) (b := b) sL lt lk
  have d2 := dec_fn (f := false && decide (k = (encB S L b).length)) (l := (encB S L b).take k) (by rw [List.length_take]; omega) (fun z hz => lt z (List.mem_of_mem_take hz))
  rw [cu, if_neg (by decide)] at d2
  unfold papZ at d2
  have pl := papC_len (set := S) (f := false) (L := L) he
  have pn := papC_noHs S false L b
  have pb := papC_body (set := S) (f := false) (L := L) he
  have nb := boI_noHs b
  have bL : b.cells.length = 38 := bC_len he
  refine gen_ex (encB S L b) fun E eE => ?_
  rw [← eE] at en d1 d2 len
  clear eE q0 q1 q2 q3 lt cu
  unfold RawD.v RawD.cells at *
  refine fn_of_vwp Γok Try.func3 (by kernel_rfl) rfl (by simp [Try.ntmps3]) (wpv_ok Γok (by kernel_rfl) _ _ _ ?_); conv => whnf
  refine ⟨_, ret_of_fn G0ok (wr) (by first | rfl | simp only [noHs, noH, nI, bI, Bool.and_self, Bool.and_true, Bool.true_and, rawsC_noHs, pn]) (by first | rfl | simp only [noHs, noH, nI, bI, Bool.and_self, Bool.and_true, Bool.true_and, rawsC_noHs, pn]), ?_⟩; (conv => whnf); (try (refine ⟨by kernel_rfl, ?_⟩; conv => whnf))
  obtain ⟨_, _, i37⟩ := bC_ix (t := b.time) (n := b.nonce) (c := b.chain) (x := nI .i64 b.num) (y := nI .i64 b.level) (z := .ds false b.load.length (bts b.load)) he
  have i37 : b.cells[37]? = some (.ds false b.load.length (bts b.load)) := i37
  refine onlyIf_intro (by rw [pl]; rfl) ?_
  rw [splice_all (by rw [pl]; rfl)]
  conv => whnf
  try (refine ⟨by kernel_rfl, ?_⟩; conv => whnf)
  refine bindP_intro (load_agg rfl rfl pl) ?_
  conv => whnf
  try (refine ⟨by kernel_rfl, ?_⟩; conv => whnf)
  refine ⟨_, ret_of_fn G0ok (en) (by first | rfl | simp only [noHs, noH, nI, bI, Bool.and_self, Bool.and_true, Bool.true_and, bts_noHs, pn]) (by first | rfl | simp only [noHs, noH, nI, bI, Bool.and_self, Bool.and_true, Bool.true_and, bts_noHs, pn]), ?_⟩; (conv => whnf); (try (refine ⟨by kernel_rfl, ?_⟩; conv => whnf))
  refine ⟨_, ret_of_fn G0ok (d1) (by first | rfl | simp only [noHs, noH, nI, bI, Bool.and_self, Bool.and_true, Bool.true_and, bts_noHs, pn]) (by first | rfl | simp only [noHs, noH, nI, bI, Bool.and_self, Bool.and_true, Bool.true_and, bts_noHs, pn]), ?_⟩; (conv => whnf); (try (refine ⟨by kernel_rfl, ?_⟩; conv => whnf))
  refine onlyIf_intro (by rw [pl]; rfl) ?_
  rw [splice_all (by rw [pl]; rfl)]
  conv => whnf
  try (refine ⟨by kernel_rfl, ?_⟩; conv => whnf)
  refine bindP_intro i37 ?_
  conv => whnf
  try (refine ⟨by kernel_rfl, ?_⟩; conv => whnf)
  rw [ws_i64 (x := (E.length : Int) - (b.load.length : Nat)) (by omega) (by omega)]
  conv => whnf
  try (refine ⟨by kernel_rfl, ?_⟩; conv => whnf)
  rw [show (E.length : Int) - (b.load.length : Nat) = ((61 + 66 * L.length : Nat) : Int) from by omega]
  have hmx : (if (1 : Int) > ((61 + 66 * L.length : Nat) : Int) then (1 : Int) else ((61 + 66 * L.length : Nat) : Int)) = ((61 + 66 * L.length : Nat) : Int) := if_neg (by omega)
  have pk2 := pk
  rw [← hmx] at pk2
  refine ⟨_, ret_of_fn G0ok (pk2) (by first | rfl | simp only [noHs, noH, nI, bI, Bool.and_self, Bool.and_true, Bool.true_and, ]) (by first | rfl | simp only [noHs, noH, nI, bI, Bool.and_self, Bool.and_true, Bool.true_and, ]), ?_⟩; (conv => whnf); (try (refine ⟨by kernel_rfl, ?_⟩; conv => whnf))
  refine bindP_intro (vpure_slice (vslice_bts rfl rfl rfl (by rfl) vb_nat (Nat.zero_le _) (by omega))) ?_
  conv => whnf
  try (refine ⟨by kernel_rfl, ?_⟩; conv => whnf)
  refine ⟨_, ret_of_fn G0ok (d2) (by first | rfl | simp only [noHs, noH, nI, bI, Bool.and_self, Bool.and_true, Bool.true_and, bts_noHs]) (by first | rfl | simp only [noHs, noH, nI, bI, Bool.and_self, Bool.and_true, Bool.true_and, bts_noHs]), ?_⟩; (conv => whnf); (try (refine ⟨by kernel_rfl, ?_⟩; conv => whnf))
  rw [ws_i64 (x := 66 * (L.length : Int)) (by omega) (by omega), ws_i64 (x := 61 + 66 * (L.length : Int)) (by omega) (by omega), show 61 + 66 * (L.length : Int) = ((61 + 66 * L.length : Nat) : Int) from by omega]
  rw [show ((((61 + 66 * L.length : Nat) : Int)) != ((61 + 66 * L.length : Nat) : Int)) = false from by rw [bne_lit, decide_eq_true rfl]; rfl]
  conv => whnf
  try (refine ⟨by kernel_rfl, ?_⟩; conv => whnf)
  rw [show (((S : Nat) : Int) != ((S : Nat) : Int)) = false from by rw [bne_lit, decide_eq_true rfl]; rfl]
  conv => whnf
  try (refine ⟨by kernel_rfl, ?_⟩; conv => whnf)
  refine bindP_intro (load_sub rfl rfl (by rw [pl]; decide) pb) ?_
  conv => whnf
  try (refine ⟨by kernel_rfl, ?_⟩; conv => whnf)
  refine bindP_intro (load_sub rfl rfl (by rw [pl]; decide) pb) ?_
  conv => whnf
  try (refine ⟨by kernel_rfl, ?_⟩; conv => whnf)
  refine ⟨_, ret_of_fn G0ok (sm) (by first | rfl | simp only [noHs, noH, nI, bI, Bool.and_self, Bool.and_true, Bool.true_and, nb]) (by first | rfl | simp only [noHs, noH, nI, bI, Bool.and_self, Bool.and_true, Bool.true_and, nb]), ?_⟩; (conv => whnf); (try (refine ⟨by kernel_rfl, ?_⟩; conv => whnf))
  rw [show (((L.length : Nat) : Int) != ((L.length : Nat) : Int)) = false from by rw [bne_lit, decide_eq_true rfl]; rfl]
  conv => whnf
  try (refine ⟨by kernel_rfl, ?_⟩; conv => whnf)
  refine vloop_invK G0ok [(1, some 1), (2, some 2)] 3 (X := Nat) (fun i => [(91, nI .i64 i), (90, nI .i64 L.length), (16, nI .i64 4), (12, .ptr 2 0), (9, .ptr 1 0)]) (fun _ => [(1, some (papC S false L b)), (2, some (papC S false L b))])
    (fun i => i ≤ L.length) (fun i => L.length - i) 0 rfl ⟨⟨_, rfl, conv_nI (rfl)⟩, ⟨_, rfl, conv_nI (rfl)⟩, ⟨_, rfl, conv_nI (rfl)⟩, ⟨_, rfl, .ptr rfl⟩, ⟨_, rfl, .ptr rfl⟩, trivial⟩ ⟨.inr ⟨_, _, rfl, rfl, convs_eq rfl (pn)⟩, .inr ⟨_, _, rfl, rfl, convs_eq rfl (pn)⟩, trivial⟩ (Nat.zero_le _) ?_
  intro i hi
  try dsimp only at hi
  try dsimp only
  refine wpv_ok Γok (by kernel_rfl) _ _ _ ?_; conv => whnf
  refine bool_cases (fun hc => ?_) (fun hc => ?_)
  · have hc := of_decide_eq_true hc
    have hc : i < L.length := by omega
    obtain ⟨_, y1, y2, _⟩ := sw _ (List.getElem_mem hc)
    have ne := sgn_self y1 y2
    conv => whnf
    try (refine ⟨by kernel_rfl, ?_⟩; conv => whnf)
    refine bindP_intro (if_pos (inB_ok (by omega) (by omega))) ?_; conv => whnf
    refine bindP_intro (row_load (i := i) (w := 10) rfl rfl rfl (fun a _ => sgnD_len a) (by dsimp only; omega) hc) ?_
    conv => whnf
    try (refine ⟨by kernel_rfl, ?_⟩; conv => whnf)
    refine bindP_intro (if_pos (inB_ok (by omega) (by omega))) ?_; conv => whnf
    refine bindP_intro (row_load (i := i) (w := 10) rfl rfl rfl (fun a _ => sgnD_len a) (by dsimp only; omega) hc) ?_
    refine gen_ex L[i] fun z ez => ?_
    rw [← ez] at ne ⊢
    clear ez y1 y2
    conv => whnf
    try (refine ⟨by kernel_rfl, ?_⟩; conv => whnf)
    refine ⟨_, ne, ?_⟩
    conv => whnf
    try (refine ⟨by kernel_rfl, ?_⟩; conv => whnf)
    refine next_round (y := i) G0ok (i + 1) [(1, some 1), (2, some 2)] rfl ⟨⟨_, rfl, conv_nI (ws_i64 (by omega) (by omega))⟩, ⟨_, rfl, conv_nI (rfl)⟩, ⟨_, rfl, conv_nI (rfl)⟩, ⟨_, rfl, .ptr rfl⟩, ⟨_, rfl, .ptr rfl⟩, trivial⟩ ⟨.inr ⟨_, _, rfl, rfl, convs_eq rfl (pn)⟩, .inr ⟨_, _, rfl, rfl, convs_eq rfl (pn)⟩, trivial⟩ (by omega) (by omega)
  · conv => whnf
    try (refine ⟨by kernel_rfl, ?_⟩; conv => whnf)
    exact ⟨_, rfl, rfl⟩
namespace lawPaperBack
set_option linter.unusedVariables false
set_option maxRecDepth 100000 in
theorem lifted (os : Os) (started : os.Started) (H : Type) (enc : TypeId × Value → H) :
    ReturnsInHanded {} Try.checked os 3 .any (Rows.paperBackSpec.pre6 enc Try.prog Try.f3 Rows.paperBackRow.domain false) (Rows.paperBackSpec.post enc Try.prog Try.f3 false true false false) := by
  refine returnsInHanded_of_change (C := Try.checked) rowOwn started (by kernel_rfl) Try.func3
    (ChangeSpec.witness6 (enc := enc) (C := Try.checked) false ⟨#[], #[.slice none 0 0, .int .i64 0, .agg #[.int .i64 0, .int .i64 0, .int .i64 0, .string ByteArray.empty], .int .i64 0], []⟩ 8 (by kernel_rfl) (by kernel_rfl) (by kernel_rfl) (by kernel_rfl)) ?_
  intro W base args ds gs before hval0 hW hcnd _
  have hval : ∀ (j : Nat) t v, Try.f3.params[j]? = some t → args[j]? = some v → Value.okWide Try.prog W .any base t v := hval0
  have hW' := hW
  obtain ⟨p, q, hA0, hV, rfl, hfz, hnd⟩ := hW
  have hA : DataW.TrodAll enc Try.prog W 0 (fun _ => true) true Try.f3.params.toList args.toList ds p := hA0
  rw [Try.params3] at hA hval
  obtain ⟨v0, vs0, d0, ds0, p0, q0, hargs, rfl, rfl, h0, r0⟩ := trodAll_cons hA
  obtain ⟨v1, vs1, d1, ds1, p1, q1, rfl, rfl, rfl, h1, r1⟩ := trodAll_cons r0
  obtain ⟨v2, vs2, d2, ds2, p2, q2, rfl, rfl, rfl, h2, r2⟩ := trodAll_cons r1
  obtain ⟨v3, vs3, d3, ds3, p3, q3, rfl, rfl, rfl, h3, r3⟩ := trodAll_cons r2
  obtain ⟨rfl, rfl, rfl⟩ := trodAll_nil r3
  obtain rfl : args = #[v0, v1, v2, v3] := by cases args; simp_all
  obtain ⟨rfl, rfl⟩ := trodVars_none hV
  have k0 := h0
  have lt0 : ∀ x ∈ p0, x.block < W.heap.size := by obtain ⟨m, hm⟩ := k0; exact DataW.trod_lt m _ _ _ hm
  obtain ⟨a0, l0, w0, u0⟩ := raws_open (hval 0 22 v0 rfl rfl) h0
  obtain ⟨a1, rfl, rfl, rfl, w1⟩ := open_int Try.underlying3 (hval 1 3 v1 rfl rfl) h1
  have k2 := h2
  have lt2 : ∀ x ∈ p2, x.block < W.heap.size := by obtain ⟨m, hm⟩ := k2; exact DataW.trod_lt m _ _ _ hm
  obtain ⟨a2, w2, u2⟩ := raw_open (hval 2 24 v2 rfl rfl) h2
  obtain ⟨a3, rfl, rfl, rfl, w3⟩ := open_int Try.underlying3 (hval 3 3 v3 rfl rfl) h3
  clear hA0 hval0
  refine (calls_of_fn Try.func3 (by kernel_rfl) rfl (fnPaperBack a0 a1 a2 a3 l0 w0 (bounds_i64 w1) w2 (bounds_i64 w3)) (fun _ _ h => by cases h) (VRs.cons u0 (VRs.cons rfl (VRs.cons (u2 _) (VRs.cons rfl VRs.snoc_nil))))).mono fun e W' ⟨he, bel⟩ => ?_
  subst he
  exact ⟨_, rfl, _, _, _, [], _, [], hW', trodAll_mk1 (shut_bool Try.underlying4 _), (trodAll_cons_mk (Below.trod rowLaid (by kernel_rfl) (of_decide_eq_true (by kernel_rfl)) k0 bel lt0) (trodAll_cons_mk (shut_int Try.underlying3 w1) (trodAll_cons_mk (Below.trod rowLaid (by kernel_rfl) (of_decide_eq_true (by kernel_rfl)) k2 bel lt2) (trodAll_cons_mk (shut_int Try.underlying3 w3) trodAll_mk0)))), rfl, bel.frame _, fun h => by cases h⟩
theorem over : Rows.paperBackRow.holds Try.pinned (OpenSpec.ofChange Rows.paperBackSpec) :=
  OpenClaim.holds_of_wide 3 Try.f3 rfl rfl rfl rfl rfl rfl rfl ⟨rfl, rfl, rfl, rfl, rfl⟩ rfl rfl rfl rfl rfl (by kernel_rfl) Try.func3 (by kernel_rfl)
    (of_decide_eq_true (by kernel_rfl)) (by unfold Func.isWrapper; first | (rw [if_pos (by decide +kernel)]; kernel_rfl) | (rw [if_neg (by decide +kernel)]; exact ⟨rfl, rfl⟩))
    (fun os started H enc _ => lifted os started H enc)
theorem proved : Rows.PaperBackSaid := over
end lawPaperBack

end Go.Proofs.Ytlecdiopokalgaa
