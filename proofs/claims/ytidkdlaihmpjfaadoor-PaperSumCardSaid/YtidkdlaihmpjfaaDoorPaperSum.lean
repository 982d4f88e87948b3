/- PaperSum: who signs is not in the sum, what is said is: two messages have one sum where their bytes are the same. -/
import Derived.Test.YtidkdlaihmpjfaaDoorBUe
import Derived.Test.YtidkdlaihmpjfaaDoorVGlob
import Derived.Test.YtidkdlaihmpjfaaDoorCards
import Derived.Test.YtidkdlaihmpjfaaDoorTie
import Derived.SevenTiedAt
import Derived.OpenShut
namespace Go.Proofs.YtidkdlaihmpjfaaDoor
set_option linter.unusedVariables false
set_option linter.unusedSimpArgs false
set_option linter.unusedSectionVars false
open Go.ChangeShapes Go.WideShapes Go.ChangeAt Go.RowKit Go.Joins
set_option maxRecDepth 10000
theorem be_mod {n m : Nat} : ∀ {s : Nat}, be n s = be m s → n % 2 ^ (8 * s) = m % 2 ^ (8 * s)
  | 0, _ => by rw [Nat.mul_zero, Nat.pow_zero, Nat.mod_one, Nat.mod_one]
  | s + 1, h => by
    have h1 : n / 2 ^ (8 * s) % 256 = m / 2 ^ (8 * s) % 256 := (List.cons.inj h).1
    have h2 := be_mod (s := s) (List.cons.inj h).2
    rw [show 8 * (s + 1) = 8 * s + 8 by omega, Nat.pow_add, show 2 ^ 8 = 256 from rfl, Nat.mod_mul, Nat.mod_mul, h1, h2]
theorem be_inj {n m s : Nat} (hn : n < 2 ^ (8 * s)) (hm : m < 2 ^ (8 * s)) (h : be n s = be m s) : n = m := by
  have := be_mod h
  rwa [Nat.mod_eq_of_lt hn, Nat.mod_eq_of_lt hm] at this
theorem bodyB_inj {a b : BoD} (ha : a.ok) (hb : b.ok) : bodyB a = bodyB b ↔ sameB a b = true := by
  unfold sameB
  simp only [Bool.and_eq_true, decide_eq_true_eq]
  refine ⟨fun h => ?_, fun ⟨h1, h2, h3, h4, h5, h6, h7⟩ => by unfold bodyB; rw [h1, h2, h3, h4, h5, h6, h7]⟩
  unfold bodyB at h
  have l : ∀ n m s, (be n s).length = (be m s).length := fun n m s => by rw [be_len, be_len]
  obtain ⟨h, g7⟩ := List.append_inj h (by simp only [List.length_append, be_len, ha.em, hb.em])
  obtain ⟨h, g6⟩ := List.append_inj h (by simp only [List.length_append, be_len, ha.em, hb.em])
  obtain ⟨h, g5⟩ := List.append_inj h (by simp only [List.length_append, be_len, ha.em, hb.em])
  obtain ⟨h, g4⟩ := List.append_inj h (by simp only [List.length_append, be_len])
  obtain ⟨h, g3⟩ := List.append_inj h (by simp only [List.length_append, be_len])
  obtain ⟨g1, g2⟩ := List.append_inj h (by simp only [be_len])
  have a1 := ha.time; have a2 := ha.nonce; have a3 := ha.chain; have a5 := ha.num; have a6 := ha.level
  have b1 := hb.time; have b2 := hb.nonce; have b3 := hb.chain; have b5 := hb.num; have b6 := hb.level
  exact ⟨be_inj (by omega) (by omega) g1, be_inj (by omega) (by omega) g2, be_inj (by omega) (by omega) g3, g4, be_inj (by omega) (by omega) g5, be_inj (by omega) (by omega) g6, g7⟩
theorem fnPaperSum (x y : RawD) (hx : x.ok) (hy : y.ok) : FnV Tryd.prog G0 6 [x.v, y.v] (bI true) := by
  have bx := rbody_fn x hx
  have by' := rbody_fn y hy
  have ox := bodyR_ok x
  have oy := bodyR_ok y
  have ex : ∀ z ∈ (bodyR x).em, z < 256 := wordN_lt x
  have ey : ∀ z ∈ (bodyR y).em, z < 256 := wordN_lt y
  have lx : ∀ z ∈ (bodyR x).load, z < 256 := cutN_lt x 60
  have ly : ∀ z ∈ (bodyR y).load, z < 256 := cutN_lt y 60
  have px := pbytes_fn ox
  have py := pbytes_fn oy
  have sx := bsum_fn ox ex lx
  have sy := bsum_fn oy ey ly
  have sm := same_fn ox oy lx ly
  have inj := bodyB_inj ox oy
  have kt := ktells_fn
  have tx := bodyB_lt ex lx
  have ty := bodyB_lt ey ly
  have eq := eq_b32 (bsumN_len (bodyR x)) (bsumN_len (bodyR y))
  have es : bodyB (bodyR x) = bodyB (bodyR y) → bsumN (bodyR x) = bsumN (bodyR y) := fun h => by unfold bsumN; rw [h]
  have nx := boD_noHs (bodyR x)
  have ny := boD_noHs (bodyR y)
  have cx := boD_len ox.em
  have cy := boD_len oy.em
  have mx : (bts (bsumN (bodyR x))).length = 32 := by rw [bts_length, bsumN_len]
  have my : (bts (bsumN (bodyR y))).length = 32 := by rw [bts_length, bsumN_len]
  clear ox oy ex ey lx ly
  unfold RawD.v RawD.cells BoD.v at *
  refine gen_ex (bsumN (bodyR x)) fun S eS => ?_
  rw [← eS] at sx eq es mx
  clear eS
  refine gen_ex (bsumN (bodyR y)) fun T eT => ?_
  rw [← eT] at sy eq es my
  clear eT
  refine gen_ex (sameB (bodyR x) (bodyR y)) fun B eB => ?_
  rw [← eB] at sm inj
  clear eB
  refine gen_ex (bodyB (bodyR x)) fun P eP => ?_
  rw [← eP] at px inj tx es
  clear eP
  refine gen_ex (bodyB (bodyR y)) fun Q eQ => ?_
  rw [← eQ] at py inj ty es
  clear eQ
  refine gen_ex (bodyR x) fun A eA => ?_
  rw [← eA] at bx px sx sm nx cx
  clear eA
  refine gen_ex (bodyR y) fun C eC => ?_
  rw [← eC] at by' py sy sm ny cy
  clear eC
  have hs : hid ((ByteArray.mk (P.map UInt8.ofNat).toArray).toList == (ByteArray.mk (Q.map UInt8.ofNat).toArray).toList) = decide (P = Q) := (str_eq _ _).trans (decide_eq_decide.2 (u8_inj tx ty))
  have hB : B = decide (P = Q) := by
    cases B
    · exact (decide_eq_false fun h => Bool.false_ne_true (inj.1 h)).symm
    · exact (decide_eq_true (inj.2 rfl)).symm
  subst hB
  clear inj
  refine fn_of_vwp Γok Tryd.func6 (by kernel_rfl) rfl (by simp [Tryd.ntmps6]) (wpv_ok Γok (by kernel_rfl) _ _ _ ?_); conv => whnf
  refine ⟨_, ret_of_fn G0ok (bx) (by first | rfl | simp only [noHs, noH, nI, bI, Bool.and_self, Bool.and_true, Bool.true_and, nx]) (by first | rfl | simp only [noHs, noH, nI, bI, Bool.and_self, Bool.and_true, Bool.true_and, nx]), ?_⟩; (conv => whnf); (try (refine ⟨by kernel_rfl, ?_⟩; conv => whnf))
  refine ⟨_, ret_of_fn G0ok (by') (by first | rfl | simp only [noHs, noH, nI, bI, Bool.and_self, Bool.and_true, Bool.true_and, ny]) (by first | rfl | simp only [noHs, noH, nI, bI, Bool.and_self, Bool.and_true, Bool.true_and, ny]), ?_⟩; (conv => whnf); (try (refine ⟨by kernel_rfl, ?_⟩; conv => whnf))
  refine onlyIf_intro (by rw [cx]; rfl) ?_
  rw [splice_all (new := A.cells) (by rw [cx]; rfl)]
  conv => whnf
  try (refine ⟨by kernel_rfl, ?_⟩; conv => whnf)
  refine onlyIf_intro (by rw [cy]; rfl) ?_
  rw [splice_all (new := C.cells) (by rw [cy]; rfl)]
  conv => whnf
  try (refine ⟨by kernel_rfl, ?_⟩; conv => whnf)
  refine bindP_intro (load_agg rfl rfl cx) ?_
  conv => whnf
  try (refine ⟨by kernel_rfl, ?_⟩; conv => whnf)
  refine ⟨_, ret_of_fn G0ok (px) (by first | rfl | simp only [noHs, noH, nI, bI, Bool.and_self, Bool.and_true, Bool.true_and, nx, bts_noHs]) (by first | rfl | simp only [noHs, noH, nI, bI, Bool.and_self, Bool.and_true, Bool.true_and, nx, bts_noHs]), ?_⟩; (conv => whnf); (try (refine ⟨by kernel_rfl, ?_⟩; conv => whnf))
  refine bindP_intro (load_agg rfl rfl cy) ?_
  conv => whnf
  try (refine ⟨by kernel_rfl, ?_⟩; conv => whnf)
  refine ⟨_, ret_of_fn G0ok (py) (by first | rfl | simp only [noHs, noH, nI, bI, Bool.and_self, Bool.and_true, Bool.true_and, ny, bts_noHs]) (by first | rfl | simp only [noHs, noH, nI, bI, Bool.and_self, Bool.and_true, Bool.true_and, ny, bts_noHs]), ?_⟩; (conv => whnf); (try (refine ⟨by kernel_rfl, ?_⟩; conv => whnf))
  refine bindP_intro (load_agg rfl rfl cx) ?_
  conv => whnf
  try (refine ⟨by kernel_rfl, ?_⟩; conv => whnf)
  refine ⟨_, ret_of_fn G0ok (sx) (by first | rfl | simp only [noHs, noH, nI, bI, Bool.and_self, Bool.and_true, Bool.true_and, nx, bts_noHs]) (by first | rfl | simp only [noHs, noH, nI, bI, Bool.and_self, Bool.and_true, Bool.true_and, nx, bts_noHs]), ?_⟩; (conv => whnf); (try (refine ⟨by kernel_rfl, ?_⟩; conv => whnf))
  refine onlyIf_intro (by rw [mx]; rfl) ?_
  rw [splice_all (new := bts S) (by rw [mx]; rfl)]
  conv => whnf
  try (refine ⟨by kernel_rfl, ?_⟩; conv => whnf)
  refine bindP_intro (load_agg rfl rfl cy) ?_
  conv => whnf
  try (refine ⟨by kernel_rfl, ?_⟩; conv => whnf)
  refine ⟨_, ret_of_fn G0ok (sy) (by first | rfl | simp only [noHs, noH, nI, bI, Bool.and_self, Bool.and_true, Bool.true_and, ny, bts_noHs]) (by first | rfl | simp only [noHs, noH, nI, bI, Bool.and_self, Bool.and_true, Bool.true_and, ny, bts_noHs]), ?_⟩; (conv => whnf); (try (refine ⟨by kernel_rfl, ?_⟩; conv => whnf))
  refine onlyIf_intro (by rw [my]; rfl) ?_
  rw [splice_all (new := bts T) (by rw [my]; rfl)]
  conv => whnf
  try (refine ⟨by kernel_rfl, ?_⟩; conv => whnf)
  refine ⟨P.map UInt8.ofNat, (byV_of tx).symm, by simp, ?_⟩
  conv => whnf
  try (refine ⟨by kernel_rfl, ?_⟩; conv => whnf)
  refine ⟨Q.map UInt8.ofNat, (byV_of ty).symm, by simp, ?_⟩
  conv => whnf
  try (refine ⟨by kernel_rfl, ?_⟩; conv => whnf)
  refine bindP_intro (load_agg rfl rfl cx) ?_
  conv => whnf
  try (refine ⟨by kernel_rfl, ?_⟩; conv => whnf)
  refine bindP_intro (load_agg rfl rfl cy) ?_
  conv => whnf
  try (refine ⟨by kernel_rfl, ?_⟩; conv => whnf)
  refine ⟨_, ret_of_fn G0ok (sm) (by first | rfl | simp only [noHs, noH, nI, bI, Bool.and_self, Bool.and_true, Bool.true_and, nx, ny]) (by first | rfl | simp only [noHs, noH, nI, bI, Bool.and_self, Bool.and_true, Bool.true_and, nx, ny]), ?_⟩; (conv => whnf); (try (refine ⟨by kernel_rfl, ?_⟩; conv => whnf))
  rw [hs]
  refine dec_cases (P = Q) (fun hPQ => ?_) (fun hPQ => ?_)
  · rw [decide_eq_false hPQ]
    conv => whnf
    try (refine ⟨by kernel_rfl, ?_⟩; conv => whnf)
    refine ⟨P.map UInt8.ofNat, (byV_of tx).symm, by simp, ?_⟩
    conv => whnf
    try (refine ⟨by kernel_rfl, ?_⟩; conv => whnf)
    refine ⟨Q.map UInt8.ofNat, (byV_of ty).symm, by simp, ?_⟩
    conv => whnf
    try (refine ⟨by kernel_rfl, ?_⟩; conv => whnf)
    rw [hs, decide_eq_false hPQ]
    conv => whnf
    try (refine ⟨by kernel_rfl, ?_⟩; conv => whnf)
    refine ⟨_, ret_of_fn G0ok (kt) (by first | rfl | simp only [noHs, noH, nI, bI, Bool.and_self, Bool.and_true, Bool.true_and, ]) (by first | rfl | simp only [noHs, noH, nI, bI, Bool.and_self, Bool.and_true, Bool.true_and, ]), ?_⟩; (conv => whnf); (try (refine ⟨by kernel_rfl, ?_⟩; conv => whnf))
    exact ⟨_, rfl, rfl⟩
  · rw [decide_eq_true hPQ]
    rw [decide_eq_true (es hPQ)] at eq
    conv => whnf
    try (refine ⟨by kernel_rfl, ?_⟩; conv => whnf)
    refine ⟨P.map UInt8.ofNat, (byV_of tx).symm, by simp, ?_⟩
    conv => whnf
    try (refine ⟨by kernel_rfl, ?_⟩; conv => whnf)
    refine ⟨Q.map UInt8.ofNat, (byV_of ty).symm, by simp, ?_⟩
    conv => whnf
    try (refine ⟨by kernel_rfl, ?_⟩; conv => whnf)
    rw [hs, decide_eq_true hPQ]
    conv => whnf
    try (refine ⟨by kernel_rfl, ?_⟩; conv => whnf)
    refine bindP_intro (load_agg rfl rfl mx) ?_
    conv => whnf
    try (refine ⟨by kernel_rfl, ?_⟩; conv => whnf)
    refine bindP_intro (load_agg rfl rfl my) ?_
    conv => whnf
    try (refine ⟨by kernel_rfl, ?_⟩; conv => whnf)
    refine ⟨_, eq, ?_⟩
    conv => whnf
    try (refine ⟨by kernel_rfl, ?_⟩; conv => whnf)
    refine ⟨_, ret_of_fn G0ok (kt) (by first | rfl | simp only [noHs, noH, nI, bI, Bool.and_self, Bool.and_true, Bool.true_and, ]) (by first | rfl | simp only [noHs, noH, nI, bI, Bool.and_self, Bool.and_true, Bool.true_and, ]), ?_⟩; (conv => whnf); (try (refine ⟨by kernel_rfl, ?_⟩; conv => whnf))
    exact ⟨_, rfl, rfl⟩
namespace lawPaperSum
set_option linter.unusedVariables false
set_option maxRecDepth 100000 in
theorem lifted (os : Os) (started : os.Started) (H : Type) (enc : TypeId × Value → H) :
    ReturnsInHanded {} Tryd.checked os 6 .any (fun w args => (Rows.paperSumSpec.pre enc Tryd.prog Tryd.f6 [] false w args ∧ laidMetH Tryd.prog laidL w) ∧ sizedMet enc Tryd.prog Tryd.f6 (OpenSpec.ofChange Rows.paperSumSpec) false w args)
      (Rows.paperSumSpec.post enc Tryd.prog Tryd.f6 false true false false) := by
  refine returnsInHanded_of_change_and (C := Tryd.checked) (X := fun w _ => laidMetH Tryd.prog laidL w) (fun _ _ _ hh h => h.of_heap hh) rowOwn started (by kernel_rfl) Tryd.func6
    (ChangeSpec.witness_shaped (enc := enc) (C := Tryd.checked) (os := os) (X := fun w _ => laidMetH Tryd.prog laidL w) false (World.doorLaid Tryd.prog 400 os) #[.agg #[.int .i64 0, .int .i64 0, .int .i64 0, .string ByteArray.empty], .agg #[.int .i64 0, .int .i64 0, .int .i64 0, .string ByteArray.empty]] 8 rfl (World.shaped_of_RefB (by kernel_rfl) (by kernel_rfl)) (by kernel_rfl) (by kernel_rfl) (by kernel_rfl) (door_met os _)) ?_
  intro W base args ds gs before hval0 hW _ _ hL _
  have hval : ∀ (j : Nat) t v, Tryd.f6.params[j]? = some t → args[j]? = some v → Value.okWide Tryd.prog W .any base t v := hval0
  have hW' := hW
  obtain ⟨p, q, hA0, hV, rfl, hfz, hnd⟩ := hW
  have hA : DataW.TrodAll enc Tryd.prog W 0 (fun _ => true) true Tryd.f6.params.toList args.toList ds p := hA0
  rw [Tryd.params6] at hA hval
  obtain ⟨v0, vs0, d0, ds0, p0, q0, hargs, rfl, rfl, h0, r0⟩ := trodAll_cons hA
  obtain ⟨v1, vs1, d1, ds1, p1, q1, rfl, rfl, rfl, h1, r1⟩ := trodAll_cons r0
  obtain ⟨rfl, rfl, rfl⟩ := trodAll_nil r1
  obtain rfl : args = #[v0, v1] := by cases args; simp_all
  obtain ⟨rfl, rfl⟩ := trodVars_none hV
  have k0 := h0
  have lt0 : ∀ x ∈ p0, x.block < W.heap.size := by obtain ⟨m, hm⟩ := k0; exact DataW.trod_lt m _ _ _ hm
  obtain ⟨a0, w0, u0⟩ := raw_open (hval 0 45 v0 rfl rfl) h0
  have k1 := h1
  have lt1 : ∀ x ∈ p1, x.block < W.heap.size := by obtain ⟨m, hm⟩ := k1; exact DataW.trod_lt m _ _ _ hm
  obtain ⟨a1, w1, u1⟩ := raw_open (hval 1 45 v1 rfl rfl) h1
  clear hA0 hval0
  refine (calls_of_fn Tryd.func6 (by kernel_rfl) rfl (fnPaperSum a0 a1 w0 w1) (hG_laid hL) (VRs.cons (u0 _) (VRs.cons (u1 _) VRs.snoc_nil))).mono fun e W' ⟨he, bel⟩ => ?_
  subst he
  exact ⟨_, rfl, _, _, _, [], _, [], hW', trodAll_mk1 (shut_bool Tryd.underlying4 _), (trodAll_cons_mk (Below.trod rowLaid (by kernel_rfl) (of_decide_eq_true (by kernel_rfl)) k0 bel lt0) (trodAll_cons_mk (Below.trod rowLaid (by kernel_rfl) (of_decide_eq_true (by kernel_rfl)) k1 bel lt1) trodAll_mk0)), rfl, bel.frame _, fun h => by cases h⟩
theorem over : Rows.paperSumRow.holds Tryd.pinned (OpenSpec.ofChange Rows.paperSumSpec) :=
  OpenClaim.holds_of_wide 6 Tryd.f6 rfl rfl rfl rfl rfl rfl rfl ⟨rfl, rfl, rfl, rfl, rfl⟩ rfl rfl rfl rfl rfl (by kernel_rfl) Tryd.func6 (by kernel_rfl)
    (of_decide_eq_true (by kernel_rfl)) (by unfold Func.isWrapper; first | (rw [if_pos (by decide +kernel)]; kernel_rfl) | (rw [if_neg (by decide +kernel)]; exact ⟨rfl, rfl⟩))
    (fun os started H enc _ => lifted os started H enc)
theorem proved : Rows.PaperSumCardSaid :=
  Claim7.holds_tied_plain_at .later [] [.data, .data] true _ _
    over (fun _ h => by cases h) (by kernel_rfl) (fun _ h => by cases h) paperSum_row_tie rfl ⟨rfl, rfl⟩ (by kernel_rfl) rfl
    (fun f fn hf hfn => by
      obtain rfl : f = 6 := Option.some.inj ((show Tryd.prog.funcNamed "bascule/basculekeep.PaperSum" = some 6 by kernel_rfl).symm.trans hf) |>.symm
      obtain rfl : fn = Tryd.f6 := (Option.some.inj (Tryd.func6.symm.trans hfn)).symm
      exact ⟨by kernel_rfl, fun j t ht => by
        rw [Tryd.params6] at ht
        have hm : t ∈ [45, 45] := by simpa using Array.mem_of_getElem? ht
        have hall : ([45, 45].all fun u => !Tryd.prog.wantsStandIn u) = true := by kernel_rfl
        exact (show Tryd.prog.wantsStandIn t = false by simpa using List.all_eq_true.1 hall t hm)⟩)
    (by kernel_rfl)
end lawPaperSum

end Go.Proofs.YtidkdlaihmpjfaaDoor
