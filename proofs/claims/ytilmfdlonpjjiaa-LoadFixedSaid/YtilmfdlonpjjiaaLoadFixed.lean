/- LoadFixed: what is read may be, and is written just so. -/
import Derived.Test.YtilmfdlonpjjiaaBUc
import Derived.SizedLaws
namespace Go.Proofs.Ytilmfdlonpjjiaa
set_option linter.unusedVariables false
set_option linter.unusedSimpArgs false
set_option linter.unusedSectionVars false
open Go.ChangeShapes Go.WideShapes Go.ChangeAt Go.RowKit Go.Joins
set_option maxRecDepth 10000
theorem byV_ofN {l : List Nat} (h : ∀ x ∈ l, x < 256) : (l.map UInt8.ofNat).map byV = bts l := by
  unfold bts
  rw [List.map_map]
  refine List.map_congr_left fun x hx => ?_
  show VV.v (.int .u8 (((UInt8.ofNat x).toNat : Nat) : Int)) = _
  rw [show (UInt8.ofNat x).toNat = x from by rw [UInt8.toNat_ofNat', Nat.mod_eq_of_lt (h x hx)]]
  rfl
theorem fnLoadFixed (l : List Nat) (hl : l.length ≤ 140737488351232) (hb : ∀ x ∈ l, x < 256) : FnV Try.prog G0 4 [.ds false l.length (bts l)] (bI true) := by
  have d0 := ldec_fn (f := true) (b := []) (fun x h => by cases h) (by decide)
  have z0 : decV (ldDec []) = noLd 4 := rfl
  rw [z0, noLd_eq] at d0
  have d1 := ldec_fn (f := false) (b := l) hb (by omega)
  by_cases h : (ldDec l).1 = 0
  · obtain ⟨ok, ep, _⟩ := ldDec_put hb h
    unfold decV at d1
    rw [if_pos h] at d1
    have ck := ldR_ok ok
    have cc := lcheck_all ck ok
    have en := lenc_all ck ok
    rw [ep] at en
    have pl := ck.len
    have pn := ck.noHs
    refine gen_ex (ldR (ldDec l).2) fun C eC => ?_
    rw [← eC] at d1 cc en pl pn
    clear eC ck ep ok h
    refine fn_of_vwp Γok Try.func4 (by kernel_rfl) rfl (by simp [Try.ntmps4]) (wpv_ok Γok (by kernel_rfl) _ _ _ ?_); conv => whnf
    refine ⟨_, ret_of_fn G0ok (d0) (by first | rfl | simp only [noHs, noH, nI, bI, Bool.and_self, Bool.and_true, Bool.true_and, bts_noHs]) (by first | rfl | simp only [noHs, noH, nI, bI, Bool.and_self, Bool.and_true, Bool.true_and, bts_noHs]), ?_⟩; (conv => whnf); (try (refine ⟨by kernel_rfl, ?_⟩; conv => whnf))
    refine ⟨_, ret_of_fn G0ok (d1) (by first | rfl | simp only [noHs, noH, nI, bI, Bool.and_self, Bool.and_true, Bool.true_and, bts_noHs, pn]) (by first | rfl | simp only [noHs, noH, nI, bI, Bool.and_self, Bool.and_true, Bool.true_and, bts_noHs, pn]), ?_⟩; (conv => whnf); (try (refine ⟨by kernel_rfl, ?_⟩; conv => whnf))
    refine onlyIf_intro (by rw [pl]; rfl) ?_
    rw [splice_all (by rw [pl]; rfl)]
    conv => whnf
    try (refine ⟨by kernel_rfl, ?_⟩; conv => whnf)
    refine bindP_intro (load_agg rfl rfl pl) ?_
    conv => whnf
    try (refine ⟨by kernel_rfl, ?_⟩; conv => whnf)
    refine ⟨_, ret_of_fn G0ok (en) (by first | rfl | simp only [noHs, noH, nI, bI, Bool.and_self, Bool.and_true, Bool.true_and, bts_noHs, pn]) (by first | rfl | simp only [noHs, noH, nI, bI, Bool.and_self, Bool.and_true, Bool.true_and, bts_noHs, pn]), ?_⟩; (conv => whnf); (try (refine ⟨by kernel_rfl, ?_⟩; conv => whnf))
    refine bindP_intro (load_agg rfl rfl pl) ?_
    conv => whnf
    try (refine ⟨by kernel_rfl, ?_⟩; conv => whnf)
    refine ⟨_, ret_of_fn G0ok (cc) (by first | rfl | simp only [noHs, noH, nI, bI, Bool.and_self, Bool.and_true, Bool.true_and, pn]) (by first | rfl | simp only [noHs, noH, nI, bI, Bool.and_self, Bool.and_true, Bool.true_and, pn]), ?_⟩; (conv => whnf); (try (refine ⟨by kernel_rfl, ?_⟩; conv => whnf))
    refine ⟨l.map UInt8.ofNat, (byV_ofN hb).symm, by simp, ?_⟩
    conv => whnf
    try (refine ⟨by kernel_rfl, ?_⟩; conv => whnf)
    refine ⟨l.map UInt8.ofNat, (byV_ofN hb).symm, by simp, ?_⟩
    conv => whnf
    try (refine ⟨by kernel_rfl, ?_⟩; conv => whnf)
    refine ⟨_, rfl, ?_⟩
    refine congrArg some (congrArg VV.v (congrArg Value.bool ?_))
    exact (str_eq (l.map UInt8.ofNat) (l.map UInt8.ofNat)).trans (decide_eq_true rfl)
  · unfold decV at d1
    rw [if_neg h, noLd_eq] at d1
    refine gen_ex (ldDec l).1 fun c ec => ?_
    rw [← ec] at d1 h
    clear ec
    refine fn_of_vwp Γok Try.func4 (by kernel_rfl) rfl (by simp [Try.ntmps4]) (wpv_ok Γok (by kernel_rfl) _ _ _ ?_); conv => whnf
    refine ⟨_, ret_of_fn G0ok (d0) (by first | rfl | simp only [noHs, noH, nI, bI, Bool.and_self, Bool.and_true, Bool.true_and, bts_noHs]) (by first | rfl | simp only [noHs, noH, nI, bI, Bool.and_self, Bool.and_true, Bool.true_and, bts_noHs]), ?_⟩; (conv => whnf); (try (refine ⟨by kernel_rfl, ?_⟩; conv => whnf))
    refine ⟨_, ret_of_fn G0ok (d1) (by first | rfl | simp only [noHs, noH, nI, bI, Bool.and_self, Bool.and_true, Bool.true_and, bts_noHs]) (by first | rfl | simp only [noHs, noH, nI, bI, Bool.and_self, Bool.and_true, Bool.true_and, bts_noHs]), ?_⟩; (conv => whnf); (try (refine ⟨by kernel_rfl, ?_⟩; conv => whnf))
    rw [show ((c : Int) != 0) = !decide (c = 0) from bne_lit c 0, decide_eq_false h]
    conv => whnf
    try (refine ⟨by kernel_rfl, ?_⟩; conv => whnf)
    exact ⟨_, rfl, rfl⟩
namespace lawLoadFixed
set_option linter.unusedVariables false
set_option maxRecDepth 100000 in
theorem lifted (os : Os) (started : os.Started) (H : Type) (enc : TypeId × Value → H) :
    ReturnsInHanded {} Try.checked os 4 .any (Rows.loadFixedSpec.pre6 enc Try.prog Try.f4 Rows.loadFixedRow.domain false) (Rows.loadFixedSpec.post enc Try.prog Try.f4 false true false false) := by
  refine returnsInHanded_of_change_sized (C := Try.checked) rowOwn started (by kernel_rfl) Try.func4
    (ChangeSpec.witness6 (enc := enc) (C := Try.checked) false ⟨#[], #[.slice none 0 0], []⟩ 8 (by kernel_rfl) (by kernel_rfl) (by kernel_rfl) (by kernel_rfl)) ?_
  intro W base args ds gs before hval0 hW hcnd hsz _
  have hval : ∀ (j : Nat) t v, Try.f4.params[j]? = some t → args[j]? = some v → Value.okWide Try.prog W .any base t v := hval0
  have hW' := hW
  obtain ⟨p, q, hA0, hV, rfl, hfz, hnd⟩ := hW
  have hA : DataW.TrodAll enc Try.prog W 0 (fun _ => true) true Try.f4.params.toList args.toList ds p := hA0
  rw [Try.params4] at hA hval
  obtain ⟨v0, vs0, d0, ds0, p0, q0, hargs, rfl, rfl, h0, r0⟩ := trodAll_cons hA
  obtain ⟨rfl, rfl, rfl⟩ := trodAll_nil r0
  obtain rfl : args = #[v0] := by cases args; simp_all
  obtain ⟨rfl, rfl⟩ := trodVars_none hV
  have k0 := h0
  have lt0 : ∀ x ∈ p0, x.block < W.heap.size := by obtain ⟨m, hm⟩ := k0; exact DataW.trod_lt m _ _ _ hm
  have hz0 : ∀ e s, d0 = .slice e s → e.length ≤ 140737488351232 := fun e s hd => by
    have hq := sized_slice hsz (j := 0) (t := 29) (e := 5) (elems := e) (spare := s) (by rfl) (by rw [hd]; rfl) Try.underlying29
    rw [show Try.checked.prog.bytesOf 5 = 1 from by kernel_rfl, show reachBytes = 140737488351232 from rfl] at hq
    omega
  obtain ⟨a0, l0, w0, u0⟩ := bytes_openz hz0 (hval 0 29 v0 rfl rfl) h0
  clear hA0 hval0
  refine (calls_of_fn Try.func4 (by kernel_rfl) rfl (fnLoadFixed a0 l0 w0) (fun _ _ h => by cases h) (VRs.cons u0 VRs.snoc_nil)).mono fun e W' ⟨he, bel⟩ => ?_
  subst he
  exact ⟨_, rfl, _, _, _, [], _, [], hW', trodAll_mk1 (shut_bool Try.underlying4 _), (trodAll_cons_mk (Below.trod rowLaid (by kernel_rfl) (of_decide_eq_true (by kernel_rfl)) k0 bel lt0) trodAll_mk0), rfl, bel.frame _, fun h => by cases h⟩
theorem over : Rows.loadFixedRow.holds Try.pinned (OpenSpec.ofChange Rows.loadFixedSpec) :=
  OpenClaim.holds_of_wide 4 Try.f4 rfl rfl rfl rfl rfl rfl rfl ⟨rfl, rfl, rfl, rfl, rfl⟩ rfl rfl rfl rfl rfl (by kernel_rfl) Try.func4 (by kernel_rfl)
    (of_decide_eq_true (by kernel_rfl)) (by unfold Func.isWrapper; first | (rw [if_pos (by decide +kernel)]; kernel_rfl) | (rw [if_neg (by decide +kernel)]; exact ⟨rfl, rfl⟩))
    (fun os started H enc _ => lifted os started H enc)
theorem proved : Rows.LoadFixedSaid := over
end lawLoadFixed

end Go.Proofs.Ytilmfdlonpjjiaa
