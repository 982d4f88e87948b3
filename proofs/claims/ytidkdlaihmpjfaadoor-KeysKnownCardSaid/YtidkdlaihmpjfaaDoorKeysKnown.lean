/- KeysKnown: keys that all the world knows: of the secrets 1 and 2 of secp256k1. -/
import Derived.Test.YtidkdlaihmpjfaaDoorVKeyOf
import Derived.Test.YtidkdlaihmpjfaaDoorVKnown
import Derived.Test.YtidkdlaihmpjfaaDoorVKecE
import Derived.Test.YtidkdlaihmpjfaaDoorVGlob
import Derived.Test.YtidkdlaihmpjfaaDoorPicked
import Derived.Test.YtidkdlaihmpjfaaDoorCards
import Derived.Test.YtidkdlaihmpjfaaDoorTie
import Derived.SevenTiedAt
import Derived.OpenShut
namespace Go.Proofs.YtidkdlaihmpjfaaDoor
set_option linter.unusedVariables false
set_option linter.unusedSimpArgs false
set_option linter.unusedSectionVars false
open Go.ChangeShapes Go.WideShapes Go.ChangeAt Go.RowKit Go.Joins
set_option maxRecDepth 10000
theorem nB_x1 : nB (knownC.base).x = [121, 190, 102, 126, 249, 220, 187, 172, 85, 160, 98, 149, 206, 135, 11, 7, 2, 155, 252, 219, 45, 206, 40, 217, 89, 242, 129, 91, 22, 248, 23, 152] := by
  unfold nB
  rw [hid_eq]
  simp only [lim_def]
  decide +kernel
theorem nB_y1 : nB (knownC.base).y = [72, 58, 218, 119, 38, 163, 196, 101, 93, 164, 251, 252, 14, 17, 8, 168, 253, 23, 180, 72, 166, 133, 84, 25, 156, 71, 208, 143, 251, 16, 212, 184] := by
  unfold nB
  rw [hid_eq]
  simp only [lim_def]
  decide +kernel
theorem key_1 : (keyB (knownC.base)).take 4 = [126, 95, 69, 82] := by
  unfold keyB
  rw [nB_x1, nB_y1]
  have h := eSum_eq (b := [121, 190, 102, 126, 249, 220, 187, 172, 85, 160, 98, 149, 206, 135, 11, 7, 2, 155, 252, 219, 45, 206, 40, 217, 89, 242, 129, 91, 22, 248, 23, 152, 72, 58, 218, 119, 38, 163, 196, 101, 93, 164, 251, 252, 14, 17, 8, 168, 253, 23, 180, 72, 166, 133, 84, 25, 156, 71, 208, 143, 251, 16, 212, 184]) (by decide) (fun o => decide ((o.drop 12).take 4 = [126, 95, 69, 82]))
  exact of_decide_eq_true (h.symm.trans (by kernel_rfl))
theorem nB_x2 : nB (kp2).x = [198, 4, 127, 148, 65, 237, 125, 109, 48, 69, 64, 110, 149, 192, 124, 216, 92, 119, 142, 75, 140, 239, 60, 167, 171, 172, 9, 185, 92, 112, 158, 229] := by
  unfold nB
  rw [hid_eq]
  simp only [lim_def]
  decide +kernel
theorem nB_y2 : nB (kp2).y = [26, 225, 104, 254, 166, 61, 195, 57, 163, 197, 132, 25, 70, 108, 234, 238, 247, 246, 50, 101, 50, 102, 208, 225, 35, 100, 49, 169, 80, 207, 229, 42] := by
  unfold nB
  rw [hid_eq]
  simp only [lim_def]
  decide +kernel
theorem key_2 : (keyB (kp2)).take 4 = [43, 90, 213, 196] := by
  unfold keyB
  rw [nB_x2, nB_y2]
  have h := eSum_eq (b := [198, 4, 127, 148, 65, 237, 125, 109, 48, 69, 64, 110, 149, 192, 124, 216, 92, 119, 142, 75, 140, 239, 60, 167, 171, 172, 9, 185, 92, 112, 158, 229, 26, 225, 104, 254, 166, 61, 195, 57, 163, 197, 132, 25, 70, 108, 234, 238, 247, 246, 50, 101, 50, 102, 208, 225, 35, 100, 49, 169, 80, 207, 229, 42]) (by decide) (fun o => decide ((o.drop 12).take 4 = [43, 90, 213, 196]))
  exact of_decide_eq_true (h.symm.trans (by kernel_rfl))
theorem fnKeysKnown (n : Int) (_ : I64 n) : FnV Tryd.prog G0 7 [nI .i64 n] (bI true) := by
  have pk := picked_fn n 2 (by decide) (by decide)
  obtain ⟨k, hk, lk⟩ : ∃ k : Nat, n % 2 = (k : Int) ∧ k < 2 := ⟨(n % 2).toNat, by omega, by omega⟩
  rw [hk] at pk
  clear hk
  have cv := known_fn
  have zB4 : ∀ {n : Nat}, n < B64 → uV n = .agg (words [n, 0, 0, 0]) := fun h => congrArg VV.agg (uC_lit h)
  have hk : k = 0 ∨ k = 1 := by omega
  rcases hk with rfl | rfl
  · have m := spoint_ok good_known (d := 1) (by decide) (by decide +kernel) (kp_on 1 (by decide)) (kp_steps (by decide))
    have ky := keyOf_fn (knownC.base)
    have hK := key_1
    have lK := keyB_len (knownC.base)
    rw [zB4 (n := 1) (by decide), show kp 1 = knownC.base from rfl] at m
    refine gen_ex (keyB (knownC.base)) fun K eK => ?_
    rw [← eK] at ky hK lK
    clear eK
    unfold CvD.v CvD.cells PtD.v PtD.cells at *
    refine gen_ex (knownC.base) fun A eA => ?_
    rw [← eA] at m ky
    clear eA
    refine gen_ex knownC fun C eC => ?_
    rw [← eC] at cv m
    clear eC
    have lB : (bts K).length = 20 := by rw [bts_length, lK]
    have h4 : ((bts K).drop 0).take (4 * 1) = bts [126, 95, 69, 82] := by rw [← hK]; simp [bts]
    refine fn_of_vwp Γok Tryd.func7 (by kernel_rfl) rfl (by simp [Tryd.ntmps7]) (wpv_ok Γok (by kernel_rfl) _ _ _ ?_); conv => whnf
    refine ⟨_, ret_of_fn G0ok (cv) (by first | rfl | simp only [noHs, noH, nI, bI, Bool.and_self, Bool.and_true, Bool.true_and, ]) (by first | rfl | simp only [noHs, noH, nI, bI, Bool.and_self, Bool.and_true, Bool.true_and, ]), ?_⟩; (conv => whnf); (try (refine ⟨by kernel_rfl, ?_⟩; conv => whnf))
    refine ⟨_, ret_of_fn G0ok (pk) (by first | rfl | simp only [noHs, noH, nI, bI, Bool.and_self, Bool.and_true, Bool.true_and, ]) (by first | rfl | simp only [noHs, noH, nI, bI, Bool.and_self, Bool.and_true, Bool.true_and, ]), ?_⟩; (conv => whnf); (try (refine ⟨by kernel_rfl, ?_⟩; conv => whnf))
    rw [ws_i64 (by decide) (by decide), ws_u64n (by decide) (by decide)]
    conv => whnf
    try (refine ⟨by kernel_rfl, ?_⟩; conv => whnf)
    refine ⟨_, ret_of_fn G0ok (m) (by first | rfl | simp only [noHs, noH, nI, bI, Bool.and_self, Bool.and_true, Bool.true_and, ]) (by first | rfl | simp only [noHs, noH, nI, bI, Bool.and_self, Bool.and_true, Bool.true_and, ]), ?_⟩; (conv => whnf); (try (refine ⟨by kernel_rfl, ?_⟩; conv => whnf))
    refine ⟨_, ret_of_fn G0ok (ky) (by first | rfl | simp only [noHs, noH, nI, bI, Bool.and_self, Bool.and_true, Bool.true_and, bts_noHs]) (by first | rfl | simp only [noHs, noH, nI, bI, Bool.and_self, Bool.and_true, Bool.true_and, bts_noHs]), ?_⟩; (conv => whnf); (try (refine ⟨by kernel_rfl, ?_⟩; conv => whnf))
    refine onlyIf_intro (by rw [lB]; rfl) ?_
    conv => whnf
    try (refine ⟨by kernel_rfl, ?_⟩; conv => whnf)
    refine onlyIf_intro (by simp [lB, maxLen]) ?_
    conv => whnf
    try (refine ⟨by kernel_rfl, ?_⟩; conv => whnf)
    refine bindP_intro (view_sub rfl (by rw [lB]; decide) h4) ?_
    conv => whnf
    try (refine ⟨by kernel_rfl, ?_⟩; conv => whnf)
    refine ⟨[126, 95, 69, 82], by rfl, by rfl, ?_⟩
    conv => whnf
    try (refine ⟨by kernel_rfl, ?_⟩; conv => whnf)
    refine .read 2 [.v (.string ⟨#[126, 95, 69, 82]⟩), .v (.string ⟨#[43, 90, 213, 196]⟩)] (by rfl) (by rfl) (by rfl) (by rfl) ?_
    conv => whnf
    try (refine ⟨by kernel_rfl, ?_⟩; conv => whnf)
    refine ⟨_, rfl, ?_⟩
    refine congrArg some (congrArg VV.v (congrArg Value.bool ?_))
    exact (str_eq [126, 95, 69, 82] [126, 95, 69, 82]).trans (decide_eq_true rfl)
  · have m := spoint_ok good_known (d := 2) (by decide) (by decide +kernel) (kp_on 1 (by decide)) (kp_steps (by decide))
    have ky := keyOf_fn (kp2)
    have hK := key_2
    have lK := keyB_len (kp2)
    rw [zB4 (n := 2) (by decide), show kp 2 = kp2 from rfl] at m
    refine gen_ex (keyB (kp2)) fun K eK => ?_
    rw [← eK] at ky hK lK
    clear eK
    unfold CvD.v CvD.cells PtD.v PtD.cells at *
    refine gen_ex (kp2) fun A eA => ?_
    rw [← eA] at m ky
    clear eA
    refine gen_ex knownC fun C eC => ?_
    rw [← eC] at cv m
    clear eC
    have lB : (bts K).length = 20 := by rw [bts_length, lK]
    have h4 : ((bts K).drop 0).take (4 * 1) = bts [43, 90, 213, 196] := by rw [← hK]; simp [bts]
    refine fn_of_vwp Γok Tryd.func7 (by kernel_rfl) rfl (by simp [Tryd.ntmps7]) (wpv_ok Γok (by kernel_rfl) _ _ _ ?_); conv => whnf
    refine ⟨_, ret_of_fn G0ok (cv) (by first | rfl | simp only [noHs, noH, nI, bI, Bool.and_self, Bool.and_true, Bool.true_and, ]) (by first | rfl | simp only [noHs, noH, nI, bI, Bool.and_self, Bool.and_true, Bool.true_and, ]), ?_⟩; (conv => whnf); (try (refine ⟨by kernel_rfl, ?_⟩; conv => whnf))
    refine ⟨_, ret_of_fn G0ok (pk) (by first | rfl | simp only [noHs, noH, nI, bI, Bool.and_self, Bool.and_true, Bool.true_and, ]) (by first | rfl | simp only [noHs, noH, nI, bI, Bool.and_self, Bool.and_true, Bool.true_and, ]), ?_⟩; (conv => whnf); (try (refine ⟨by kernel_rfl, ?_⟩; conv => whnf))
    rw [ws_i64 (by decide) (by decide), ws_u64n (by decide) (by decide)]
    conv => whnf
    try (refine ⟨by kernel_rfl, ?_⟩; conv => whnf)
    refine ⟨_, ret_of_fn G0ok (m) (by first | rfl | simp only [noHs, noH, nI, bI, Bool.and_self, Bool.and_true, Bool.true_and, ]) (by first | rfl | simp only [noHs, noH, nI, bI, Bool.and_self, Bool.and_true, Bool.true_and, ]), ?_⟩; (conv => whnf); (try (refine ⟨by kernel_rfl, ?_⟩; conv => whnf))
    refine ⟨_, ret_of_fn G0ok (ky) (by first | rfl | simp only [noHs, noH, nI, bI, Bool.and_self, Bool.and_true, Bool.true_and, bts_noHs]) (by first | rfl | simp only [noHs, noH, nI, bI, Bool.and_self, Bool.and_true, Bool.true_and, bts_noHs]), ?_⟩; (conv => whnf); (try (refine ⟨by kernel_rfl, ?_⟩; conv => whnf))
    refine onlyIf_intro (by rw [lB]; rfl) ?_
    conv => whnf
    try (refine ⟨by kernel_rfl, ?_⟩; conv => whnf)
    refine onlyIf_intro (by simp [lB, maxLen]) ?_
    conv => whnf
    try (refine ⟨by kernel_rfl, ?_⟩; conv => whnf)
    refine bindP_intro (view_sub rfl (by rw [lB]; decide) h4) ?_
    conv => whnf
    try (refine ⟨by kernel_rfl, ?_⟩; conv => whnf)
    refine ⟨[43, 90, 213, 196], by rfl, by rfl, ?_⟩
    conv => whnf
    try (refine ⟨by kernel_rfl, ?_⟩; conv => whnf)
    refine .read 2 [.v (.string ⟨#[126, 95, 69, 82]⟩), .v (.string ⟨#[43, 90, 213, 196]⟩)] (by rfl) (by rfl) (by rfl) (by rfl) ?_
    conv => whnf
    try (refine ⟨by kernel_rfl, ?_⟩; conv => whnf)
    refine ⟨_, rfl, ?_⟩
    refine congrArg some (congrArg VV.v (congrArg Value.bool ?_))
    exact (str_eq [43, 90, 213, 196] [43, 90, 213, 196]).trans (decide_eq_true rfl)
namespace lawKeysKnown
set_option linter.unusedVariables false
set_option maxRecDepth 100000 in
theorem lifted (os : Os) (started : os.Started) (H : Type) (enc : TypeId × Value → H) :
    ReturnsInHanded {} Tryd.checked os 7 .any (fun w args => (Rows.keysKnownSpec.pre enc Tryd.prog Tryd.f7 [] false w args ∧ laidMetH Tryd.prog laidL w) ∧ sizedMet enc Tryd.prog Tryd.f7 (OpenSpec.ofChange Rows.keysKnownSpec) false w args)
      (Rows.keysKnownSpec.post enc Tryd.prog Tryd.f7 false true false false) := by
  refine returnsInHanded_of_change_and (C := Tryd.checked) (X := fun w _ => laidMetH Tryd.prog laidL w) (fun _ _ _ hh h => h.of_heap hh) rowOwn started (by kernel_rfl) Tryd.func7
    (ChangeSpec.witness_shaped (enc := enc) (C := Tryd.checked) (os := os) (X := fun w _ => laidMetH Tryd.prog laidL w) false (World.doorLaid Tryd.prog 400 os) #[.int .i64 0] 8 rfl (World.shaped_of_RefB (by kernel_rfl) (by kernel_rfl)) (by kernel_rfl) (by kernel_rfl) (by kernel_rfl) (door_met os _)) ?_
  intro W base args ds gs before hval0 hW _ _ hL _
  have hval : ∀ (j : Nat) t v, Tryd.f7.params[j]? = some t → args[j]? = some v → Value.okWide Tryd.prog W .any base t v := hval0
  have hW' := hW
  obtain ⟨p, q, hA0, hV, rfl, hfz, hnd⟩ := hW
  have hA : DataW.TrodAll enc Tryd.prog W 0 (fun _ => true) true Tryd.f7.params.toList args.toList ds p := hA0
  rw [Tryd.params7] at hA hval
  obtain ⟨v0, vs0, d0, ds0, p0, q0, hargs, rfl, rfl, h0, r0⟩ := trodAll_cons hA
  obtain ⟨rfl, rfl, rfl⟩ := trodAll_nil r0
  obtain rfl : args = #[v0] := by cases args; simp_all
  obtain ⟨rfl, rfl⟩ := trodVars_none hV
  obtain ⟨a0, rfl, rfl, rfl, w0⟩ := open_int Tryd.underlying3 (hval 0 3 v0 rfl rfl) h0
  clear hA0 hval0
  refine (calls_of_fn Tryd.func7 (by kernel_rfl) rfl (fnKeysKnown a0 (bounds_i64 w0)) (hG_laid hL) (VRs.cons rfl VRs.snoc_nil)).mono fun e W' ⟨he, bel⟩ => ?_
  subst he
  exact ⟨_, rfl, _, _, _, [], _, [], hW', trodAll_mk1 (shut_bool Tryd.underlying4 _), (trodAll_cons_mk (shut_int Tryd.underlying3 w0) trodAll_mk0), rfl, bel.frame _, fun h => by cases h⟩
theorem over : Rows.keysKnownRow.holds Tryd.pinned (OpenSpec.ofChange Rows.keysKnownSpec) :=
  OpenClaim.holds_of_wide 7 Tryd.f7 rfl rfl rfl rfl rfl rfl rfl ⟨rfl, rfl, rfl, rfl, rfl⟩ rfl rfl rfl rfl rfl (by kernel_rfl) Tryd.func7 (by kernel_rfl)
    (of_decide_eq_true (by kernel_rfl)) (by unfold Func.isWrapper; first | (rw [if_pos (by decide +kernel)]; kernel_rfl) | (rw [if_neg (by decide +kernel)]; exact ⟨rfl, rfl⟩))
    (fun os started H enc _ => lifted os started H enc)
theorem proved : Rows.KeysKnownCardSaid :=
  Claim7.holds_tied_plain_at .later [] [.data, .data] true _ _
    over (fun _ h => by cases h) (by kernel_rfl) (fun _ h => by cases h) keysKnown_row_tie rfl ⟨rfl, rfl⟩ (by kernel_rfl) rfl
    (fun f fn hf hfn => by
      obtain rfl : f = 7 := Option.some.inj ((show Tryd.prog.funcNamed "bascule/basculekeep.KeysKnown" = some 7 by kernel_rfl).symm.trans hf) |>.symm
      obtain rfl : fn = Tryd.f7 := (Option.some.inj (Tryd.func7.symm.trans hfn)).symm
      exact ⟨by kernel_rfl, fun j t ht => by
        rw [Tryd.params7] at ht
        have hm : t ∈ [3] := by simpa using Array.mem_of_getElem? ht
        have hall : ([3].all fun u => !Tryd.prog.wantsStandIn u) = true := by kernel_rfl
        exact (show Tryd.prog.wantsStandIn t = false by simpa using List.all_eq_true.1 hall t hm)⟩)
    (by kernel_rfl)
end lawKeysKnown

end Go.Proofs.YtidkdlaihmpjfaaDoor
