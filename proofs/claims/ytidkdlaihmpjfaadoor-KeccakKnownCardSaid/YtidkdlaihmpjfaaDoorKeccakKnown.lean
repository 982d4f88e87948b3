/- KeccakKnown: sums that all the world knows: of nothing, and of abc. -/
import Derived.Test.YtidkdlaihmpjfaaDoorVKecE
import Derived.Test.YtidkdlaihmpjfaaDoorVGlob
import Derived.Test.YtidkdlaihmpjfaaDoorPicked
import Derived.Test.YtidkdlaihmpjfaaDoorCards
import Derived.Test.YtidkdlaihmpjfaaDoorTie
import Derived.SevenTiedAt
import Derived.OpenShut
namespace Go.Proofs.YtidkdlaihmpjfaaDoor
set_option linter.unusedVariables false
set_option linter.unusedSimpArgs false
set_option linter.unusedSectionVars false
open Go.ChangeShapes Go.WideShapes Go.ChangeAt Go.RowKit Go.Joins
set_option maxRecDepth 10000
theorem kSum_len (l : List Nat) : (kSum l).length = 32 := by unfold kSum spEnd; rw [hid_eq, outB_len]
theorem kSum_lt (l : List Nat) : ∀ x ∈ kSum l, x < 256 := by unfold kSum spEnd; rw [hid_eq]; exact outB_lt _ _
theorem view_sub {lkf : Nat → Option (List VV)} {h off n wd : Nat} {cs ds : List VV} (h1 : lkf h = some cs) (h2 : off + n * wd ≤ cs.length) (h3 : (cs.drop off).take (n * wd) = ds) : view lkf (.sl h off n wd) = some ([h], n, ds) := by
  unfold view
  simp only [h1]
  split
  · rename_i hw
    have := whole_of hw
    rw [← this.1] at h3
    rw [h3]
  · rw [show Nat.ble (off + n * wd) cs.length = true from by simpa using h2]
    simp only []
    rw [h3]
theorem fnKeccakKnown (n : Int) (_ : I64 n) : FnV Tryd.prog G0 5 [nI .i64 n] (bI true) := by
  have pk := picked_fn n 2 (by decide) (by decide)
  obtain ⟨k, hk, lk⟩ : ∃ k : Nat, n % 2 = (k : Int) ∧ k < 2 := ⟨(n % 2).toNat, by omega, by omega⟩
  rw [hk] at pk
  clear hk
  have s0 := sum_fn (l := []) (by simp) (by decide) false
  have s1 := sum_fn (l := [97, 98, 99]) (by decide) (by decide) false
  have hk : k = 0 ∨ k = 1 := by omega
  rcases hk with rfl | rfl
  · refine fn_of_vwp Γok Tryd.func5 (by kernel_rfl) rfl (by simp [Tryd.ntmps5]) (wpv_ok Γok (by kernel_rfl) _ _ _ ?_); conv => whnf
    refine ⟨_, ret_of_fn G0ok (pk) (by first | rfl | simp only [noHs, noH, nI, bI, Bool.and_self, Bool.and_true, Bool.true_and, ]) (by first | rfl | simp only [noHs, noH, nI, bI, Bool.and_self, Bool.and_true, Bool.true_and, ]), ?_⟩; (conv => whnf); (try (refine ⟨by kernel_rfl, ?_⟩; conv => whnf))
    refine .read 2 [.v (.string ⟨#[]⟩), .v (.string ⟨#[97, 98, 99]⟩)] (by rfl) (by rfl) (by rfl) (by rfl) ?_
    conv => whnf
    try (refine ⟨by kernel_rfl, ?_⟩; conv => whnf)
    refine .read 0 [] (by rfl) (by rfl) (by rfl) (by rfl) ?_
    conv => whnf
    try (refine ⟨by kernel_rfl, ?_⟩; conv => whnf)
    have lK : (bts (kSum [])).length = 32 := by rw [bts_length, kSum_len]
    refine ⟨_, ret_of_fn G0ok (s0) (by first | rfl | simp only [noHs, noH, nI, bI, Bool.and_self, Bool.and_true, Bool.true_and, bts_noHs]) (by first | rfl | simp only [noHs, noH, nI, bI, Bool.and_self, Bool.and_true, Bool.true_and, bts_noHs]), ?_⟩; (conv => whnf); (try (refine ⟨by kernel_rfl, ?_⟩; conv => whnf))
    refine onlyIf_intro (by rw [lK]; rfl) ?_
    conv => whnf
    try (refine ⟨by kernel_rfl, ?_⟩; conv => whnf)
    refine onlyIf_intro (by simp [lK, maxLen]) ?_
    conv => whnf
    try (refine ⟨by kernel_rfl, ?_⟩; conv => whnf)
    have h8 : ((bts (kSum [])).drop 0).take (8 * 1) = bts [197, 210, 70, 1, 134, 247, 35, 60] := by
      rw [← known_empty]; simp [bts]
    refine bindP_intro (view_sub rfl (by rw [lK]; decide) h8) ?_
    conv => whnf
    try (refine ⟨by kernel_rfl, ?_⟩; conv => whnf)
    refine ⟨[197, 210, 70, 1, 134, 247, 35, 60], by rfl, by rfl, ?_⟩
    conv => whnf
    try (refine ⟨by kernel_rfl, ?_⟩; conv => whnf)
    refine .read 2 [.v (.string ⟨#[197, 210, 70, 1, 134, 247, 35, 60]⟩), .v (.string ⟨#[78, 3, 101, 122, 234, 69, 169, 79]⟩)] (by rfl) (by rfl) (by rfl) (by rfl) ?_
    conv => whnf
    try (refine ⟨by kernel_rfl, ?_⟩; conv => whnf)
    refine ⟨_, rfl, ?_⟩
    refine congrArg some (congrArg VV.v (congrArg Value.bool ?_))
    exact (str_eq [197, 210, 70, 1, 134, 247, 35, 60] [197, 210, 70, 1, 134, 247, 35, 60]).trans (decide_eq_true rfl)
  · refine fn_of_vwp Γok Tryd.func5 (by kernel_rfl) rfl (by simp [Tryd.ntmps5]) (wpv_ok Γok (by kernel_rfl) _ _ _ ?_); conv => whnf
    refine ⟨_, ret_of_fn G0ok (pk) (by first | rfl | simp only [noHs, noH, nI, bI, Bool.and_self, Bool.and_true, Bool.true_and, ]) (by first | rfl | simp only [noHs, noH, nI, bI, Bool.and_self, Bool.and_true, Bool.true_and, ]), ?_⟩; (conv => whnf); (try (refine ⟨by kernel_rfl, ?_⟩; conv => whnf))
    refine .read 2 [.v (.string ⟨#[]⟩), .v (.string ⟨#[97, 98, 99]⟩)] (by rfl) (by rfl) (by rfl) (by rfl) ?_
    conv => whnf
    try (refine ⟨by kernel_rfl, ?_⟩; conv => whnf)
    refine .read 3 (bts [97, 98, 99]) (by rfl) (by rfl) (by rfl) (by rfl) ?_
    conv => whnf
    try (refine ⟨by kernel_rfl, ?_⟩; conv => whnf)
    have lK : (bts (kSum [97, 98, 99])).length = 32 := by rw [bts_length, kSum_len]
    refine ⟨_, ret_of_fn G0ok (s1) (by first | rfl | simp only [noHs, noH, nI, bI, Bool.and_self, Bool.and_true, Bool.true_and, bts_noHs]) (by first | rfl | simp only [noHs, noH, nI, bI, Bool.and_self, Bool.and_true, Bool.true_and, bts_noHs]), ?_⟩; (conv => whnf); (try (refine ⟨by kernel_rfl, ?_⟩; conv => whnf))
    refine onlyIf_intro (by rw [lK]; rfl) ?_
    conv => whnf
    try (refine ⟨by kernel_rfl, ?_⟩; conv => whnf)
    refine onlyIf_intro (by simp [lK, maxLen]) ?_
    conv => whnf
    try (refine ⟨by kernel_rfl, ?_⟩; conv => whnf)
    have h8 : ((bts (kSum [97, 98, 99])).drop 0).take (8 * 1) = bts [78, 3, 101, 122, 234, 69, 169, 79] := by
      rw [← known_abc]; simp [bts]
    refine bindP_intro (view_sub rfl (by rw [lK]; decide) h8) ?_
    conv => whnf
    try (refine ⟨by kernel_rfl, ?_⟩; conv => whnf)
    refine ⟨[78, 3, 101, 122, 234, 69, 169, 79], by rfl, by rfl, ?_⟩
    conv => whnf
    try (refine ⟨by kernel_rfl, ?_⟩; conv => whnf)
    refine .read 2 [.v (.string ⟨#[197, 210, 70, 1, 134, 247, 35, 60]⟩), .v (.string ⟨#[78, 3, 101, 122, 234, 69, 169, 79]⟩)] (by rfl) (by rfl) (by rfl) (by rfl) ?_
    conv => whnf
    try (refine ⟨by kernel_rfl, ?_⟩; conv => whnf)
    refine ⟨_, rfl, ?_⟩
    refine congrArg some (congrArg VV.v (congrArg Value.bool ?_))
    exact (str_eq [78, 3, 101, 122, 234, 69, 169, 79] [78, 3, 101, 122, 234, 69, 169, 79]).trans (decide_eq_true rfl)
namespace lawKeccakKnown
set_option linter.unusedVariables false
set_option maxRecDepth 100000 in
theorem lifted (os : Os) (started : os.Started) (H : Type) (enc : TypeId × Value → H) :
    ReturnsInHanded {} Tryd.checked os 5 .any (fun w args => (Rows.keccakKnownSpec.pre enc Tryd.prog Tryd.f5 [] false w args ∧ laidMetH Tryd.prog laidL w) ∧ sizedMet enc Tryd.prog Tryd.f5 (OpenSpec.ofChange Rows.keccakKnownSpec) false w args)
      (Rows.keccakKnownSpec.post enc Tryd.prog Tryd.f5 false true false false) := by
  refine returnsInHanded_of_change_and (C := Tryd.checked) (X := fun w _ => laidMetH Tryd.prog laidL w) (fun _ _ _ hh h => h.of_heap hh) rowOwn started (by kernel_rfl) Tryd.func5
    (ChangeSpec.witness_shaped (enc := enc) (C := Tryd.checked) (os := os) (X := fun w _ => laidMetH Tryd.prog laidL w) false (World.doorLaid Tryd.prog 400 os) #[.int .i64 0] 8 rfl (World.shaped_of_RefB (by kernel_rfl) (by kernel_rfl)) (by kernel_rfl) (by kernel_rfl) (by kernel_rfl) (door_met os _)) ?_
  intro W base args ds gs before hval0 hW _ _ hL _
  have hval : ∀ (j : Nat) t v, Tryd.f5.params[j]? = some t → args[j]? = some v → Value.okWide Tryd.prog W .any base t v := hval0
  have hW' := hW
  obtain ⟨p, q, hA0, hV, rfl, hfz, hnd⟩ := hW
  have hA : DataW.TrodAll enc Tryd.prog W 0 (fun _ => true) true Tryd.f5.params.toList args.toList ds p := hA0
  rw [Tryd.params5] at hA hval
  obtain ⟨v0, vs0, d0, ds0, p0, q0, hargs, rfl, rfl, h0, r0⟩ := trodAll_cons hA
  obtain ⟨rfl, rfl, rfl⟩ := trodAll_nil r0
  obtain rfl : args = #[v0] := by cases args; simp_all
  obtain ⟨rfl, rfl⟩ := trodVars_none hV
  obtain ⟨a0, rfl, rfl, rfl, w0⟩ := open_int Tryd.underlying3 (hval 0 3 v0 rfl rfl) h0
  clear hA0 hval0
  refine (calls_of_fn Tryd.func5 (by kernel_rfl) rfl (fnKeccakKnown a0 (bounds_i64 w0)) (hG_laid hL) (VRs.cons rfl VRs.snoc_nil)).mono fun e W' ⟨he, bel⟩ => ?_
  subst he
  exact ⟨_, rfl, _, _, _, [], _, [], hW', trodAll_mk1 (shut_bool Tryd.underlying4 _), (trodAll_cons_mk (shut_int Tryd.underlying3 w0) trodAll_mk0), rfl, bel.frame _, fun h => by cases h⟩
theorem over : Rows.keccakKnownRow.holds Tryd.pinned (OpenSpec.ofChange Rows.keccakKnownSpec) :=
  OpenClaim.holds_of_wide 5 Tryd.f5 rfl rfl rfl rfl rfl rfl rfl ⟨rfl, rfl, rfl, rfl, rfl⟩ rfl rfl rfl rfl rfl (by kernel_rfl) Tryd.func5 (by kernel_rfl)
    (of_decide_eq_true (by kernel_rfl)) (by unfold Func.isWrapper; first | (rw [if_pos (by decide +kernel)]; kernel_rfl) | (rw [if_neg (by decide +kernel)]; exact ⟨rfl, rfl⟩))
    (fun os started H enc _ => lifted os started H enc)
theorem proved : Rows.KeccakKnownCardSaid :=
  Claim7.holds_tied_plain_at .later [] [.data, .data] true _ _
    over (fun _ h => by cases h) (by kernel_rfl) (fun _ h => by cases h) keccakKnown_row_tie rfl ⟨rfl, rfl⟩ (by kernel_rfl) rfl
    (fun f fn hf hfn => by
      obtain rfl : f = 5 := Option.some.inj ((show Tryd.prog.funcNamed "bascule/basculekeep.KeccakKnown" = some 5 by kernel_rfl).symm.trans hf) |>.symm
      obtain rfl : fn = Tryd.f5 := (Option.some.inj (Tryd.func5.symm.trans hfn)).symm
      exact ⟨by kernel_rfl, fun j t ht => by
        rw [Tryd.params5] at ht
        have hm : t ∈ [3] := by simpa using Array.mem_of_getElem? ht
        have hall : ([3].all fun u => !Tryd.prog.wantsStandIn u) = true := by kernel_rfl
        exact (show Tryd.prog.wantsStandIn t = false by simpa using List.all_eq_true.1 hall t hm)⟩)
    (by kernel_rfl)
end lawKeccakKnown

end Go.Proofs.YtidkdlaihmpjfaaDoor
