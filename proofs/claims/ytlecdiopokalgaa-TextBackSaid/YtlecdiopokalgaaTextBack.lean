/- TextBack: a number is read as it was shown; with a nought ahead it isn't. -/
import Derived.Test.YtlecdiopokalgaaBUf
import Derived.Test.YtlecdiopokalgaaBUc
namespace Go.Proofs.Ytlecdiopokalgaa
set_option linter.unusedVariables false
set_option linter.unusedSimpArgs false
set_option linter.unusedSectionVars false
open Go.ChangeShapes Go.WideShapes Go.ChangeAt Go.RowKit Go.Joins
set_option maxRecDepth 10000
theorem fnTextBack (x : RawD) (_ : x.ok) : FnV Try.prog G0 12 [x.v] (bI true) := by
  have n1 := number_fn x
  have hn := rawN_lt x
  refine gen_ex (rawN x) fun a ea => ?_
  rw [← ea] at n1 hn
  clear ea
  have sh := show_txt hn
  obtain ⟨f1, f2, f3, f4, f5, f6⟩ := show_facts hn
  have be := bl_u8L f6
  have le : (u8L (showB a)).length = (showB a).length := by unfold u8L; rw [List.length_map]
  have pg := parse_go (L := u8L (showB a)) (by omega) (by omega) (by rw [be, le]; exact f5)
  have pv : parV (bl (u8L (showB a))) = .tup [uV a, nI .i64 0] := by
    rw [be]
    unfold parV
    rw [f3, f4, if_neg (by decide), if_neg (by omega)]
  rw [pv] at pg
  have bc : bl (48 :: u8L (showB a)) = 48 :: showB a := by
    show 48 :: bl (u8L (showB a)) = _
    rw [be]
  have eqs := eq_uC (a := a) (b := a) hn hn
  rw [decide_eq_true rfl] at eqs
  refine gen_ex (u8L (showB a)) fun S eS => ?_
  rw [← eS] at sh pg le bc
  unfold RawD.v RawD.cells at *
  refine fn_of_vwp Γok Try.func12 (by kernel_rfl) rfl (by simp [Try.ntmps12]) (wpv_ok Γok (by kernel_rfl) _ _ _ ?_); conv => whnf
  refine ⟨_, ret_of_fn G0ok (n1) (by first | rfl | simp only [noHs, noH, nI, bI, Bool.and_self, Bool.and_true, Bool.true_and, words_noHs]) (by first | rfl | simp only [noHs, noH, nI, bI, Bool.and_self, Bool.and_true, Bool.true_and, words_noHs]), ?_⟩; (conv => whnf); (try (refine ⟨by kernel_rfl, ?_⟩; conv => whnf))
  refine ⟨_, ret_of_fn G0ok (sh) (by first | rfl | simp only [noHs, noH, nI, bI, Bool.and_self, Bool.and_true, Bool.true_and, ]) (by first | rfl | simp only [noHs, noH, nI, bI, Bool.and_self, Bool.and_true, Bool.true_and, ]), ?_⟩; (conv => whnf); (try (refine ⟨by kernel_rfl, ?_⟩; conv => whnf))
  refine ⟨_, ret_of_fn G0ok (pg) (by first | rfl | simp only [noHs, noH, nI, bI, Bool.and_self, Bool.and_true, Bool.true_and, words_noHs]) (by first | rfl | simp only [noHs, noH, nI, bI, Bool.and_self, Bool.and_true, Bool.true_and, words_noHs]), ?_⟩; (conv => whnf); (try (refine ⟨by kernel_rfl, ?_⟩; conv => whnf))
  have cc : ByteArray.mk #[48] ++ ByteArray.mk S.toArray = ByteArray.mk (48 :: S).toArray := by
    rw [show (ByteArray.mk #[48]) = ByteArray.mk ([48] : List UInt8).toArray from rfl, ByteArray.mk_append_mk]
    simp
  have l48 : (48 :: S).length = S.length + 1 := rfl
  refine bindP_intro (if_pos (show (ByteArray.mk #[48]).size + (ByteArray.mk S.toArray).size ≤ 9223372036854775807 from by show 1 + S.length ≤ _; omega)) ?_
  rw [hid_eq, cc]
  conv => whnf
  try (refine ⟨by kernel_rfl, ?_⟩; conv => whnf)
  by_cases h78 : S.length = 78
  · have pb := parse_big (L := 48 :: S) (by omega) (by rw [l48, h78]; decide)
    refine ⟨_, ret_of_fn G0ok (pb) (by first | rfl | simp only [noHs, noH, nI, bI, Bool.and_self, Bool.and_true, Bool.true_and, words_noHs]) (by first | rfl | simp only [noHs, noH, nI, bI, Bool.and_self, Bool.and_true, Bool.true_and, words_noHs]), ?_⟩; (conv => whnf); (try (refine ⟨by kernel_rfl, ?_⟩; conv => whnf))
    refine ⟨true, eqs, ?_⟩
    conv => whnf
    try (refine ⟨by kernel_rfl, ?_⟩; conv => whnf)
    rw [show (ByteArray.mk S.toArray).size = 78 from h78]
    conv => whnf
    try (refine ⟨by kernel_rfl, ?_⟩; conv => whnf)
    exact ⟨_, rfl, rfl⟩
  · have pl := parse_lead (L := 48 :: S) (by omega) (by omega) (by rw [bc]; rfl)
    refine ⟨_, ret_of_fn G0ok (pl) (by first | rfl | simp only [noHs, noH, nI, bI, Bool.and_self, Bool.and_true, Bool.true_and, words_noHs]) (by first | rfl | simp only [noHs, noH, nI, bI, Bool.and_self, Bool.and_true, Bool.true_and, words_noHs]), ?_⟩; (conv => whnf); (try (refine ⟨by kernel_rfl, ?_⟩; conv => whnf))
    refine ⟨true, eqs, ?_⟩
    conv => whnf
    try (refine ⟨by kernel_rfl, ?_⟩; conv => whnf)
    exact ⟨_, rfl, rfl⟩
namespace lawTextBack
set_option linter.unusedVariables false
set_option maxRecDepth 100000 in
theorem lifted (os : Os) (started : os.Started) (H : Type) (enc : TypeId × Value → H) :
    ReturnsInHanded {} Try.checked os 12 .any (Rows.textBackSpec.pre6 enc Try.prog Try.f12 Rows.textBackRow.domain false) (Rows.textBackSpec.post enc Try.prog Try.f12 false true false false) := by
  refine returnsInHanded_of_change (C := Try.checked) rowOwn started (by kernel_rfl) Try.func12
    (ChangeSpec.witness6 (enc := enc) (C := Try.checked) false ⟨#[], #[.agg #[.int .i64 0, .int .i64 0, .int .i64 0, .string ByteArray.empty]], []⟩ 8 (by kernel_rfl) (by kernel_rfl) (by kernel_rfl) (by kernel_rfl)) ?_
  intro W base args ds gs before hval0 hW hcnd _
  have hval : ∀ (j : Nat) t v, Try.f12.params[j]? = some t → args[j]? = some v → Value.okWide Try.prog W .any base t v := hval0
  have hW' := hW
  obtain ⟨p, q, hA0, hV, rfl, hfz, hnd⟩ := hW
  have hA : DataW.TrodAll enc Try.prog W 0 (fun _ => true) true Try.f12.params.toList args.toList ds p := hA0
  rw [Try.params12] at hA hval
  obtain ⟨v0, vs0, d0, ds0, p0, q0, hargs, rfl, rfl, h0, r0⟩ := trodAll_cons hA
  obtain ⟨rfl, rfl, rfl⟩ := trodAll_nil r0
  obtain rfl : args = #[v0] := by cases args; simp_all
  obtain ⟨rfl, rfl⟩ := trodVars_none hV
  have k0 := h0
  have lt0 : ∀ x ∈ p0, x.block < W.heap.size := by obtain ⟨m, hm⟩ := k0; exact DataW.trod_lt m _ _ _ hm
  obtain ⟨a0, w0, u0⟩ := raw_open (hval 0 24 v0 rfl rfl) h0
  clear hA0 hval0
  refine (calls_of_fn Try.func12 (by kernel_rfl) rfl (fnTextBack a0 w0) (fun _ _ h => by cases h) (VRs.cons (u0 _) VRs.snoc_nil)).mono fun e W' ⟨he, bel⟩ => ?_
  subst he
  exact ⟨_, rfl, _, _, _, [], _, [], hW', trodAll_mk1 (shut_bool Try.underlying4 _), (trodAll_cons_mk (Below.trod rowLaid (by kernel_rfl) (of_decide_eq_true (by kernel_rfl)) k0 bel lt0) trodAll_mk0), rfl, bel.frame _, fun h => by cases h⟩
theorem over : Rows.textBackRow.holds Try.pinned (OpenSpec.ofChange Rows.textBackSpec) :=
  OpenClaim.holds_of_wide 12 Try.f12 rfl rfl rfl rfl rfl rfl rfl ⟨rfl, rfl, rfl, rfl, rfl⟩ rfl rfl rfl rfl rfl (by kernel_rfl) Try.func12 (by kernel_rfl)
    (of_decide_eq_true (by kernel_rfl)) (by unfold Func.isWrapper; first | (rw [if_pos (by decide +kernel)]; kernel_rfl) | (rw [if_neg (by decide +kernel)]; exact ⟨rfl, rfl⟩))
    (fun os started H enc _ => lifted os started H enc)
theorem proved : Rows.TextBackSaid := over
end lawTextBack

end Go.Proofs.Ytlecdiopokalgaa
