/- TextFixed: what is read is shown just so. -/
import Derived.Test.YtlecdiopokalgaaBUf
namespace Go.Proofs.Ytlecdiopokalgaa
set_option linter.unusedVariables false
set_option linter.unusedSimpArgs false
set_option linter.unusedSectionVars false
open Go.ChangeShapes Go.WideShapes Go.ChangeAt Go.RowKit Go.Joins
set_option maxRecDepth 10000
theorem fnTextFixed (s : ByteArray) (hs : s.size ≤ maxLen) : FnV Try.prog G0 13 [.v (.string s)] (bI true) := by
  obtain ⟨L, rfl⟩ : ∃ L : List UInt8, s = ⟨L.toArray⟩ := ⟨s.data.toList, rfl⟩
  have hL : L.length ≤ maxLen := hs
  have s7 := show_txt (a := 7) (by decide)
  rw [show uV 7 = .agg (words [7, 0, 0, 0]) from congrArg VV.agg (uC_lit (n := 7) (by decide)), show u8L (showB 7) = [55] from by decide] at s7
  have e7 := str_eq [55] [55]
  rw [decide_eq_true rfl] at e7
  have bad : ∀ (z : VV) (e : Nat), noH z = true → e ≠ 0 → FnV Try.prog G0 42 [strV L] (.tup [.agg (words [0, 0, 0, 0]), nI .i64 e]) → FnV Try.prog G0 13 [strV L] (bI true) := fun z e hz he pf => by
    refine fn_of_vwp Γok Try.func13 (by kernel_rfl) rfl (by simp [Try.ntmps13]) (wpv_ok Γok (by kernel_rfl) _ _ _ ?_); conv => whnf
    refine ⟨_, ret_of_fn G0ok (pf) (by first | rfl | simp only [noHs, noH, nI, bI, Bool.and_self, Bool.and_true, Bool.true_and, words_noHs]) (by first | rfl | simp only [noHs, noH, nI, bI, Bool.and_self, Bool.and_true, Bool.true_and, words_noHs]), ?_⟩; (conv => whnf); (try (refine ⟨by kernel_rfl, ?_⟩; conv => whnf))
    refine ⟨_, ret_of_fn G0ok (s7) (by first | rfl | simp only [noHs, noH, nI, bI, Bool.and_self, Bool.and_true, Bool.true_and, words_noHs]) (by first | rfl | simp only [noHs, noH, nI, bI, Bool.and_self, Bool.and_true, Bool.true_and, words_noHs]), ?_⟩; (conv => whnf); (try (refine ⟨by kernel_rfl, ?_⟩; conv => whnf))
    rw [show hid ((ByteArray.mk ([55] : List UInt8).toArray).toList == (ByteArray.mk #[55]).toList) = true from e7]
    conv => whnf
    try (refine ⟨by kernel_rfl, ?_⟩; conv => whnf)
    rw [show (((e : Nat) : Int) != 0) = true from by rw [show (((e : Nat) : Int) != 0) = !decide (e = 0) from congrArg (!·) (beq_lit e 0), decide_eq_false he]; rfl]
    conv => whnf
    try (refine ⟨by kernel_rfl, ?_⟩; conv => whnf)
    exact ⟨_, rfl, rfl⟩
  rcases Nat.lt_or_ge 78 L.length with h | h78
  · exact bad (bI true) 1 rfl (by decide) (parse_big h hL)
  rcases Nat.eq_zero_or_pos L.length with h | h0
  · have : L = [] := List.eq_nil_of_length_eq_zero h
    subst this
    exact bad (bI true) 3 rfl (by decide) parse_none
  by_cases hf : L.length = 1 ∨ (bl L).getD 0 0 ≠ 48
  · have pg := parse_go h78 h0 hf
    have ll := bl_len L
    unfold parV at pg
    split at pg
    · exact bad (bI true) 3 rfl (by decide) pg
    · rename_i hd
      split at pg
      · exact bad (bI true) 6 rfl (by decide) pg
      · rename_i hv
        have hv : valB (bl L) (bl L).length < T256 := by omega
        have sh := show_txt hv
        rw [show_read (B := bl L) (by omega) (by omega) (by simpa using hd) (by rw [ll]; exact hf), u8L_bl] at sh
        refine gen_ex (valB (bl L) (bl L).length) fun v ev => ?_
        rw [← ev] at sh pg
        have es := str_eq L L
        rw [decide_eq_true rfl] at es
        refine fn_of_vwp Γok Try.func13 (by kernel_rfl) rfl (by simp [Try.ntmps13]) (wpv_ok Γok (by kernel_rfl) _ _ _ ?_); conv => whnf
        refine ⟨_, ret_of_fn G0ok (pg) (by first | rfl | simp only [noHs, noH, nI, bI, Bool.and_self, Bool.and_true, Bool.true_and, words_noHs]) (by first | rfl | simp only [noHs, noH, nI, bI, Bool.and_self, Bool.and_true, Bool.true_and, words_noHs]), ?_⟩; (conv => whnf); (try (refine ⟨by kernel_rfl, ?_⟩; conv => whnf))
        refine ⟨_, ret_of_fn G0ok (s7) (by first | rfl | simp only [noHs, noH, nI, bI, Bool.and_self, Bool.and_true, Bool.true_and, words_noHs]) (by first | rfl | simp only [noHs, noH, nI, bI, Bool.and_self, Bool.and_true, Bool.true_and, words_noHs]), ?_⟩; (conv => whnf); (try (refine ⟨by kernel_rfl, ?_⟩; conv => whnf))
        rw [show hid ((ByteArray.mk ([55] : List UInt8).toArray).toList == (ByteArray.mk #[55]).toList) = true from e7]
        conv => whnf
        try (refine ⟨by kernel_rfl, ?_⟩; conv => whnf)
        refine ⟨_, ret_of_fn G0ok (sh) (by first | rfl | simp only [noHs, noH, nI, bI, Bool.and_self, Bool.and_true, Bool.true_and, words_noHs]) (by first | rfl | simp only [noHs, noH, nI, bI, Bool.and_self, Bool.and_true, Bool.true_and, words_noHs]), ?_⟩; (conv => whnf); (try (refine ⟨by kernel_rfl, ?_⟩; conv => whnf))
        rw [es]
        conv => whnf
        try (refine ⟨by kernel_rfl, ?_⟩; conv => whnf)
        exact ⟨_, rfl, rfl⟩
  · exact bad (bI true) 3 rfl (by decide) (parse_lead h78 (by omega) (by omega))
namespace lawTextFixed
set_option linter.unusedVariables false
set_option maxRecDepth 100000 in
theorem lifted (os : Os) (started : os.Started) (H : Type) (enc : TypeId × Value → H) :
    ReturnsInHanded {} Try.checked os 13 .any (Rows.textFixedSpec.pre6 enc Try.prog Try.f13 Rows.textFixedRow.domain false) (Rows.textFixedSpec.post enc Try.prog Try.f13 false true false false) := by
  refine returnsInHanded_of_change (C := Try.checked) rowOwn started (by kernel_rfl) Try.func13
    (ChangeSpec.witness6 (enc := enc) (C := Try.checked) false ⟨#[], #[.string ByteArray.empty], []⟩ 8 (by kernel_rfl) (by kernel_rfl) (by kernel_rfl) (by kernel_rfl)) ?_
  intro W base args ds gs before hval0 hW hcnd _
  have hval : ∀ (j : Nat) t v, Try.f13.params[j]? = some t → args[j]? = some v → Value.okWide Try.prog W .any base t v := hval0
  have hW' := hW
  obtain ⟨p, q, hA0, hV, rfl, hfz, hnd⟩ := hW
  have hA : DataW.TrodAll enc Try.prog W 0 (fun _ => true) true Try.f13.params.toList args.toList ds p := hA0
  rw [Try.params13] at hA hval
  obtain ⟨v0, vs0, d0, ds0, p0, q0, hargs, rfl, rfl, h0, r0⟩ := trodAll_cons hA
  obtain ⟨rfl, rfl, rfl⟩ := trodAll_nil r0
  obtain rfl : args = #[v0] := by cases args; simp_all
  obtain ⟨rfl, rfl⟩ := trodVars_none hV
  obtain ⟨a0, rfl, rfl, rfl, w0⟩ := Go.ChangeMaps.open_string Try.underlying9 (hval 0 9 v0 rfl rfl) h0
  clear hA0 hval0
  refine (calls_of_fn Try.func13 (by kernel_rfl) rfl (fnTextFixed a0 w0) (fun _ _ h => by cases h) (VRs.cons rfl VRs.snoc_nil)).mono fun e W' ⟨he, bel⟩ => ?_
  subst he
  exact ⟨_, rfl, _, _, _, [], _, [], hW', trodAll_mk1 (shut_bool Try.underlying4 _), (trodAll_cons_mk (Go.ChangeMaps.shut_string Try.underlying9 w0) trodAll_mk0), rfl, bel.frame _, fun h => by cases h⟩
theorem over : Rows.textFixedRow.holds Try.pinned (OpenSpec.ofChange Rows.textFixedSpec) :=
  OpenClaim.holds_of_wide 13 Try.f13 rfl rfl rfl rfl rfl rfl rfl ⟨rfl, rfl, rfl, rfl, rfl⟩ rfl rfl rfl rfl rfl (by kernel_rfl) Try.func13 (by kernel_rfl)
    (of_decide_eq_true (by kernel_rfl)) (by unfold Func.isWrapper; first | (rw [if_pos (by decide +kernel)]; kernel_rfl) | (rw [if_neg (by decide +kernel)]; exact ⟨rfl, rfl⟩))
    (fun os started H enc _ => lifted os started H enc)
theorem proved : Rows.TextFixedSaid := over
end lawTextFixed

end Go.Proofs.Ytlecdiopokalgaa
