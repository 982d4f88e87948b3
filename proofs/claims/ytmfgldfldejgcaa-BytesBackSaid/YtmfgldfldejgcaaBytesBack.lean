/- BytesBack: a number is its bytes, and stands as they stand. -/
import Derived.Test.YtmfgldfldejgcaaVBytesL
import Derived.Test.YtmfgldfldejgcaaVWord
import Derived.Test.YtmfgldfldejgcaaVRaw
import Derived.Test.YtmfgldfldejgcaaVCmp
import Derived.Laws.Strings
namespace Go.Proofs.Ytmfgldfldejgcaa
set_option linter.unusedVariables false
set_option linter.unusedSimpArgs false
set_option linter.unusedSectionVars false
open Go.ChangeShapes Go.WideShapes Go.ChangeAt Go.RowKit Go.Joins
set_option maxRecDepth 10000
theorem limL_lt (n : Nat) : ∀ x ∈ limL n, x < 2 ^ 64 := by
  intro x hx
  rw [← B64_eq]
  simp only [limL, List.mem_cons, List.not_mem_nil, or_false] at hx
  rcases hx with rfl | rfl | rfl | rfl <;> exact lim_lt _ _
theorem bytesN_fn (n : Nat) : FnV Try.prog G0 23 [uV n] (.agg (bts (btsTo (limL n) 32))) := bytes_fn (limL n) rfl (limL_lt n)
theorem fnBytesBack (x y : RawD) (_ : x.ok) (_ : y.ok) : FnV Try.prog G0 7 [x.v, y.v] (bI true) := by
  have hx := rawN_lt x
  have hy := rawN_lt y
  have n1 := number_fn x
  have n2 := number_fn y
  have w1 := word_fn x
  have l1 := wordN_length x
  have l2 := wordN_lt x
  unfold RawD.v RawD.cells at *
  refine gen_ex (rawN x) fun a ha => ?_
  refine gen_ex (rawN y) fun b hb => ?_
  refine gen_ex (wordN x) fun c hc => ?_
  rw [← ha] at hx n1
  rw [← hb] at hy n2
  rw [← hc] at w1 l1 l2
  clear ha hb hc
  have b1 := bytesN_fn a
  have b2 := bytesN_fn b
  have f1 := from_fn (btsTo (limL a) 32) (btsTo_length _ _) (btsTo_lt _ _)
  rw [from_bytes_all hx] at f1
  have f2 := from_fn c l1 l2
  have b3 := bytesN_fn (fromV c 32)
  rw [bytes_from l1 l2] at b3
  have less := less_num hx hy
  have p1 := btsTo_length (limL a) 32
  have p2 := btsTo_lt (limL a) 32
  have q1 := btsTo_length (limL b) 32
  have q2 := btsTo_lt (limL b) 32
  have cmp := cmp_fn hx hy
  refine gen_ex (btsTo (limL a) 32) fun p hp => ?_
  refine gen_ex (btsTo (limL b) 32) fun q hq => ?_
  refine gen_ex (fromV c 32) fun v hv => ?_
  rw [← hp] at b1 f1 less p1 p2
  rw [← hq] at b2 less q1 q2
  rw [← hv] at f2 b3
  clear hp hq hv
  refine fn_of_vwp Γok Try.func7 (by kernel_rfl) rfl (by simp [Try.ntmps7]) (wpv_ok Γok (by kernel_rfl) _ _ _ ?_); conv => whnf
  refine ⟨_, ret_of_fn G0ok n1 (by rfl) (by rfl), ?_⟩
  conv => whnf
  refine ⟨_, ret_of_fn G0ok n2 (by rfl) (by rfl), ?_⟩
  conv => whnf
  refine ⟨by kernel_rfl, ?_⟩
  rw [splice_all (new := words [lim a 0, lim a 1, lim a 2, lim a 3]) (by rfl), splice_all (new := words [lim b 0, lim b 1, lim b 2, lim b 3]) (by rfl)]
  conv => whnf
  refine ⟨_, ret_of_fn G0ok b1 (by rfl) (by simp [noH, bts_noHs]), ?_⟩
  conv => whnf
  refine ⟨_, ret_of_fn G0ok b2 (by rfl) (by simp [noH, bts_noHs]), ?_⟩
  conv => whnf
  rw [bts_length, p1, splice_all (new := bts p) (by simp [bts_length, p1])]
  conv => whnf
  rw [bts_length, q1, splice_all (new := bts q) (by simp [bts_length, q1])]
  conv => whnf
  refine ⟨by kernel_rfl, ?_⟩
  conv => whnf
  refine ⟨_, ret_of_fn G0ok cmp (by rfl) rfl, ?_⟩
  conv => whnf
  refine ⟨_, ret_of_fn G0ok tells_fn (by rfl) rfl, ?_⟩
  conv => whnf
  refine bindP_intro (load_agg rfl rfl (by simp [bts_length, p1])) ?_
  conv => whnf
  refine ⟨_, ret_of_fn G0ok f1 (by simp [noHs, noH, bts_noHs]) (by rfl), ?_⟩
  conv => whnf
  refine ⟨_, eq_uC hx hx, ?_⟩
  rw [decide_eq_true rfl]
  conv => whnf
  rw [bts_length, p1]
  conv => whnf
  refine bindP_intro (view_whole rfl (by simp [bts_length, p1])) ?_
  conv => whnf
  refine ⟨u8s p, u8s_byV p2, by simp [u8s, p1], ?_⟩
  conv => whnf
  rw [bts_length, q1]
  conv => whnf
  refine bindP_intro (view_whole rfl (by simp [bts_length, q1])) ?_
  conv => whnf
  refine ⟨u8s q, u8s_byV q2, by simp [u8s, q1], ?_⟩
  conv => whnf
  rw [hid_eq, ByteArray.toList_eq, ByteArray.toList_eq]
  rw [show Op.bytesLess (ByteArray.mk (u8s p).toArray).data.toList (ByteArray.mk (u8s q).toArray).data.toList = decide (a < b) from less, show decide (cmpN a b < 0) = decide (a < b) from decide_eq_decide.2 cmpN_neg, beq_self_eq_true]
  conv => whnf
  refine ⟨_, ret_of_fn G0ok w1 (by rfl) (by simp [noH, bts_noHs]), ?_⟩
  conv => whnf
  refine ⟨_, ret_of_fn G0ok f2 (by simp [noHs, noH, bts_noHs]) (by rfl), ?_⟩
  conv => whnf
  refine ⟨_, ret_of_fn G0ok b3 (by rfl) (by simp [noH, bts_noHs]), ?_⟩
  conv => whnf
  refine ⟨_, ret_of_fn G0ok w1 (by rfl) (by simp [noH, bts_noHs]), ?_⟩
  conv => whnf
  refine ⟨_, eq_b32 l1 l1, ?_⟩
  rw [decide_eq_true rfl]
  conv => whnf
  refine ⟨by kernel_rfl, ?_⟩
  conv => whnf
  exact ⟨_, rfl, rfl⟩
namespace lawBytesBack
set_option linter.unusedVariables false
set_option maxRecDepth 100000 in
theorem lifted (os : Os) (started : os.Started) (H : Type) (enc : TypeId × Value → H) :
    ReturnsInHanded {} Try.checked os 7 .any (Rows.bytesBackSpec.pre6 enc Try.prog Try.f7 Rows.bytesBackRow.domain false) (Rows.bytesBackSpec.post enc Try.prog Try.f7 false true false false) := by
  refine returnsInHanded_of_change (C := Try.checked) rowOwn started (by kernel_rfl) Try.func7
    (ChangeSpec.witness6 (enc := enc) (C := Try.checked) false ⟨#[], #[.agg #[.int .i64 0, .int .i64 0, .int .i64 0, .string ByteArray.empty], .agg #[.int .i64 0, .int .i64 0, .int .i64 0, .string ByteArray.empty]], []⟩ 8 (by kernel_rfl) (by kernel_rfl) (by kernel_rfl) (by kernel_rfl)) ?_
  intro W base args ds gs before hval0 hW hcnd _
  have hval : ∀ (j : Nat) t v, Try.f7.params[j]? = some t → args[j]? = some v → Value.okWide Try.prog W .any base t v := hval0
  have hW' := hW
  obtain ⟨p, q, hA0, hV, rfl, hfz, hnd⟩ := hW
  have hA : DataW.TrodAll enc Try.prog W 0 (fun _ => true) true Try.f7.params.toList args.toList ds p := hA0
  rw [Try.params7] at hA hval
  obtain ⟨v0, vs0, d0, ds0, p0, q0, hargs, rfl, rfl, h0, r0⟩ := trodAll_cons hA
  obtain ⟨v1, vs1, d1, ds1, p1, q1, rfl, rfl, rfl, h1, r1⟩ := trodAll_cons r0
  obtain ⟨rfl, rfl, rfl⟩ := trodAll_nil r1
  obtain rfl : args = #[v0, v1] := by cases args; simp_all
  obtain ⟨rfl, rfl⟩ := trodVars_none hV
  have k0 := h0
  have lt0 : ∀ x ∈ p0, x.block < W.heap.size := by obtain ⟨m, hm⟩ := k0; exact DataW.trod_lt m _ _ _ hm
  obtain ⟨a0, w0, u0⟩ := raw_open (hval 0 29 v0 rfl rfl) h0
  have k1 := h1
  have lt1 : ∀ x ∈ p1, x.block < W.heap.size := by obtain ⟨m, hm⟩ := k1; exact DataW.trod_lt m _ _ _ hm
  obtain ⟨a1, w1, u1⟩ := raw_open (hval 1 29 v1 rfl rfl) h1
  clear hA0 hval0
  refine (calls_of_fn Try.func7 (by kernel_rfl) rfl (fnBytesBack a0 a1 w0 w1) (fun _ _ h => by cases h) (VRs.cons (u0 _) (VRs.cons (u1 _) VRs.snoc_nil))).mono fun e W' ⟨he, bel⟩ => ?_
  subst he
  exact ⟨_, rfl, _, _, _, [], _, [], hW', trodAll_mk1 (shut_bool Try.underlying4 _), (trodAll_cons_mk (Below.trod rowLaid (by kernel_rfl) (of_decide_eq_true (by kernel_rfl)) k0 bel lt0) (trodAll_cons_mk (Below.trod rowLaid (by kernel_rfl) (of_decide_eq_true (by kernel_rfl)) k1 bel lt1) trodAll_mk0)), rfl, bel.frame _, fun h => by cases h⟩
theorem over : Rows.bytesBackRow.holds Try.pinned (OpenSpec.ofChange Rows.bytesBackSpec) :=
  OpenClaim.holds_of_wide 7 Try.f7 rfl rfl rfl rfl rfl rfl rfl ⟨rfl, rfl, rfl, rfl, rfl⟩ rfl rfl rfl rfl rfl (by kernel_rfl) Try.func7 (by kernel_rfl)
    (of_decide_eq_true (by kernel_rfl)) (by unfold Func.isWrapper; first | (rw [if_pos (by decide +kernel)]; kernel_rfl) | (rw [if_neg (by decide +kernel)]; exact ⟨rfl, rfl⟩))
    (fun os started H enc _ => lifted os started H enc)
theorem proved : Rows.BytesBackSaid := over
end lawBytesBack

end Go.Proofs.Ytmfgldfldejgcaa
