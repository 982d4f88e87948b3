/- LogOn: a mended log goes on as if nothing had been: what is appended stands behind what was whole. -/
import Derived.Test.YtgabjdpbkdmchaaLogTells
namespace Go.Proofs.Ytgabjdpbkdmchaa
set_option linter.unusedVariables false
set_option linter.unusedSimpArgs false
set_option linter.unusedSectionVars false
open Go.ChangeShapes Go.WideShapes Go.ChangeAt Go.RowKit Go.Joins
set_option maxRecDepth 10000
theorem fnLogOn (l : List RawD) (k : Int) (s : ByteArray) (hl : l.length ≤ maxLen) (hok : ∀ r ∈ l, r.ok) (_ : I64 k) (hs : s.size ≤ maxLen) : FnV Try.prog G0 5 [.ds false l.length (rawsC l), nI .i64 k, .v (.string s)] (bI true) := by
  have hlog := logged_fn false l hl hok
  have hm : (l.take 20).length ≤ 20 := by simp; omega
  have hb := lgOf_bound (l.take 20) (l.take 20).length (Nat.le_refl _)
  rw [List.take_length] at hb
  have hq := lgOf_ok (l.take 20)
  refine gen_ex (lgOf (l.take 20)) fun q eq => ?_
  rw [← eq] at hlog hb hq
  obtain ⟨b1, b2, b3⟩ := hb
  have hbound : q.a.length + q.b.length ≤ 860 := by omega
  clear eq
  have hw : ∀ r ∈ q.w, r.length ≤ 200 := fun r hr => by have := hq.short r hr; omega
  have hc := cut_fn s 40 hs (by omega)
  have es : (s.extract 0 (min s.size 40)).size ≤ 40 := by simp [ByteArray.size_extract]; omega
  refine gen_ex (s.extract 0 (min s.size 40)) fun z ez => ?_
  rw [← ez] at hc es
  clear ez
  obtain ⟨c, hcz⟩ : ∃ c, z.data.toList = c := ⟨_, rfl⟩
  have hzl : z.size = c.length := by rw [← hcz]; rfl
  obtain ⟨j, hj⟩ : ∃ j : Nat, k % (q.b.length + 1) = (j : Int) := ⟨(k % (q.b.length + 1)).toNat, by have := Int.emod_nonneg k (show (q.b.length : Int) + 1 ≠ 0 by omega); omega⟩
  have hj2 : j ≤ q.b.length := by have := Int.emod_lt_of_pos k (show (0 : Int) < (q.b.length : Int) + 1 by omega); omega
  have hx : q.a ++ q.b.take j = (cat q.w).take (q.a.length + j) := by
    rw [← hq.all, List.take_append, List.take_of_length_le (l := q.a) (by omega), Nat.add_sub_cancel_left]
  obtain ⟨i, t, hi, ht, ho, hmin⟩ := cat_take q.w (q.a.length + j) hw
  have hgw : ∀ r ∈ q.w.take i, r.length ≤ 200 := fun r hr => hw r (List.mem_of_mem_take hr)
  have hopen := openL_cat (q.w.take i) t hgw ho
  have hxt := hx.trans ht
  rw [← hxt] at hopen
  have hxl : (q.a ++ q.b.take j).length ≤ 860 := by simp; omega
  have ox := open_fn false true (q.a ++ q.b.take j) [] (by simp; omega)
  rw [List.append_nil, hopen] at ox
  have mx := mend_fn false true (q.a ++ q.b.take j) (by omega)
  rw [hopen] at mx
  rw [show (q.a ++ q.b.take j).take (q.w.take i, (cat (q.w.take i)).length).2 = cat (q.w.take i) from by rw [hxt]; exact List.take_left] at mx
  have hgl : (q.w.take i).length ≤ 20 := by simp; omega
  have hcl : (cat (q.w.take i)).length ≤ 860 := by rw [hxt, List.length_append] at hxl; omega
  clear hx ht hxt hopen
  refine gen_ex (q.a ++ q.b.take j) fun x ex => ?_
  rw [← ex] at ox mx
  have crash := crash_fn q.f1 q.f2 q.a q.b j (by omega) hj2
  rw [← ex] at crash
  clear ex hxl
  refine gen_ex (q.w.take i) fun g eg => ?_
  rw [← eg] at ox mx hgl hcl hgw
  clear eg hmin ho
  have m2 := mend_fn false true (cat g) (by omega)
  rw [openL_all hgw, List.take_length] at m2
  have ap := append_fn false true false (cat g) [] c (by simp; omega) (by omega)
  rw [List.nil_append] at ap
  have on := open_fn false false (cat g) (recB c) (by rw [recB_length]; omega)
  have hcat : cat g ++ recB c = cat (g ++ [c]) := by rw [cat_append]; simp [cat]
  have hgc : ∀ r ∈ g ++ [c], r.length ≤ 200 := by
    intro r hr
    rcases List.mem_append.1 hr with h | h
    · exact hgw r h
    · simp at h; subst h; omega
  have hlen : (cat (g ++ [c])).length = (cat g).length + (recB c).length := by rw [← hcat, List.length_append]
  rw [hcat, openL_all hgc] at on
  have me := mend_err false false (cat g) (recB c) (by rw [recB_length]; omega) (by rw [recB_length]; omega)
  have hrl := recB_length c
  have same := sameLists_fn false false false false (g ++ [c]) (g ++ [c]) (by simp; omega) (by simp; omega)
  rw [decide_eq_true rfl] at same
  have hgl2 : (g ++ [c]).length = g.length + 1 := by simp
  have hmap : (g ++ [c]).map (dsB false) = g.map (dsB false) ++ [dsB false c] := by simp
  refine gen_ex (cat (g ++ [c])).length fun gn egn => ?_
  rw [← egn] at on hlen
  clear egn hcat hgc
  refine gen_ex (cat g) fun cg ecg => ?_
  rw [← ecg] at ox mx m2 ap on me hlen hcl
  clear ecg
  refine gen_ex (recB c) fun rc erc => ?_
  rw [← erc] at ap on me hlen hrl
  clear erc
  refine fn_of_vwp Γok Try.func5 (by kernel_rfl) rfl (by simp [Try.ntmps5]) (wpv_ok Γok (by kernel_rfl) _ _ _ ?_); conv => whnf
  refine ⟨_, ret_of_fn G0ok (hlog) (by first | rfl | simp only [noHs, noH, nI, bI, Bool.and_self, Bool.and_true, Bool.true_and, dsB_noH, dsBs_noHs, rawsC_noHs]) (by first | rfl | simp only [noHs, noH, nI, bI, Bool.and_self, Bool.and_true, Bool.true_and, dsB_noH, dsBs_noHs, rawsC_noHs]), ?_⟩; (conv => whnf); (try (refine ⟨by kernel_rfl, ?_⟩; conv => whnf))
  rw [ws_i64 (x := (q.b.length : Int) + 1) (by omega) (by omega)]
  refine ⟨_, ret_of_fn G0ok (picked_fn k (q.b.length + 1) (by omega) (by omega)) (by first | rfl | simp only [noHs, noH, nI, bI, Bool.and_self, Bool.and_true, Bool.true_and, ]) (by first | rfl | simp only [noHs, noH, nI, bI, Bool.and_self, Bool.and_true, Bool.true_and, ]), ?_⟩; (conv => whnf); (try (refine ⟨by kernel_rfl, ?_⟩; conv => whnf))
  rw [hj]
  refine ⟨_, ret_of_fn G0ok (crash) (by first | rfl | simp only [noHs, noH, nI, bI, Bool.and_self, Bool.and_true, Bool.true_and, dsB_noH]) (by first | rfl | simp only [noHs, noH, nI, bI, Bool.and_self, Bool.and_true, Bool.true_and, dsB_noH]), ?_⟩; (conv => whnf); (try (refine ⟨by kernel_rfl, ?_⟩; conv => whnf))
  refine ⟨_, ret_of_fn G0ok (ox) (by first | rfl | simp only [noHs, noH, nI, bI, Bool.and_self, Bool.and_true, Bool.true_and, dsB_noH, dsBs_noHs]) (by first | rfl | simp only [noHs, noH, nI, bI, Bool.and_self, Bool.and_true, Bool.true_and, dsB_noH, dsBs_noHs]), ?_⟩; (conv => whnf); (try (refine ⟨by kernel_rfl, ?_⟩; conv => whnf))
  refine ⟨_, ret_of_fn G0ok (mx) (by first | rfl | simp only [noHs, noH, nI, bI, Bool.and_self, Bool.and_true, Bool.true_and, dsB_noH, dsBs_noHs]) (by first | rfl | simp only [noHs, noH, nI, bI, Bool.and_self, Bool.and_true, Bool.true_and, dsB_noH, dsBs_noHs]), ?_⟩; (conv => whnf); (try (refine ⟨by kernel_rfl, ?_⟩; conv => whnf))
  refine ⟨_, ret_of_fn G0ok (hc) (by first | rfl | simp only [noHs, noH, nI, bI, Bool.and_self, Bool.and_true, Bool.true_and, ]) (by first | rfl | simp only [noHs, noH, nI, bI, Bool.and_self, Bool.and_true, Bool.true_and, ]), ?_⟩; (conv => whnf); (try (refine ⟨by kernel_rfl, ?_⟩; conv => whnf))
  refine onlyIf_intro (by simp [es] <;> omega) ?_; (conv => whnf); (try (refine ⟨by kernel_rfl, ?_⟩; conv => whnf))
  refine .read c.length (c.map byV) hzl (by rw [hcz]) (by simp) (byV_noHs _) ?_
  conv => whnf
  try (refine ⟨by kernel_rfl, ?_⟩; conv => whnf)
  refine ⟨_, ret_of_fn G0ok (ap) (by first | rfl | simp only [noHs, noH, nI, bI, Bool.and_self, Bool.and_true, Bool.true_and, dsB_noH]) (by first | rfl | simp only [noHs, noH, nI, bI, Bool.and_self, Bool.and_true, Bool.true_and, dsB_noH]), ?_⟩; (conv => whnf); (try (refine ⟨by kernel_rfl, ?_⟩; conv => whnf))
  refine ⟨_, ret_of_fn G0ok (on) (by first | rfl | simp only [noHs, noH, nI, bI, Bool.and_self, Bool.and_true, Bool.true_and, dsB_noH, dsBs_noHs]) (by first | rfl | simp only [noHs, noH, nI, bI, Bool.and_self, Bool.and_true, Bool.true_and, dsB_noH, dsBs_noHs]), ?_⟩; (conv => whnf); (try (refine ⟨by kernel_rfl, ?_⟩; conv => whnf))
  refine ⟨_, ret_of_fn G0ok (m2) (by first | rfl | simp only [noHs, noH, nI, bI, Bool.and_self, Bool.and_true, Bool.true_and, dsB_noH, dsBs_noHs]) (by first | rfl | simp only [noHs, noH, nI, bI, Bool.and_self, Bool.and_true, Bool.true_and, dsB_noH, dsBs_noHs]), ?_⟩; (conv => whnf); (try (refine ⟨by kernel_rfl, ?_⟩; conv => whnf))
  refine ⟨_, ret_of_fn G0ok (me) (by first | rfl | simp only [noHs, noH, nI, bI, Bool.and_self, Bool.and_true, Bool.true_and, dsB_noH, dsBs_noHs]) (by first | rfl | simp only [noHs, noH, nI, bI, Bool.and_self, Bool.and_true, Bool.true_and, dsB_noH, dsBs_noHs]), ?_⟩; (conv => whnf); (try (refine ⟨by kernel_rfl, ?_⟩; conv => whnf))
  refine ⟨_, ret_of_fn G0ok (logTells_fn) (by first | rfl | simp only [noHs, noH, nI, bI, Bool.and_self, Bool.and_true, Bool.true_and, ]) (by first | rfl | simp only [noHs, noH, nI, bI, Bool.and_self, Bool.and_true, Bool.true_and, ]), ?_⟩; (conv => whnf); (try (refine ⟨by kernel_rfl, ?_⟩; conv => whnf))
  refine ⟨cg, rfl, rfl, ?_⟩
  conv => whnf
  try (refine ⟨by kernel_rfl, ?_⟩; conv => whnf)
  refine ⟨cg, rfl, rfl, ?_⟩
  conv => whnf
  try (refine ⟨by kernel_rfl, ?_⟩; conv => whnf)
  rw [str_eq, decide_eq_true rfl]
  conv => whnf
  try (refine ⟨by kernel_rfl, ?_⟩; conv => whnf)
  rw [ws_i64 (x := (cg.length : Int) + rc.length) (by omega) (by omega), show (((g ++ [c], gn).snd : Nat) : Int) = (cg.length : Int) + rc.length from by rw [hlen]; omega, beq_self_eq_true]
  conv => whnf
  try (refine ⟨by kernel_rfl, ?_⟩; conv => whnf)
  refine .ownAs 0 [] rfl rfl ?_
  conv => whnf
  try (refine ⟨by kernel_rfl, ?_⟩; conv => whnf)
  refine onlyIf_intro (by simp [] <;> omega) ?_; (conv => whnf); (try (refine ⟨by kernel_rfl, ?_⟩; conv => whnf))
  refine onlyIf_intro (by simp [] <;> omega) ?_; (conv => whnf); (try (refine ⟨by kernel_rfl, ?_⟩; conv => whnf))
  refine .ownAs g.length (g.map (dsB false)) (by simp) (by simp) ?_
  conv => whnf
  try (refine ⟨by kernel_rfl, ?_⟩; conv => whnf)
  refine ⟨_, ret_of_fn G0ok (hc) (by first | rfl | simp only [noHs, noH, nI, bI, Bool.and_self, Bool.and_true, Bool.true_and, ]) (by first | rfl | simp only [noHs, noH, nI, bI, Bool.and_self, Bool.and_true, Bool.true_and, ]), ?_⟩; (conv => whnf); (try (refine ⟨by kernel_rfl, ?_⟩; conv => whnf))
  refine onlyIf_intro (by simp [es] <;> omega) ?_; (conv => whnf); (try (refine ⟨by kernel_rfl, ?_⟩; conv => whnf))
  refine .read c.length (c.map byV) hzl (by rw [hcz]) (by simp) (byV_noHs _) ?_
  conv => whnf
  try (refine ⟨by kernel_rfl, ?_⟩; conv => whnf)
  refine .ownAs 1 [dsB false c] rfl rfl ?_
  conv => whnf
  try (refine ⟨by kernel_rfl, ?_⟩; conv => whnf)
  refine onlyIf_intro (by simp [] <;> omega) ?_; (conv => whnf); (try (refine ⟨by kernel_rfl, ?_⟩; conv => whnf))
  refine .ownAs (g ++ [c]).length ((g ++ [c]).map (dsB false)) hgl2.symm hmap.symm ?_
  conv => whnf
  try (refine ⟨by kernel_rfl, ?_⟩; conv => whnf)
  refine ⟨_, ret_own [11] G0ok (same) (mapO_cons (deepV_noH _ _ (dsBs_noHs _ _)) (mapO_cons (deep_row rfl (by simp) (dsBs_noHs _ _)) mapO_nil)) rfl, ?_⟩; (conv => whnf); (try (refine ⟨by kernel_rfl, ?_⟩; conv => whnf))
  exact ⟨_, rfl, rfl⟩
namespace lawLogOn
set_option linter.unusedVariables false
set_option maxRecDepth 100000 in
theorem lifted (os : Os) (started : os.Started) (H : Type) (enc : TypeId × Value → H) :
    ReturnsInHanded {} Try.checked os 5 .any (Rows.logOnSpec.pre6 enc Try.prog Try.f5 Rows.logOnRow.domain false) (Rows.logOnSpec.post enc Try.prog Try.f5 false true false false) := by
  refine returnsInHanded_of_change (C := Try.checked) rowOwn started (by kernel_rfl) Try.func5
    (ChangeSpec.witness6 (enc := enc) (C := Try.checked) false ⟨#[], #[.slice none 0 0, .int .i64 0, .string ByteArray.empty], []⟩ 8 (by kernel_rfl) (by kernel_rfl) (by kernel_rfl) (by kernel_rfl)) ?_
  intro W base args ds gs before hval0 hW hcnd _
  have hval : ∀ (j : Nat) t v, Try.f5.params[j]? = some t → args[j]? = some v → Value.okWide Try.prog W .any base t v := hval0
  have hW' := hW
  obtain ⟨p, q, hA0, hV, rfl, hfz, hnd⟩ := hW
  have hA : DataW.TrodAll enc Try.prog W 0 (fun _ => true) true Try.f5.params.toList args.toList ds p := hA0
  rw [Try.params5] at hA hval
  obtain ⟨v0, vs0, d0, ds0, p0, q0, hargs, rfl, rfl, h0, r0⟩ := trodAll_cons hA
  obtain ⟨v1, vs1, d1, ds1, p1, q1, rfl, rfl, rfl, h1, r1⟩ := trodAll_cons r0
  obtain ⟨v2, vs2, d2, ds2, p2, q2, rfl, rfl, rfl, h2, r2⟩ := trodAll_cons r1
  obtain ⟨rfl, rfl, rfl⟩ := trodAll_nil r2
  obtain rfl : args = #[v0, v1, v2] := by cases args; simp_all
  obtain ⟨rfl, rfl⟩ := trodVars_none hV
  have k0 := h0
  have lt0 : ∀ x ∈ p0, x.block < W.heap.size := by obtain ⟨m, hm⟩ := k0; exact DataW.trod_lt m _ _ _ hm
  obtain ⟨a0, l0, w0, u0⟩ := raws_open (hval 0 32 v0 rfl rfl) h0
  obtain ⟨a1, rfl, rfl, rfl, w1⟩ := open_int Try.underlying3 (hval 1 3 v1 rfl rfl) h1
  obtain ⟨a2, rfl, rfl, rfl, w2⟩ := Go.ChangeMaps.open_string Try.underlying9 (hval 2 9 v2 rfl rfl) h2
  clear hA0 hval0
  refine (calls_of_fn Try.func5 (by kernel_rfl) rfl (fnLogOn a0 a1 a2 l0 w0 (bounds_i64 w1) w2) (fun _ _ h => by cases h) (VRs.cons u0 (VRs.cons rfl (VRs.cons rfl VRs.snoc_nil)))).mono fun e W' ⟨he, bel⟩ => ?_
  subst he
  exact ⟨_, rfl, _, _, _, [], _, [], hW', trodAll_mk1 (shut_bool Try.underlying4 _), (trodAll_cons_mk (Below.trod rowLaid (by kernel_rfl) (of_decide_eq_true (by kernel_rfl)) k0 bel lt0) (trodAll_cons_mk (shut_int Try.underlying3 w1) (trodAll_cons_mk (Go.ChangeMaps.shut_string Try.underlying9 w2) trodAll_mk0))), rfl, bel.frame _, fun h => by cases h⟩
theorem over : Rows.logOnRow.holds Try.pinned (OpenSpec.ofChange Rows.logOnSpec) :=
  OpenClaim.holds_of_wide 5 Try.f5 rfl rfl rfl rfl rfl rfl rfl ⟨rfl, rfl, rfl, rfl, rfl⟩ rfl rfl rfl rfl rfl (by kernel_rfl) Try.func5 (by kernel_rfl)
    (of_decide_eq_true (by kernel_rfl)) (by unfold Func.isWrapper; first | (rw [if_pos (by decide +kernel)]; kernel_rfl) | (rw [if_neg (by decide +kernel)]; exact ⟨rfl, rfl⟩))
    (fun os started H enc _ => lifted os started H enc)
theorem proved : Rows.LogOnSaid := over
end lawLogOn

end Go.Proofs.Ytgabjdpbkdmchaa
