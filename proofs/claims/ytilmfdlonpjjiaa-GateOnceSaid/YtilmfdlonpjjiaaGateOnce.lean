/- GateOnce: what has come does not come again as long as it is known. -/
import Derived.Test.YtilmfdlonpjjiaaVOpenW
import Derived.Test.YtilmfdlonpjjiaaBUd
namespace Go.Proofs.Ytilmfdlonpjjiaa
set_option linter.unusedVariables false
set_option linter.unusedSimpArgs false
set_option linter.unusedSectionVars false
open Go.ChangeShapes Go.WideShapes Go.ChangeAt Go.RowKit Go.Joins
set_option maxRecDepth 10000
theorem fnGateOnce (x : RawD) (l : List RawD) (which : Int) (hx : x.ok) (hl : l.length ≤ maxLen) (_ : ∀ q ∈ l, q.ok) (_ : I64 which) : FnV Try.prog G0 7 [x.v, .ds false l.length (rawsC l), nI .i64 which] (bI true) := by
  have go := gateOf_fn x
  have gok := gateR_ok x
  have op := opened_fn (fp := true) (fq := true) (f := false) (g := gateR x) (l := l) (most := 30) hl (by decide) gok rfl rfl (by show x.a % 50 ≤ 50; omega) _ rfl
  have ok := op_all (M := l.take 30) gok rfl rfl (by show x.a % 50 ≤ 50; omega) (l.take 30).length (by rw [List.length_take]; omega)
  refine gen_ex (opRun (gateR x) (l.take 30) (l.take 30).length) fun s es => ?_
  rw [← es] at op ok
  clear es
  have te := tells_gate
  have n1 := gtd_noHs true true (gateR x)
  refine gen_ex ((gateR x).cells true true) fun C eC => ?_
  rw [← eC] at go op n1
  clear eC
  have nG := gtd_noHs false false s.g
  have gc : s.g.cells false false = [nI .i64 s.g.l0, nI .i64 s.g.l1, nI .i64 s.g.l2, nI .i64 s.g.b0, nI .i64 s.g.b1, nI .i64 s.g.b2, nI .i64 s.g.now, .ds false s.g.past.length (rows QD.cells s.g.past), .ds false s.g.queue.length (rows QD.cells s.g.queue)] := rfl
  have nP := rowsQ_noHs s.g.past
  have nQ := rowsQ_noHs s.g.queue
  have nO := rowsPa_noHs s.out
  have lP : (rows QD.cells s.g.past).length = s.g.past.length * 4 := rows_length (w := 4) fun a _ => rfl
  have lQ : (rows QD.cells s.g.queue).length = s.g.queue.length * 4 := rows_length (w := 4) fun a _ => rfl
  obtain ⟨gk, _⟩ := chk_iff.1 ok.chk
  have o1 := gk.lp
  have o2 := gk.lq
  unfold RawD.v RawD.cells at *
  refine fn_of_vwp Γok Try.func7 (by kernel_rfl) rfl (by simp [Try.ntmps7]) (wpv_ok Γok (by kernel_rfl) _ _ _ ?_); conv => whnf
  refine ⟨_, ret_of_fn G0ok (go) (by first | rfl | simp only [noHs, noH, nI, bI, Bool.and_self, Bool.and_true, Bool.true_and, n1]) (by first | rfl | simp only [noHs, noH, nI, bI, Bool.and_self, Bool.and_true, Bool.true_and, n1]), ?_⟩; (conv => whnf); (try (refine ⟨by kernel_rfl, ?_⟩; conv => whnf))
  refine ⟨_, ret_of_fn G0ok (op) (by first | rfl | simp only [noHs, noH, nI, bI, Bool.and_self, Bool.and_true, Bool.true_and, n1, nG, nO, rawsC_noHs]) (by first | rfl | simp only [noHs, noH, nI, bI, Bool.and_self, Bool.and_true, Bool.true_and, n1, nG, nO, rawsC_noHs]), ?_⟩; (conv => whnf); (try (refine ⟨by kernel_rfl, ?_⟩; conv => whnf))
  rw [gc]
  refine .ownAs 0 [] rfl rfl ?_
  conv => whnf
  try (refine ⟨by kernel_rfl, ?_⟩; conv => whnf)
  refine onlyIf_intro (by show (_ && (_ && Nat.beq (rows QD.cells s.g.past).length (s.g.past.length * 4))) = true; rw [lP]; simp) ?_
  conv => whnf
  try (refine ⟨by kernel_rfl, ?_⟩; conv => whnf)
  refine onlyIf_intro (by simp [maxLen]; omega) ?_
  refine .ownAs s.g.past.length (rows QD.cells s.g.past) (Nat.zero_add _) rfl ?_
  conv => whnf
  try (refine ⟨by kernel_rfl, ?_⟩; conv => whnf)
  refine onlyIf_intro (by show (_ && (_ && Nat.beq (rows QD.cells s.g.queue).length (s.g.queue.length * 4))) = true; rw [lQ]; simp) ?_
  conv => whnf
  try (refine ⟨by kernel_rfl, ?_⟩; conv => whnf)
  refine onlyIf_intro (by show (Nat.beq (rows QD.cells s.g.past).length (s.g.past.length * 4) && _) = true; rw [lP]; simp [maxLen]; omega) ?_
  refine .read (s.g.past ++ s.g.queue).length (rows QD.cells (s.g.past ++ s.g.queue)) List.length_append.symm (rows_app _ _).symm (by rw [rows_length (w := 4) fun a _ => rfl]) (rowsQ_noHs _) ?_
  conv => whnf
  try (refine ⟨by kernel_rfl, ?_⟩; conv => whnf)
  have ll : (s.g.past ++ s.g.queue).length ≤ 80 := by rw [List.length_append]; omega
  have mem : ∀ q ∈ s.g.past ++ s.g.queue, q ∈ s.g.past ∨ q ∈ s.g.queue := fun q hq => List.mem_append.1 hq
  refine gen_ex (s.g.past ++ s.g.queue) fun L eL => ?_
  rw [← eL] at mem ll ⊢
  clear eL
  rw [show (((L.length : Nat) : Int) == 0) = decide (L.length = 0) from beq_lit _ 0]
  by_cases h0 : L.length = 0
  · rw [decide_eq_true h0]
    conv => whnf
    try (refine ⟨by kernel_rfl, ?_⟩; conv => whnf)
    refine ⟨_, ret_of_fn G0ok (te) (by first | rfl | simp only [noHs, noH, nI, bI, Bool.and_self, Bool.and_true, Bool.true_and, ]) (by first | rfl | simp only [noHs, noH, nI, bI, Bool.and_self, Bool.and_true, Bool.true_and, ]), ?_⟩; (conv => whnf); (try (refine ⟨by kernel_rfl, ?_⟩; conv => whnf))
    exact ⟨_, rfl, rfl⟩
  · rw [decide_eq_false h0]
    conv => whnf
    try (refine ⟨by kernel_rfl, ?_⟩; conv => whnf)
    have pk := picked_fn which (L.length : Int) (by omega) (by omega)
    obtain ⟨j, hj, lj⟩ : ∃ j : Nat, which % (L.length : Int) = (j : Int) ∧ j < L.length := ⟨(which % (L.length : Int)).toNat, by have := Int.emod_nonneg which (show (L.length : Int) ≠ 0 by omega); omega, by have := Int.emod_nonneg which (show (L.length : Int) ≠ 0 by omega); have := Int.emod_lt_of_pos which (show 0 < (L.length : Int) by omega); omega⟩
    rw [hj] at pk
    refine ⟨_, ret_of_fn G0ok (pk) (by first | rfl | simp only [noHs, noH, nI, bI, Bool.and_self, Bool.and_true, Bool.true_and, rowsQ_noHs]) (by first | rfl | simp only [noHs, noH, nI, bI, Bool.and_self, Bool.and_true, Bool.true_and, rowsQ_noHs]), ?_⟩; (conv => whnf); (try (refine ⟨by kernel_rfl, ?_⟩; conv => whnf))
    refine bindP_intro (if_pos (inB_ok (by omega) (by omega))) ?_; conv => whnf
    refine bindP_intro (row_load (i := j) (w := 4) rfl rfl rfl (fun a _ => qd_len a) (by dsimp only; omega) lj) ?_
    have mq := mem _ (List.getElem_mem lj)
    refine gen_ex L[j] fun q eq => ?_
    rw [← eq] at mq ⊢
    have rq := gk.row q mq
    have qc : q.cells = [nI .i64 q.id, nI .i64 q.v, nI .i64 q.ch, nI .i64 q.t] := rfl
    have of' := goff_ok (fp := false) (fq := false) (g := s.g) (id := q.id) (n := q.v) (ch := q.ch) (r := gtErr 8) ok.chk gk (valB_iff.2 rq.1) rq.2.1 (fun _ => rfl) (fun h => absurd rfl (h q mq)) (fun h => absurd rfl (h q mq)) (fun h => absurd rfl (h q mq))
    rw [gc] at of' nG
    rw [qc]
    conv => whnf
    try (refine ⟨by kernel_rfl, ?_⟩; conv => whnf)
    refine ⟨_, ret_of_fn G0ok (of') (by first | rfl | simp only [noHs, noH, nI, bI, Bool.and_self, Bool.and_true, Bool.true_and, nP, nQ]) (by first | rfl | simp only [noHs, noH, nI, bI, Bool.and_self, Bool.and_true, Bool.true_and, nP, nQ]), ?_⟩; (conv => whnf); (try (refine ⟨by kernel_rfl, ?_⟩; conv => whnf))
    refine ⟨_, ret_of_fn G0ok (te) (by first | rfl | simp only [noHs, noH, nI, bI, Bool.and_self, Bool.and_true, Bool.true_and, ]) (by first | rfl | simp only [noHs, noH, nI, bI, Bool.and_self, Bool.and_true, Bool.true_and, ]), ?_⟩; (conv => whnf); (try (refine ⟨by kernel_rfl, ?_⟩; conv => whnf))

    exact ⟨_, rfl, rfl⟩
namespace lawGateOnce
set_option linter.unusedVariables false
set_option maxRecDepth 100000 in
theorem lifted (os : Os) (started : os.Started) (H : Type) (enc : TypeId × Value → H) :
    ReturnsInHanded {} Try.checked os 7 .any (Rows.gateOnceSpec.pre6 enc Try.prog Try.f7 Rows.gateOnceRow.domain false) (Rows.gateOnceSpec.post enc Try.prog Try.f7 false true false false) := by
  refine returnsInHanded_of_change (C := Try.checked) rowOwn started (by kernel_rfl) Try.func7
    (ChangeSpec.witness6 (enc := enc) (C := Try.checked) false ⟨#[], #[.agg #[.int .i64 0, .int .i64 0, .int .i64 0, .string ByteArray.empty], .slice none 0 0, .int .i64 0], []⟩ 8 (by kernel_rfl) (by kernel_rfl) (by kernel_rfl) (by kernel_rfl)) ?_
  intro W base args ds gs before hval0 hW hcnd _
  have hval : ∀ (j : Nat) t v, Try.f7.params[j]? = some t → args[j]? = some v → Value.okWide Try.prog W .any base t v := hval0
  have hW' := hW
  obtain ⟨p, q, hA0, hV, rfl, hfz, hnd⟩ := hW
  have hA : DataW.TrodAll enc Try.prog W 0 (fun _ => true) true Try.f7.params.toList args.toList ds p := hA0
  rw [Try.params7] at hA hval
  obtain ⟨v0, vs0, d0, ds0, p0, q0, hargs, rfl, rfl, h0, r0⟩ := trodAll_cons hA
  obtain ⟨v1, vs1, d1, ds1, p1, q1, rfl, rfl, rfl, h1, r1⟩ := trodAll_cons r0
  obtain ⟨v2, vs2, d2, ds2, p2, q2, rfl, rfl, rfl, h2, r2⟩ := trodAll_cons r1
  obtain ⟨rfl, rfl, rfl⟩ := trodAll_nil r2
  obtain rfl : args = #[v0, v1, v2] := by cases args; simp_all
  obtain ⟨rfl, rfl⟩ := trodVars_none hV
  have k0 := h0
  have lt0 : ∀ x ∈ p0, x.block < W.heap.size := by obtain ⟨m, hm⟩ := k0; exact DataW.trod_lt m _ _ _ hm
  obtain ⟨a0, w0, u0⟩ := raw_open (hval 0 23 v0 rfl rfl) h0
  have k1 := h1
  have lt1 : ∀ x ∈ p1, x.block < W.heap.size := by obtain ⟨m, hm⟩ := k1; exact DataW.trod_lt m _ _ _ hm
  obtain ⟨a1, l1, w1, u1⟩ := raws_open (hval 1 24 v1 rfl rfl) h1
  obtain ⟨a2, rfl, rfl, rfl, w2⟩ := open_int Try.underlying3 (hval 2 3 v2 rfl rfl) h2
  clear hA0 hval0
  refine (calls_of_fn Try.func7 (by kernel_rfl) rfl (fnGateOnce a0 a1 a2 w0 l1 w1 (bounds_i64 w2)) (fun _ _ h => by cases h) (VRs.cons (u0 _) (VRs.cons u1 (VRs.cons rfl VRs.snoc_nil)))).mono fun e W' ⟨he, bel⟩ => ?_
  subst he
  exact ⟨_, rfl, _, _, _, [], _, [], hW', trodAll_mk1 (shut_bool Try.underlying4 _), (trodAll_cons_mk (Below.trod rowLaid (by kernel_rfl) (of_decide_eq_true (by kernel_rfl)) k0 bel lt0) (trodAll_cons_mk (Below.trod rowLaid (by kernel_rfl) (of_decide_eq_true (by kernel_rfl)) k1 bel lt1) (trodAll_cons_mk (shut_int Try.underlying3 w2) trodAll_mk0))), rfl, bel.frame _, fun h => by cases h⟩
theorem over : Rows.gateOnceRow.holds Try.pinned (OpenSpec.ofChange Rows.gateOnceSpec) :=
  OpenClaim.holds_of_wide 7 Try.f7 rfl rfl rfl rfl rfl rfl rfl ⟨rfl, rfl, rfl, rfl, rfl⟩ rfl rfl rfl rfl rfl (by kernel_rfl) Try.func7 (by kernel_rfl)
    (of_decide_eq_true (by kernel_rfl)) (by unfold Func.isWrapper; first | (rw [if_pos (by decide +kernel)]; kernel_rfl) | (rw [if_neg (by decide +kernel)]; exact ⟨rfl, rfl⟩))
    (fun os started H enc _ => lifted os started H enc)
theorem proved : Rows.GateOnceSaid := over
end lawGateOnce

end Go.Proofs.Ytilmfdlonpjjiaa
