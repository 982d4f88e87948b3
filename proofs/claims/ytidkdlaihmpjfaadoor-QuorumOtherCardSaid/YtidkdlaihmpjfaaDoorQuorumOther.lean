/- QuorumOther: who signs in another one's place, or for another sum, does not count, unless keys or sums come to the same. -/
import Derived.Test.YtidkdlaihmpjfaaDoorVQuor
import Derived.Test.YtidkdlaihmpjfaaDoorVGlob
import Derived.Test.YtidkdlaihmpjfaaDoorCards
import Derived.Test.YtidkdlaihmpjfaaDoorTie
import Derived.SevenTiedAt
import Derived.OpenShut
namespace Go.Proofs.YtidkdlaihmpjfaaDoor
set_option linter.unusedVariables false
set_option linter.unusedSimpArgs false
set_option linter.unusedSectionVars false
open Go.ChangeShapes Go.WideShapes Go.ChangeAt Go.RowKit Go.Joins
set_option maxRecDepth 10000
theorem eq_key {l m : List Nat} (hl : l.length = 20) (hm : m.length = 20) : EqAgg Tryd.prog .eql 64 (bts l) (bts m) (decide (l = m)) := by
  have h := eqAgg_ints (k := .u8) Γok (t := 64) (e := 5) Tryd.underlying64 rfl rfl rfl Tryd.underlying5 (by kernel_rfl) (l.map fun (x : Nat) => (x : Int)) (m.map fun (x : Nat) => (x : Int)) (by simpa using hl) (by simpa using hm)
  rw [← bts_map, ← bts_map] at h
  rw [show decide (l = m) = decide ((l.map fun (x : Nat) => (x : Int)) = m.map fun (x : Nat) => (x : Int)) from decide_eq_decide.2 (map_cast_eq _ _).symm]
  exact h
/-- A member's signature passes. -/
def okJ (key : Nat → List Nat) (e : Nat → Nat) (p : Nat → PtD) (j : Nat) : Prop := e j = 0 ∧ keyB (p j) = key j
theorem ck_iff {n : Nat} {key : Nat → List Nat} {s : Nat → SgD} {e : Nat → Nat} {p : Nat → PtD} : ∀ (l : List Nat) (last : Int), l.Pairwise (· < ·) → (∀ w ∈ l, last < (w : Int) ∧ w < n) → (ckQ n key last (l.map (fun w => (⟨w, s w, e w, p w⟩ : QE))) = 0 ↔ ∀ w ∈ l, okJ key e p w)
  | [], last, _, _ => ⟨fun _ w hw => (by cases hw), fun _ => rfl⟩
  | w :: l, last, h1, h2 => by
    obtain ⟨g1, g2⟩ := h2 w List.mem_cons_self
    obtain ⟨h3, h4⟩ := List.pairwise_cons.1 h1
    have ih := ck_iff (key := key) (s := s) (e := e) (p := p) (n := n) l w h4 fun v hv => ⟨by have := h3 v hv; omega, (h2 v (List.mem_cons_of_mem _ hv)).2⟩
    rw [List.map_cons, ckQ_cons]
    dsimp only
    rw [if_neg (by omega), if_neg (by omega)]
    by_cases a : e w = 0
    · rw [if_neg (fun h => h a)]
      by_cases b : keyB (p w) = key w
      · rw [if_neg (fun h => h b), ih]
        exact ⟨fun h v hv => by rcases List.mem_cons.1 hv with rfl | hv; exact ⟨a, b⟩; exact h v hv, fun h v hv => h v (List.mem_cons_of_mem _ hv)⟩
      · rw [if_pos b]
        exact ⟨fun h => by omega, fun h => absurd (h w List.mem_cons_self).2 b⟩
    · rw [if_pos a]
      exact ⟨fun h => absurd h a, fun h => absurd (h w List.mem_cons_self).1 a⟩
theorem ck_ten {n : Nat} {key : Nat → List Nat} {s : Nat → SgD} {p : Nat → PtD} : ∀ (l : List Nat) (last : Int), l.Pairwise (· < ·) → (∀ w ∈ l, last < (w : Int) ∧ w < n) → ckQ n key last (l.map (fun w => (⟨w, s w, 0, p w⟩ : QE))) = 0 ∨ ckQ n key last (l.map (fun w => (⟨w, s w, 0, p w⟩ : QE))) = 10
  | [], last, _, _ => .inl rfl
  | w :: l, last, h1, h2 => by
    obtain ⟨g1, g2⟩ := h2 w List.mem_cons_self
    obtain ⟨h3, h4⟩ := List.pairwise_cons.1 h1
    have ih := ck_ten (key := key) (s := s) (p := p) (n := n) l w h4 fun v hv => ⟨by have := h3 v hv; omega, (h2 v (List.mem_cons_of_mem _ hv)).2⟩
    rw [List.map_cons, ckQ_cons]
    dsimp only
    rw [if_neg (by omega), if_neg (by omega), if_neg (fun h => h rfl)]
    by_cases b : keyB (p w) = key w
    · rw [if_neg (fun h => h b)]
      exact ih
    · rw [if_pos b]
      exact .inr rfl
/-- All ahead pass. -/
noncomputable def okB (k : Nat) (ep : Nat → Nat × PtD) (j : Nat) : Bool := decide ((ep j).1 = 0) && decide (keyB (ep j).2 = keyB (gk k (secM k j)))
noncomputable def metB (k : Nat) (ep : Nat → Nat × PtD) (j : Nat) : Bool := (List.range j).all (okB k ep)
theorem metB_succ (k : Nat) (ep : Nat → Nat × PtD) (j : Nat) : metB k ep (j + 1) = (metB k ep j && okB k ep j) := by
  unfold metB
  rw [List.range_succ, List.all_append, List.all_cons, List.all_nil, Bool.and_true]
theorem decide_eq_of_iff {b : Bool} {P : Prop} [Decidable P] (h : b = true ↔ P) : b = decide P := by
  cases b
  · exact (decide_eq_false fun hp => Bool.false_ne_true (h.2 hp)).symm
  · exact (decide_eq_true (h.1 rfl)).symm
theorem pw4 : [0, 1, 2, 3].Pairwise (fun (a b : Nat) => a < b) := by decide
theorem mem4 {w : Nat} (h : w ∈ [0, 1, 2, 3]) : (-1 : Int) < (w : Int) ∧ w < 4 := by
  simp only [List.mem_cons, List.not_mem_nil, or_false] at h
  omega
set_option maxHeartbeats 1600000 in
theorem fnQuorumOther (n : Int) (x y : RawD) (at' : Int) (_ : I64 n) (_ : x.ok) (_ : y.ok) (_ : I64 at') : FnV Tryd.prog G0 12 [nI .i64 n, x.v, y.v, nI .i64 at'] (bI true) := by
  obtain ⟨k, h, cv⟩ := law_curve n
  have sx := rsum_fn x
  have sy := rsum_fn y
  have st := stells_fn
  have mb := members_fn h (m := 4) (by decide)
  have pk := picked_fn at' 4 (by decide) (by decide)
  obtain ⟨i, hi, li⟩ : ∃ i : Nat, at' % 4 = (i : Int) ∧ i < 4 := ⟨(at' % 4).toNat, by omega, by omega⟩
  rw [hi] at pk
  clear hi
  have hN := (good_crv h).N
  have n1 := cN1 h
  have lx := rsumN_length x
  have ly := rsumN_length y
  have bx := rsumN_lt x
  have by' := rsumN_lt y
  have g := good_crv h
  obtain ⟨S, hS⟩ := Classical.axiomOfChoice fun i => make_gk h (secM_lt h i).1 (secM_lt h i).2 lx bx
  have mk : ∀ i, i < 4 → FnV Tryd.prog G0 29 [(crv k).v, uV (secM k i), .agg (bts (rsumN x))] (.tup [(S i).v, nI .i64 0]) := fun i _ => by obtain ⟨_, _, _, e⟩ := hS i; exact e
  have rc : ∀ i, FnV Tryd.prog G0 33 [(crv k).v, .agg (bts (rsumN x)), (S i).v] (.tup [(gk k (secM k i)).v, nI .i64 0]) := fun i => by
    obtain ⟨_, _, sg, _⟩ := hS i
    exact sg.recover h (secM_lt h i).2 (secM_lt h i).1 lx bx rfl
  have ry : ∀ i, ∃ ep : Nat × PtD, FnV Tryd.prog G0 33 [(crv k).v, .agg (bts (rsumN y)), (S i).v] (.tup [ep.2.v, nI .i64 ep.1]) ∧ (modN (fromV (rsumN x) 32) (crv k).N = modN (fromV (rsumN y) 32) (crv k).N → ep = (0, gk k (secM k i))) := fun i => by
    obtain ⟨j, o, sg, _⟩ := hS i
    by_cases e : modN (fromV (rsumN x) 32) (crv k).N = modN (fromV (rsumN y) 32) (crv k).N
    · exact ⟨(0, gk k (secM k i)), sg.recover h (secM_lt h i).2 (secM_lt h i).1 ly by' e, fun _ => rfl⟩
    · have ra := sg.recover_at h ly by'
      by_cases f : recI k (modN (fromV (rsumN y) 32) (crv k).N) (S i).R (S i).S j % (crv k).N = 0
      · rw [if_pos f, if_pos f] at ra
        exact ⟨(10, nilP), ra, fun h => absurd h e⟩
      · rw [if_neg f, if_neg f] at ra
        exact ⟨(0, _), ra, fun h => absurd h e⟩
  obtain ⟨ep, hep⟩ := Classical.axiomOfChoice ry
  clear ry
  have sf := signed_fn (k := k) (m := 4) (M := 15) (by decide) (by decide) lx mk
  rw [show sel 15 4 = [0, 1, 2, 3] from by decide] at sf
  have fx := from_fn _ lx bx
  have fy := from_fn _ ly by'
  have dx := div_pos (b := (crv k).N) (fromV_lt _ bx) hN (by omega)
  have dy := div_pos (b := (crv k).N) (fromV_lt _ by') hN (by omega)
  have za : modN (fromV (rsumN x) 32) (crv k).N < (crv k).N := by rw [modN_def]; exact Nat.mod_lt _ (by omega)
  have zb : modN (fromV (rsumN y) 32) (crv k).N < (crv k).N := by rw [modN_def]; exact Nat.mod_lt _ (by omega)
  have ne := ne_uC (a := modN (fromV (rsumN x) 32) (crv k).N) (b := modN (fromV (rsumN y) 32) (crv k).N) (by omega) (by omega)
  have lkq : ∀ i, (keyB (gk k (secM k i))).length = 20 := fun i => keyB_len _
  have eK : (fun i => bts (keyB (gk k (secM k i)))) = membK k := rfl
  have chk : ∀ (b : List Nat), b.length = 32 → ∀ L : List QE, L.length = 4 → (∀ x ∈ L, x.who < 4) → (∀ x ∈ L, FnV Tryd.prog G0 33 [(crv k).v, .agg (bts b), x.s.v] (.tup [x.p.v, nI .i64 x.e])) →
      FnV Tryd.prog G0 41 [(crv k).v, .agg [nI .i64 0, .ds false 4 (rows (membK k) (List.range 4)), nI .i64 0], .agg (bts b), .ds false 4 (rows QE.cells L)] (nI .i64 (ckQ 4 (fun i => keyB (gk k (secM k i))) (-1) L : Nat)) := fun b lb L h1 h2 h3 => by
    have := qcheck_fn g (n := 4) (by decide) (by decide) (key := fun i => keyB (gk k (secM k i))) lkq lb (f1 := false) (f2 := false) (L := L) (by omega) (fun x hx => by have := h2 x hx; omega) h3 (by rw [h1]; decide)
    rw [h1, eK] at this
    exact this
  have c1 := chk (rsumN x) lx ([0, 1, 2, 3].map fun w => (⟨w, S w, 0, gk k (secM k w)⟩ : QE)) rfl (fun q hq => by obtain ⟨w, hw, rfl⟩ := List.mem_map.1 hq; exact (mem4 hw).2) (fun q hq => by obtain ⟨w, hw, rfl⟩ := List.mem_map.1 hq; exact rc w)
  rw [(ck_iff (key := fun i => keyB (gk k (secM k i))) (s := S) (e := fun _ => 0) (p := fun w => gk k (secM k w)) (n := 4) [0, 1, 2, 3] (-1) pw4 fun w hw => mem4 hw).2 fun w _ => ⟨rfl, rfl⟩, rows_map, show (fun a => QE.cells (⟨a, S a, 0, gk k (secM k a)⟩ : QE)) = sgC S from rfl] at c1
  have c2 := chk (rsumN x) lx ([0, 1, 2, 3].map fun w => (⟨w, S (if w = i then (i + 1) % 4 else w), 0, gk k (secM k (if w = i then (i + 1) % 4 else w))⟩ : QE)) rfl (fun q hq => by obtain ⟨w, hw, rfl⟩ := List.mem_map.1 hq; exact (mem4 hw).2) (fun q hq => by obtain ⟨w, hw, rfl⟩ := List.mem_map.1 hq; exact rc _)
  have t2 := ck_ten (key := fun i => keyB (gk k (secM k i))) (s := fun w => S (if w = i then (i + 1) % 4 else w)) (p := fun w => gk k (secM k (if w = i then (i + 1) % 4 else w))) (n := 4) [0, 1, 2, 3] (-1) pw4 fun w hw => mem4 hw
  have i2 := (ck_iff (key := fun i => keyB (gk k (secM k i))) (s := fun w => S (if w = i then (i + 1) % 4 else w)) (e := fun _ => 0) (p := fun w => gk k (secM k (if w = i then (i + 1) % 4 else w))) (n := 4) [0, 1, 2, 3] (-1) pw4 fun w hw => mem4 hw).1
  refine gen_ex (ckQ 4 (fun i => keyB (gk k (secM k i))) (-1) ([0, 1, 2, 3].map fun w => (⟨w, S (if w = i then (i + 1) % 4 else w), 0, gk k (secM k (if w = i then (i + 1) % 4 else w))⟩ : QE))) fun E eE => ?_
  rw [← eE] at c2 t2 i2
  clear eE
  have h2 : E = 10 ∨ (E = 0 ∧ keyB (gk k (secM k i)) = keyB (gk k (secM k ((i + 1) % 4)))) := by
    rcases t2 with e | e
    · have := (i2 e i (by simp only [List.mem_cons, List.not_mem_nil, or_false]; omega)).2
      dsimp only at this
      rw [if_pos rfl] at this
      exact .inr ⟨e, this.symm⟩
    · exact .inl e
  clear t2 i2
  have c3 := chk (rsumN y) ly ([0, 1, 2, 3].map fun w => (⟨w, S w, (ep w).1, (ep w).2⟩ : QE)) rfl (fun q hq => by obtain ⟨w, hw, rfl⟩ := List.mem_map.1 hq; exact (mem4 hw).2) (fun q hq => by obtain ⟨w, hw, rfl⟩ := List.mem_map.1 hq; exact (hep w).1)
  have i3 := ck_iff (key := fun i => keyB (gk k (secM k i))) (s := S) (e := fun w => (ep w).1) (p := fun w => (ep w).2) (n := 4) [0, 1, 2, 3] (-1) pw4 fun w hw => mem4 hw
  refine gen_ex (ckQ 4 (fun i => keyB (gk k (secM k i))) (-1) ([0, 1, 2, 3].map fun w => (⟨w, S w, (ep w).1, (ep w).2⟩ : QE))) fun F eF => ?_
  rw [← eF] at c3 i3
  clear eF chk
  rw [rows_map, show (fun a => QE.cells (⟨a, S a, (ep a).1, (ep a).2⟩ : QE)) = sgC S from rfl] at c3
  have a3 : modN (fromV (rsumN x) 32) (crv k).N = modN (fromV (rsumN y) 32) (crv k).N → F = 0 := fun e => i3.2 fun w _ => by
    have := (hep w).2 e
    show (ep w).1 = 0 ∧ keyB (ep w).2 = _
    rw [this]
    exact ⟨rfl, rfl⟩
  have ry := fun j => (hep j).1
  have m4 : metB k ep 4 = decide (F = 0) := by
    refine (decide_eq_of_iff ?_)
    rw [i3]
    unfold metB
    rw [List.all_eq_true, show List.range 4 = [0, 1, 2, 3] from rfl]
    refine forall_congr' fun w => forall_congr' fun _ => ?_
    unfold okB okJ
    rw [Bool.and_eq_true, decide_eq_true_eq, decide_eq_true_eq]
  clear i3
  clear hep rc mk hS
  have nKs : noHs (rows (membK k) (List.range 4)) = true := rows_noHs (membK_noHs k) _
  have nDs : noHs (rows (membD k) (List.range 4)) = true := rows_noHs (membD_noHs k) _
  have nSs : noHs (rows (sgC S) [0, 1, 2, 3]) = true := rows_noHs (sgC_noHs S) _
  have mx : (bts (rsumN x)).length = 32 := by rw [bts_length, lx]
  have my : (bts (rsumN y)).length = 32 := by rw [bts_length, ly]
  have s1 := rows_map QE.cells (fun w => (⟨w, S w, 0, gk k (secM k w)⟩ : QE)) [0, 1, 2, 3]
  refine gen_ex (modN (fromV (rsumN x) 32) (crv k).N) fun a ea => ?_
  refine gen_ex (modN (fromV (rsumN y) 32) (crv k).N) fun b eb => ?_
  rw [← ea, ← eb] at a3 ne
  rw [← ea] at dx
  rw [← eb] at dy
  clear ea eb za zb
  refine gen_ex (rsumN x) fun L eL => ?_
  rw [← eL] at sx sf fx dx mx c1 c2
  clear eL lx bx
  refine gen_ex (rsumN y) fun M eM => ?_
  rw [← eM] at sy fy dy my c3 ry
  clear eM ly by'
  unfold CvD.v CvD.cells RawD.v RawD.cells at *
  refine gen_ex (crv k) fun C eC => ?_
  rw [← eC] at cv mb sf dx dy c1 c2 c3 ry
  clear eC g hN n1
  have ky := fun j => keyOf_fn (ep j).2
  have ek := fun j => eq_key (l := keyB (ep j).2) (m := keyB (gk k (secM k j))) (keyB_len _) (keyB_len _)
  have ek2 := eq_key (l := keyB (gk k (secM k i))) (m := keyB (gk k (secM k ((i + 1) % 4)))) (keyB_len _) (keyB_len _)
  have nC : noH (.agg (uC C.P ++ (uC C.A ++ (uC C.B ++ (uC C.N ++ (uC C.X ++ (uC C.Y ++ [bI false]))))))) = true := by simp only [noH, noHs_append, words_noHs, uC, noHs, bI, Bool.and_self]
  have nT : noH (.agg [nI .i64 0, .ds false 4 (rows (membK k) (List.range 4)), nI .i64 0]) = true := by simp only [noH, nKs, noHs, nI, Bool.and_self]
  have hi : i = 0 ∨ i = 1 ∨ i = 2 ∨ i = 3 := by omega
  clear li
  rcases hi with rfl | rfl | rfl | rfl
  · refine fn_of_vwp Γok Tryd.func12 (by kernel_rfl) rfl (by simp [Tryd.ntmps12]) (wpv_ok Γok (by kernel_rfl) _ _ _ ?_); conv => whnf
    refine ⟨_, ret_of_fn G0ok (cv) (by first | rfl | simp only [noHs, noH, nI, bI, Bool.and_self, Bool.and_true, Bool.true_and, ]) (by first | rfl | simp only [noHs, noH, nI, bI, Bool.and_self, Bool.and_true, Bool.true_and, ]), ?_⟩; (conv => whnf); (try (refine ⟨by kernel_rfl, ?_⟩; conv => whnf))
    refine ⟨_, ret_of_fn G0ok (mb) (by first | rfl | simp only [noHs, noH, nI, bI, Bool.and_self, Bool.and_true, Bool.true_and, nKs, nDs]) (by first | rfl | simp only [noHs, noH, nI, bI, Bool.and_self, Bool.and_true, Bool.true_and, nKs, nDs]), ?_⟩; (conv => whnf); (try (refine ⟨by kernel_rfl, ?_⟩; conv => whnf))
    refine ⟨_, ret_of_fn G0ok (sx) (by first | rfl | simp only [noHs, noH, nI, bI, Bool.and_self, Bool.and_true, Bool.true_and, bts_noHs]) (by first | rfl | simp only [noHs, noH, nI, bI, Bool.and_self, Bool.and_true, Bool.true_and, bts_noHs]), ?_⟩; (conv => whnf); (try (refine ⟨by kernel_rfl, ?_⟩; conv => whnf))
    refine ⟨_, ret_of_fn G0ok (sf) (by first | rfl | simp only [noHs, noH, nI, bI, Bool.and_self, Bool.and_true, Bool.true_and, nKs, nDs, bts_noHs, nSs, noHs_append, words_noHs, uC]) (by first | rfl | simp only [noHs, noH, nI, bI, Bool.and_self, Bool.and_true, Bool.true_and, nKs, nDs, bts_noHs, nSs, noHs_append, words_noHs, uC]), ?_⟩; (conv => whnf); (try (refine ⟨by kernel_rfl, ?_⟩; conv => whnf))
    refine ⟨_, ret_of_fn G0ok (st) (by first | rfl | simp only [noHs, noH, nI, bI, Bool.and_self, Bool.and_true, Bool.true_and, ]) (by first | rfl | simp only [noHs, noH, nI, bI, Bool.and_self, Bool.and_true, Bool.true_and, ]), ?_⟩; (conv => whnf); (try (refine ⟨by kernel_rfl, ?_⟩; conv => whnf))
    refine ⟨_, ret_of_fn G0ok (pk) (by first | rfl | simp only [noHs, noH, nI, bI, Bool.and_self, Bool.and_true, Bool.true_and, ]) (by first | rfl | simp only [noHs, noH, nI, bI, Bool.and_self, Bool.and_true, Bool.true_and, ]), ?_⟩; (conv => whnf); (try (refine ⟨by kernel_rfl, ?_⟩; conv => whnf))
    refine .ownAs 0 [] rfl rfl ?_
    conv => whnf
    try (refine ⟨by kernel_rfl, ?_⟩; conv => whnf)
    refine .ownAs 4 (rows (sgC S) [0, 1, 2, 3]) (by rfl) (by rfl) ?_
    conv => whnf
    try (refine ⟨by kernel_rfl, ?_⟩; conv => whnf)
    rw [ws_i64 (x := ((0 : Nat) : Int) + 1) (by decide) (by decide)]
    conv => whnf
    try (refine ⟨by kernel_rfl, ?_⟩; conv => whnf)
    refine ⟨_, ret_of_fn G0ok (sx) (by first | rfl | simp only [noHs, noH, nI, bI, Bool.and_self, Bool.and_true, Bool.true_and, bts_noHs]) (by first | rfl | simp only [noHs, noH, nI, bI, Bool.and_self, Bool.and_true, Bool.true_and, bts_noHs]), ?_⟩; (conv => whnf); (try (refine ⟨by kernel_rfl, ?_⟩; conv => whnf))
    refine ⟨_, ret_own [5] G0ok (c2) (mapO_cons (deepV_noH _ _ nC) (mapO_cons (deepV_noH _ _ nT) (mapO_cons (deepV_noH _ _ (bts_noHs _)) (mapO_cons (deep_row rfl rfl (rows_noHs qE_noHs _)) mapO_nil)))) rfl, ?_⟩; (conv => whnf); (try (refine ⟨by kernel_rfl, ?_⟩; conv => whnf))
    refine ⟨_, ret_of_fn G0ok (sx) (by first | rfl | simp only [noHs, noH, nI, bI, Bool.and_self, Bool.and_true, Bool.true_and, bts_noHs]) (by first | rfl | simp only [noHs, noH, nI, bI, Bool.and_self, Bool.and_true, Bool.true_and, bts_noHs]), ?_⟩; (conv => whnf); (try (refine ⟨by kernel_rfl, ?_⟩; conv => whnf))
    refine ⟨_, ret_of_fn G0ok (fx) (by first | rfl | simp only [noHs, noH, nI, bI, Bool.and_self, Bool.and_true, Bool.true_and, bts_noHs]) (by first | rfl | simp only [noHs, noH, nI, bI, Bool.and_self, Bool.and_true, Bool.true_and, bts_noHs]), ?_⟩; (conv => whnf); (try (refine ⟨by kernel_rfl, ?_⟩; conv => whnf))
    refine ⟨_, ret_of_fn G0ok (dx) (by first | rfl | simp only [noHs, noH, nI, bI, Bool.and_self, Bool.and_true, Bool.true_and, ]) (by first | rfl | simp only [noHs, noH, nI, bI, Bool.and_self, Bool.and_true, Bool.true_and, ]), ?_⟩; (conv => whnf); (try (refine ⟨by kernel_rfl, ?_⟩; conv => whnf))
    refine ⟨_, ret_of_fn G0ok (sy) (by first | rfl | simp only [noHs, noH, nI, bI, Bool.and_self, Bool.and_true, Bool.true_and, bts_noHs]) (by first | rfl | simp only [noHs, noH, nI, bI, Bool.and_self, Bool.and_true, Bool.true_and, bts_noHs]), ?_⟩; (conv => whnf); (try (refine ⟨by kernel_rfl, ?_⟩; conv => whnf))
    refine ⟨_, ret_of_fn G0ok (fy) (by first | rfl | simp only [noHs, noH, nI, bI, Bool.and_self, Bool.and_true, Bool.true_and, bts_noHs]) (by first | rfl | simp only [noHs, noH, nI, bI, Bool.and_self, Bool.and_true, Bool.true_and, bts_noHs]), ?_⟩; (conv => whnf); (try (refine ⟨by kernel_rfl, ?_⟩; conv => whnf))
    refine ⟨_, ret_of_fn G0ok (dy) (by first | rfl | simp only [noHs, noH, nI, bI, Bool.and_self, Bool.and_true, Bool.true_and, ]) (by first | rfl | simp only [noHs, noH, nI, bI, Bool.and_self, Bool.and_true, Bool.true_and, ]), ?_⟩; (conv => whnf); (try (refine ⟨by kernel_rfl, ?_⟩; conv => whnf))
    refine ⟨_, ret_of_fn G0ok (sy) (by first | rfl | simp only [noHs, noH, nI, bI, Bool.and_self, Bool.and_true, Bool.true_and, bts_noHs]) (by first | rfl | simp only [noHs, noH, nI, bI, Bool.and_self, Bool.and_true, Bool.true_and, bts_noHs]), ?_⟩; (conv => whnf); (try (refine ⟨by kernel_rfl, ?_⟩; conv => whnf))
    refine ⟨_, ret_of_fn G0ok (c3) (by first | rfl | simp only [noHs, noH, nI, bI, Bool.and_self, Bool.and_true, Bool.true_and, nKs, nDs, bts_noHs, nSs, noHs_append, words_noHs, uC]) (by first | rfl | simp only [noHs, noH, nI, bI, Bool.and_self, Bool.and_true, Bool.true_and, nKs, nDs, bts_noHs, nSs, noHs_append, words_noHs, uC]), ?_⟩; (conv => whnf); (try (refine ⟨by kernel_rfl, ?_⟩; conv => whnf))
    refine vloop_invK G0ok [(0, some 0), (1, some 1), (2, some 2), (3, some 3), (4, some 7), (5, some 9)] 6 (X := Nat)
      (fun j => [(103, nI .i64 j), (102, nI .i64 4), (101, .ds false 4 (rows (sgC S) [0, 1, 2, 3])), (23, .v (.bool (metB k ep j))), (22, nI .i64 F), (20, .ptr 5 0), (17, .ptr 4 0), (15, nI .i64 E), (13, nI .i64 (((0 : Nat)) : Int)), (12, .ds false 4 (rows (sgC S) [0, 1, 2, 3])), (10, .ptr 3 0), (9, .ptr 2 0), (6, .ptr 1 0), (5, .ptr 0 0)])
      (fun j => [(0, some [nI .i64 x.k, nI .i64 x.a, nI .i64 x.b, .v (.string x.s)]), (1, some [nI .i64 y.k, nI .i64 y.a, nI .i64 y.b, .v (.string y.s)]), (2, some (uC C.P ++ (uC C.A ++ (uC C.B ++ (uC C.N ++ (uC C.X ++ (uC C.Y ++ [bI false]))))))), (3, some [nI .i64 0, .ds false 4 (rows (membK k) (List.range 4)), nI .i64 0]), (4, some (uC a)), (5, some (uC b))])
      (fun j => j ≤ 4) (fun j => 4 - j) 0 rfl ⟨⟨_, rfl, conv_nI (rfl)⟩, ⟨_, rfl, conv_nI (rfl)⟩, ⟨_, rfl, conv_eq rfl (nSs)⟩, ⟨_, rfl, .same rfl⟩, ⟨_, rfl, conv_nI (rfl)⟩, ⟨_, rfl, .ptr rfl⟩, ⟨_, rfl, .ptr rfl⟩, ⟨_, rfl, conv_nI (rfl)⟩, ⟨_, rfl, conv_nI (rfl)⟩, ⟨_, rfl, conv_eq rfl (nSs)⟩, ⟨_, rfl, .ptr rfl⟩, ⟨_, rfl, .ptr rfl⟩, ⟨_, rfl, .ptr rfl⟩, ⟨_, rfl, .ptr rfl⟩, trivial⟩ ⟨.inr ⟨_, _, rfl, rfl, .same rfl⟩, .inr ⟨_, _, rfl, rfl, .same rfl⟩, .inr ⟨_, _, rfl, rfl, .same rfl⟩, .inr ⟨_, _, rfl, rfl, convs_eq rfl (by simp only [noHs, noH, nI, nKs, Bool.and_self])⟩, .inr ⟨_, _, rfl, rfl, convs_eq rfl (words_noHs _)⟩, .inr ⟨_, _, rfl, rfl, convs_eq rfl (words_noHs _)⟩, trivial⟩ (Nat.zero_le _) ?_
    intro j hj
    dsimp only at hj ⊢
    refine wpv_ok Γok (by kernel_rfl) _ _ _ ?_; conv => whnf
    refine bool_cases (fun hc => ?_) (fun hc => ?_)
    · have hc := of_decide_eq_true hc
      have ryj := ry j
      have kyj := ky j
      have ekj := ek j
      have ms := metB_succ k ep j
      unfold okB at ms
      have hjj : ([0, 1, 2, 3] : List Nat)[j]'(by show j < 4; omega) = j := by
        have : j = 0 ∨ j = 1 ∨ j = 2 ∨ j = 3 := by omega
        rcases this with rfl | rfl | rfl | rfl <;> rfl
      conv => whnf
      try (refine ⟨by kernel_rfl, ?_⟩; conv => whnf)
      refine bindP_intro (if_pos (inB_ok (by omega) (by omega))) ?_; conv => whnf
      refine bindP_intro (row_load (i := j) (w := 10) rfl rfl rfl (fun a _ => sgC_len S a) (by dsimp only; omega) (by show j < 4; omega)) ?_
      rw [hjj]
      unfold sgC SgD.cells
      conv => whnf
      try (refine ⟨by kernel_rfl, ?_⟩; conv => whnf)
      refine ⟨_, ret_of_fn G0ok (sy) (by first | rfl | simp only [noHs, noH, nI, bI, Bool.and_self, Bool.and_true, Bool.true_and, bts_noHs]) (by first | rfl | simp only [noHs, noH, nI, bI, Bool.and_self, Bool.and_true, Bool.true_and, bts_noHs]), ?_⟩; (conv => whnf); (try (refine ⟨by kernel_rfl, ?_⟩; conv => whnf))
      unfold SgD.v SgD.cells PtD.v PtD.cells at ryj
      refine ⟨_, ret_of_fn G0ok (ryj) (by first | rfl | simp only [noHs, noH, nI, bI, Bool.and_self, Bool.and_true, Bool.true_and, noHs_append, words_noHs, bts_noHs, uC, uV, noHs, noH]) (by first | rfl | simp only [noHs, noH, nI, bI, Bool.and_self, Bool.and_true, Bool.true_and, noHs_append, words_noHs, bts_noHs, uC, uV, noHs, noH]), ?_⟩; (conv => whnf); (try (refine ⟨by kernel_rfl, ?_⟩; conv => whnf))
      rcases Bool.eq_false_or_eq_true (metB k ep j) with hm | hm
      · rw [hm] at ms ⊢
        conv => whnf
        try (refine ⟨by kernel_rfl, ?_⟩; conv => whnf)
        rw [show (((ep j).1 : Int) == 0) = decide ((ep j).1 = 0) from beq_lit _ 0]
        by_cases he : (ep j).1 = 0
        · rw [decide_eq_true he] at ms ⊢
          conv => whnf
          try (refine ⟨by kernel_rfl, ?_⟩; conv => whnf)
          unfold PtD.v PtD.cells at kyj
          refine ⟨_, ret_of_fn G0ok (kyj) (by first | rfl | simp only [noHs, noH, nI, bI, Bool.and_self, Bool.and_true, Bool.true_and, bts_noHs]) (by first | rfl | simp only [noHs, noH, nI, bI, Bool.and_self, Bool.and_true, Bool.true_and, bts_noHs]), ?_⟩; (conv => whnf); (try (refine ⟨by kernel_rfl, ?_⟩; conv => whnf))
          refine bindP_intro (if_pos (inB_ok (by omega) (by omega))) ?_; conv => whnf
          refine bindP_intro (row_load (i := j) (w := 20) rfl rfl rfl (fun a _ => by unfold membK; rw [bts_length, lkq]) (by dsimp only; omega) (by rw [List.length_range]; omega)) ?_
          rw [List.getElem_range]
          conv => whnf
          try (refine ⟨by kernel_rfl, ?_⟩; conv => whnf)
          refine ⟨_, ekj, ?_⟩
          by_cases hk : keyB (ep j).2 = keyB (gk k (secM k j))
          · rw [decide_eq_true hk] at ms ⊢
            conv => whnf
            try (refine ⟨by kernel_rfl, ?_⟩; conv => whnf)
            refine next_round (y := j) G0ok (j + 1) [(0, some 0), (1, some 1), (2, some 2), (3, some 3), (4, some 4), (5, some 5)] rfl ⟨⟨_, rfl, conv_nI (ws_i64 (by omega) (by omega))⟩, ⟨_, rfl, conv_nI (rfl)⟩, ⟨_, rfl, conv_eq rfl (nSs)⟩, ⟨_, rfl, conv_eq (by rw [ms]; try rfl) rfl⟩, ⟨_, rfl, conv_nI (rfl)⟩, ⟨_, rfl, .ptr rfl⟩, ⟨_, rfl, .ptr rfl⟩, ⟨_, rfl, conv_nI (rfl)⟩, ⟨_, rfl, conv_nI (rfl)⟩, ⟨_, rfl, conv_eq rfl (nSs)⟩, ⟨_, rfl, .ptr rfl⟩, ⟨_, rfl, .ptr rfl⟩, ⟨_, rfl, .ptr rfl⟩, ⟨_, rfl, .ptr rfl⟩, trivial⟩ ⟨.inr ⟨_, _, rfl, rfl, .same rfl⟩, .inr ⟨_, _, rfl, rfl, .same rfl⟩, .inr ⟨_, _, rfl, rfl, .same rfl⟩, .inr ⟨_, _, rfl, rfl, convs_eq rfl (by simp only [noHs, noH, nI, nKs, Bool.and_self])⟩, .inr ⟨_, _, rfl, rfl, convs_eq rfl (words_noHs _)⟩, .inr ⟨_, _, rfl, rfl, convs_eq rfl (words_noHs _)⟩, trivial⟩ (by omega) (by omega)
          · rw [decide_eq_false hk] at ms ⊢
            conv => whnf
            try (refine ⟨by kernel_rfl, ?_⟩; conv => whnf)
            refine next_round (y := j) G0ok (j + 1) [(0, some 0), (1, some 1), (2, some 2), (3, some 3), (4, some 4), (5, some 5)] rfl ⟨⟨_, rfl, conv_nI (ws_i64 (by omega) (by omega))⟩, ⟨_, rfl, conv_nI (rfl)⟩, ⟨_, rfl, conv_eq rfl (nSs)⟩, ⟨_, rfl, conv_eq (by rw [ms]; try rfl) rfl⟩, ⟨_, rfl, conv_nI (rfl)⟩, ⟨_, rfl, .ptr rfl⟩, ⟨_, rfl, .ptr rfl⟩, ⟨_, rfl, conv_nI (rfl)⟩, ⟨_, rfl, conv_nI (rfl)⟩, ⟨_, rfl, conv_eq rfl (nSs)⟩, ⟨_, rfl, .ptr rfl⟩, ⟨_, rfl, .ptr rfl⟩, ⟨_, rfl, .ptr rfl⟩, ⟨_, rfl, .ptr rfl⟩, trivial⟩ ⟨.inr ⟨_, _, rfl, rfl, .same rfl⟩, .inr ⟨_, _, rfl, rfl, .same rfl⟩, .inr ⟨_, _, rfl, rfl, .same rfl⟩, .inr ⟨_, _, rfl, rfl, convs_eq rfl (by simp only [noHs, noH, nI, nKs, Bool.and_self])⟩, .inr ⟨_, _, rfl, rfl, convs_eq rfl (words_noHs _)⟩, .inr ⟨_, _, rfl, rfl, convs_eq rfl (words_noHs _)⟩, trivial⟩ (by omega) (by omega)
        · rw [decide_eq_false he] at ms ⊢
          conv => whnf
          try (refine ⟨by kernel_rfl, ?_⟩; conv => whnf)
          refine next_round (y := j) G0ok (j + 1) [(0, some 0), (1, some 1), (2, some 2), (3, some 3), (4, some 4), (5, some 5)] rfl ⟨⟨_, rfl, conv_nI (ws_i64 (by omega) (by omega))⟩, ⟨_, rfl, conv_nI (rfl)⟩, ⟨_, rfl, conv_eq rfl (nSs)⟩, ⟨_, rfl, conv_eq (by rw [ms]; try rfl) rfl⟩, ⟨_, rfl, conv_nI (rfl)⟩, ⟨_, rfl, .ptr rfl⟩, ⟨_, rfl, .ptr rfl⟩, ⟨_, rfl, conv_nI (rfl)⟩, ⟨_, rfl, conv_nI (rfl)⟩, ⟨_, rfl, conv_eq rfl (nSs)⟩, ⟨_, rfl, .ptr rfl⟩, ⟨_, rfl, .ptr rfl⟩, ⟨_, rfl, .ptr rfl⟩, ⟨_, rfl, .ptr rfl⟩, trivial⟩ ⟨.inr ⟨_, _, rfl, rfl, .same rfl⟩, .inr ⟨_, _, rfl, rfl, .same rfl⟩, .inr ⟨_, _, rfl, rfl, .same rfl⟩, .inr ⟨_, _, rfl, rfl, convs_eq rfl (by simp only [noHs, noH, nI, nKs, Bool.and_self])⟩, .inr ⟨_, _, rfl, rfl, convs_eq rfl (words_noHs _)⟩, .inr ⟨_, _, rfl, rfl, convs_eq rfl (words_noHs _)⟩, trivial⟩ (by omega) (by omega)
      · rw [hm] at ms ⊢
        rw [Bool.false_and] at ms
        conv => whnf
        try (refine ⟨by kernel_rfl, ?_⟩; conv => whnf)
        refine next_round (y := j) G0ok (j + 1) [(0, some 0), (1, some 1), (2, some 2), (3, some 3), (4, some 4), (5, some 5)] rfl ⟨⟨_, rfl, conv_nI (ws_i64 (by omega) (by omega))⟩, ⟨_, rfl, conv_nI (rfl)⟩, ⟨_, rfl, conv_eq rfl (nSs)⟩, ⟨_, rfl, conv_eq (by rw [ms]; try rfl) rfl⟩, ⟨_, rfl, conv_nI (rfl)⟩, ⟨_, rfl, .ptr rfl⟩, ⟨_, rfl, .ptr rfl⟩, ⟨_, rfl, conv_nI (rfl)⟩, ⟨_, rfl, conv_nI (rfl)⟩, ⟨_, rfl, conv_eq rfl (nSs)⟩, ⟨_, rfl, .ptr rfl⟩, ⟨_, rfl, .ptr rfl⟩, ⟨_, rfl, .ptr rfl⟩, ⟨_, rfl, .ptr rfl⟩, trivial⟩ ⟨.inr ⟨_, _, rfl, rfl, .same rfl⟩, .inr ⟨_, _, rfl, rfl, .same rfl⟩, .inr ⟨_, _, rfl, rfl, .same rfl⟩, .inr ⟨_, _, rfl, rfl, convs_eq rfl (by simp only [noHs, noH, nI, nKs, Bool.and_self])⟩, .inr ⟨_, _, rfl, rfl, convs_eq rfl (words_noHs _)⟩, .inr ⟨_, _, rfl, rfl, convs_eq rfl (words_noHs _)⟩, trivial⟩ (by omega) (by omega)
    · have hc := of_decide_eq_false hc
      have e4 : j = 4 := by omega
      subst e4
      rw [m4]
      conv => whnf
      try (refine ⟨by kernel_rfl, ?_⟩; conv => whnf)
      refine ⟨_, ret_of_fn G0ok (sx) (by first | rfl | simp only [noHs, noH, nI, bI, Bool.and_self, Bool.and_true, Bool.true_and, bts_noHs]) (by first | rfl | simp only [noHs, noH, nI, bI, Bool.and_self, Bool.and_true, Bool.true_and, bts_noHs]), ?_⟩; (conv => whnf); (try (refine ⟨by kernel_rfl, ?_⟩; conv => whnf))
      refine ⟨_, ret_of_fn G0ok (c1) (by first | rfl | simp only [noHs, noH, nI, bI, Bool.and_self, Bool.and_true, Bool.true_and, nKs, nDs, bts_noHs, nSs, noHs_append, words_noHs, uC]) (by first | rfl | simp only [noHs, noH, nI, bI, Bool.and_self, Bool.and_true, Bool.true_and, nKs, nDs, bts_noHs, nSs, noHs_append, words_noHs, uC]), ?_⟩; (conv => whnf); (try (refine ⟨by kernel_rfl, ?_⟩; conv => whnf))
      rcases h2 with rfl | ⟨rfl, hk⟩
      · conv => whnf
        try (refine ⟨by kernel_rfl, ?_⟩; conv => whnf)
        rw [show ((F : Int) == 0) = decide (F = 0) from beq_lit F 0]
        by_cases hF : F = 0
        · rw [decide_eq_true hF]
          conv => whnf
          try (refine ⟨by kernel_rfl, ?_⟩; conv => whnf)
          refine ⟨_, ne, ?_⟩
          by_cases hab : a = b
          · rw [decide_eq_true hab]
            conv => whnf
            try (refine ⟨by kernel_rfl, ?_⟩; conv => whnf)
            rw [show ((F : Int) == 0) = decide (F = 0) from beq_lit F 0, decide_eq_true hF]
            exact ⟨_, rfl, rfl⟩
          · rw [decide_eq_false hab]
            conv => whnf
            try (refine ⟨by kernel_rfl, ?_⟩; conv => whnf)
            exact ⟨_, rfl, rfl⟩
        · rw [decide_eq_false hF]
          conv => whnf
          try (refine ⟨by kernel_rfl, ?_⟩; conv => whnf)
          refine ⟨_, ne, ?_⟩
          rw [decide_eq_false fun hab => hF (a3 hab)]
          conv => whnf
          try (refine ⟨by kernel_rfl, ?_⟩; conv => whnf)
          exact ⟨_, rfl, rfl⟩
      · conv => whnf
        try (refine ⟨by kernel_rfl, ?_⟩; conv => whnf)
        refine bindP_intro (row_load (i := 0) (w := 20) rfl rfl rfl (fun a _ => by unfold membK; rw [bts_length, lkq]) (by rfl) (by decide)) ?_
        rw [List.getElem_range]
        conv => whnf
        try (refine ⟨by kernel_rfl, ?_⟩; conv => whnf)
        rw [ws_i64 (x := ((0 : Nat) : Int) + 1) (by decide) (by decide)]
        conv => whnf
        try (refine ⟨by kernel_rfl, ?_⟩; conv => whnf)
        refine bindP_intro (row_load (i := (0 + 1) % 4) (w := 20) rfl rfl rfl (fun a _ => by unfold membK; rw [bts_length, lkq]) (by rfl) (by decide)) ?_
        rw [List.getElem_range]
        conv => whnf
        try (refine ⟨by kernel_rfl, ?_⟩; conv => whnf)
        refine ⟨_, ek2, ?_⟩
        rw [decide_eq_true hk]
        conv => whnf
        try (refine ⟨by kernel_rfl, ?_⟩; conv => whnf)
        rw [show ((F : Int) == 0) = decide (F = 0) from beq_lit F 0]
        by_cases hF : F = 0
        · rw [decide_eq_true hF]
          conv => whnf
          try (refine ⟨by kernel_rfl, ?_⟩; conv => whnf)
          refine ⟨_, ne, ?_⟩
          by_cases hab : a = b
          · rw [decide_eq_true hab]
            conv => whnf
            try (refine ⟨by kernel_rfl, ?_⟩; conv => whnf)
            rw [show ((F : Int) == 0) = decide (F = 0) from beq_lit F 0, decide_eq_true hF]
            exact ⟨_, rfl, rfl⟩
          · rw [decide_eq_false hab]
            conv => whnf
            try (refine ⟨by kernel_rfl, ?_⟩; conv => whnf)
            exact ⟨_, rfl, rfl⟩
        · rw [decide_eq_false hF]
          conv => whnf
          try (refine ⟨by kernel_rfl, ?_⟩; conv => whnf)
          refine ⟨_, ne, ?_⟩
          rw [decide_eq_false fun hab => hF (a3 hab)]
          conv => whnf
          try (refine ⟨by kernel_rfl, ?_⟩; conv => whnf)
          exact ⟨_, rfl, rfl⟩
  · refine fn_of_vwp Γok Tryd.func12 (by kernel_rfl) rfl (by simp [Tryd.ntmps12]) (wpv_ok Γok (by kernel_rfl) _ _ _ ?_); conv => whnf
    refine ⟨_, ret_of_fn G0ok (cv) (by first | rfl | simp only [noHs, noH, nI, bI, Bool.and_self, Bool.and_true, Bool.true_and, ]) (by first | rfl | simp only [noHs, noH, nI, bI, Bool.and_self, Bool.and_true, Bool.true_and, ]), ?_⟩; (conv => whnf); (try (refine ⟨by kernel_rfl, ?_⟩; conv => whnf))
    refine ⟨_, ret_of_fn G0ok (mb) (by first | rfl | simp only [noHs, noH, nI, bI, Bool.and_self, Bool.and_true, Bool.true_and, nKs, nDs]) (by first | rfl | simp only [noHs, noH, nI, bI, Bool.and_self, Bool.and_true, Bool.true_and, nKs, nDs]), ?_⟩; (conv => whnf); (try (refine ⟨by kernel_rfl, ?_⟩; conv => whnf))
    refine ⟨_, ret_of_fn G0ok (sx) (by first | rfl | simp only [noHs, noH, nI, bI, Bool.and_self, Bool.and_true, Bool.true_and, bts_noHs]) (by first | rfl | simp only [noHs, noH, nI, bI, Bool.and_self, Bool.and_true, Bool.true_and, bts_noHs]), ?_⟩; (conv => whnf); (try (refine ⟨by kernel_rfl, ?_⟩; conv => whnf))
    refine ⟨_, ret_of_fn G0ok (sf) (by first | rfl | simp only [noHs, noH, nI, bI, Bool.and_self, Bool.and_true, Bool.true_and, nKs, nDs, bts_noHs, nSs, noHs_append, words_noHs, uC]) (by first | rfl | simp only [noHs, noH, nI, bI, Bool.and_self, Bool.and_true, Bool.true_and, nKs, nDs, bts_noHs, nSs, noHs_append, words_noHs, uC]), ?_⟩; (conv => whnf); (try (refine ⟨by kernel_rfl, ?_⟩; conv => whnf))
    refine ⟨_, ret_of_fn G0ok (st) (by first | rfl | simp only [noHs, noH, nI, bI, Bool.and_self, Bool.and_true, Bool.true_and, ]) (by first | rfl | simp only [noHs, noH, nI, bI, Bool.and_self, Bool.and_true, Bool.true_and, ]), ?_⟩; (conv => whnf); (try (refine ⟨by kernel_rfl, ?_⟩; conv => whnf))
    refine ⟨_, ret_of_fn G0ok (pk) (by first | rfl | simp only [noHs, noH, nI, bI, Bool.and_self, Bool.and_true, Bool.true_and, ]) (by first | rfl | simp only [noHs, noH, nI, bI, Bool.and_self, Bool.and_true, Bool.true_and, ]), ?_⟩; (conv => whnf); (try (refine ⟨by kernel_rfl, ?_⟩; conv => whnf))
    refine .ownAs 0 [] rfl rfl ?_
    conv => whnf
    try (refine ⟨by kernel_rfl, ?_⟩; conv => whnf)
    refine .ownAs 4 (rows (sgC S) [0, 1, 2, 3]) (by rfl) (by rfl) ?_
    conv => whnf
    try (refine ⟨by kernel_rfl, ?_⟩; conv => whnf)
    rw [ws_i64 (x := ((1 : Nat) : Int) + 1) (by decide) (by decide)]
    conv => whnf
    try (refine ⟨by kernel_rfl, ?_⟩; conv => whnf)
    refine ⟨_, ret_of_fn G0ok (sx) (by first | rfl | simp only [noHs, noH, nI, bI, Bool.and_self, Bool.and_true, Bool.true_and, bts_noHs]) (by first | rfl | simp only [noHs, noH, nI, bI, Bool.and_self, Bool.and_true, Bool.true_and, bts_noHs]), ?_⟩; (conv => whnf); (try (refine ⟨by kernel_rfl, ?_⟩; conv => whnf))
    refine ⟨_, ret_own [5] G0ok (c2) (mapO_cons (deepV_noH _ _ nC) (mapO_cons (deepV_noH _ _ nT) (mapO_cons (deepV_noH _ _ (bts_noHs _)) (mapO_cons (deep_row rfl rfl (rows_noHs qE_noHs _)) mapO_nil)))) rfl, ?_⟩; (conv => whnf); (try (refine ⟨by kernel_rfl, ?_⟩; conv => whnf))
    refine ⟨_, ret_of_fn G0ok (sx) (by first | rfl | simp only [noHs, noH, nI, bI, Bool.and_self, Bool.and_true, Bool.true_and, bts_noHs]) (by first | rfl | simp only [noHs, noH, nI, bI, Bool.and_self, Bool.and_true, Bool.true_and, bts_noHs]), ?_⟩; (conv => whnf); (try (refine ⟨by kernel_rfl, ?_⟩; conv => whnf))
    refine ⟨_, ret_of_fn G0ok (fx) (by first | rfl | simp only [noHs, noH, nI, bI, Bool.and_self, Bool.and_true, Bool.true_and, bts_noHs]) (by first | rfl | simp only [noHs, noH, nI, bI, Bool.and_self, Bool.and_true, Bool.true_and, bts_noHs]), ?_⟩; (conv => whnf); (try (refine ⟨by kernel_rfl, ?_⟩; conv => whnf))
    refine ⟨_, ret_of_fn G0ok (dx) (by first | rfl | simp only [noHs, noH, nI, bI, Bool.and_self, Bool.and_true, Bool.true_and, ]) (by first | rfl | simp only [noHs, noH, nI, bI, Bool.and_self, Bool.and_true, Bool.true_and, ]), ?_⟩; (conv => whnf); (try (refine ⟨by kernel_rfl, ?_⟩; conv => whnf))
    refine ⟨_, ret_of_fn G0ok (sy) (by first | rfl | simp only [noHs, noH, nI, bI, Bool.and_self, Bool.and_true, Bool.true_and, bts_noHs]) (by first | rfl | simp only [noHs, noH, nI, bI, Bool.and_self, Bool.and_true, Bool.true_and, bts_noHs]), ?_⟩; (conv => whnf); (try (refine ⟨by kernel_rfl, ?_⟩; conv => whnf))
    refine ⟨_, ret_of_fn G0ok (fy) (by first | rfl | simp only [noHs, noH, nI, bI, Bool.and_self, Bool.and_true, Bool.true_and, bts_noHs]) (by first | rfl | simp only [noHs, noH, nI, bI, Bool.and_self, Bool.and_true, Bool.true_and, bts_noHs]), ?_⟩; (conv => whnf); (try (refine ⟨by kernel_rfl, ?_⟩; conv => whnf))
    refine ⟨_, ret_of_fn G0ok (dy) (by first | rfl | simp only [noHs, noH, nI, bI, Bool.and_self, Bool.and_true, Bool.true_and, ]) (by first | rfl | simp only [noHs, noH, nI, bI, Bool.and_self, Bool.and_true, Bool.true_and, ]), ?_⟩; (conv => whnf); (try (refine ⟨by kernel_rfl, ?_⟩; conv => whnf))
    refine ⟨_, ret_of_fn G0ok (sy) (by first | rfl | simp only [noHs, noH, nI, bI, Bool.and_self, Bool.and_true, Bool.true_and, bts_noHs]) (by first | rfl | simp only [noHs, noH, nI, bI, Bool.and_self, Bool.and_true, Bool.true_and, bts_noHs]), ?_⟩; (conv => whnf); (try (refine ⟨by kernel_rfl, ?_⟩; conv => whnf))
    refine ⟨_, ret_of_fn G0ok (c3) (by first | rfl | simp only [noHs, noH, nI, bI, Bool.and_self, Bool.and_true, Bool.true_and, nKs, nDs, bts_noHs, nSs, noHs_append, words_noHs, uC]) (by first | rfl | simp only [noHs, noH, nI, bI, Bool.and_self, Bool.and_true, Bool.true_and, nKs, nDs, bts_noHs, nSs, noHs_append, words_noHs, uC]), ?_⟩; (conv => whnf); (try (refine ⟨by kernel_rfl, ?_⟩; conv => whnf))
    refine vloop_invK G0ok [(0, some 0), (1, some 1), (2, some 2), (3, some 3), (4, some 7), (5, some 9)] 6 (X := Nat)
      (fun j => [(103, nI .i64 j), (102, nI .i64 4), (101, .ds false 4 (rows (sgC S) [0, 1, 2, 3])), (23, .v (.bool (metB k ep j))), (22, nI .i64 F), (20, .ptr 5 0), (17, .ptr 4 0), (15, nI .i64 E), (13, nI .i64 (((1 : Nat)) : Int)), (12, .ds false 4 (rows (sgC S) [0, 1, 2, 3])), (10, .ptr 3 0), (9, .ptr 2 0), (6, .ptr 1 0), (5, .ptr 0 0)])
      (fun j => [(0, some [nI .i64 x.k, nI .i64 x.a, nI .i64 x.b, .v (.string x.s)]), (1, some [nI .i64 y.k, nI .i64 y.a, nI .i64 y.b, .v (.string y.s)]), (2, some (uC C.P ++ (uC C.A ++ (uC C.B ++ (uC C.N ++ (uC C.X ++ (uC C.Y ++ [bI false]))))))), (3, some [nI .i64 0, .ds false 4 (rows (membK k) (List.range 4)), nI .i64 0]), (4, some (uC a)), (5, some (uC b))])
      (fun j => j ≤ 4) (fun j => 4 - j) 0 rfl ⟨⟨_, rfl, conv_nI (rfl)⟩, ⟨_, rfl, conv_nI (rfl)⟩, ⟨_, rfl, conv_eq rfl (nSs)⟩, ⟨_, rfl, .same rfl⟩, ⟨_, rfl, conv_nI (rfl)⟩, ⟨_, rfl, .ptr rfl⟩, ⟨_, rfl, .ptr rfl⟩, ⟨_, rfl, conv_nI (rfl)⟩, ⟨_, rfl, conv_nI (rfl)⟩, ⟨_, rfl, conv_eq rfl (nSs)⟩, ⟨_, rfl, .ptr rfl⟩, ⟨_, rfl, .ptr rfl⟩, ⟨_, rfl, .ptr rfl⟩, ⟨_, rfl, .ptr rfl⟩, trivial⟩ ⟨.inr ⟨_, _, rfl, rfl, .same rfl⟩, .inr ⟨_, _, rfl, rfl, .same rfl⟩, .inr ⟨_, _, rfl, rfl, .same rfl⟩, .inr ⟨_, _, rfl, rfl, convs_eq rfl (by simp only [noHs, noH, nI, nKs, Bool.and_self])⟩, .inr ⟨_, _, rfl, rfl, convs_eq rfl (words_noHs _)⟩, .inr ⟨_, _, rfl, rfl, convs_eq rfl (words_noHs _)⟩, trivial⟩ (Nat.zero_le _) ?_
    intro j hj
    dsimp only at hj ⊢
    refine wpv_ok Γok (by kernel_rfl) _ _ _ ?_; conv => whnf
    refine bool_cases (fun hc => ?_) (fun hc => ?_)
    · have hc := of_decide_eq_true hc
      have ryj := ry j
      have kyj := ky j
      have ekj := ek j
      have ms := metB_succ k ep j
      unfold okB at ms
      have hjj : ([0, 1, 2, 3] : List Nat)[j]'(by show j < 4; omega) = j := by
        have : j = 0 ∨ j = 1 ∨ j = 2 ∨ j = 3 := by omega
        rcases this with rfl | rfl | rfl | rfl <;> rfl
      conv => whnf
      try (refine ⟨by kernel_rfl, ?_⟩; conv => whnf)
      refine bindP_intro (if_pos (inB_ok (by omega) (by omega))) ?_; conv => whnf
      refine bindP_intro (row_load (i := j) (w := 10) rfl rfl rfl (fun a _ => sgC_len S a) (by dsimp only; omega) (by show j < 4; omega)) ?_
      rw [hjj]
      unfold sgC SgD.cells
      conv => whnf
      try (refine ⟨by kernel_rfl, ?_⟩; conv => whnf)
      refine ⟨_, ret_of_fn G0ok (sy) (by first | rfl | simp only [noHs, noH, nI, bI, Bool.and_self, Bool.and_true, Bool.true_and, bts_noHs]) (by first | rfl | simp only [noHs, noH, nI, bI, Bool.and_self, Bool.and_true, Bool.true_and, bts_noHs]), ?_⟩; (conv => whnf); (try (refine ⟨by kernel_rfl, ?_⟩; conv => whnf))
      unfold SgD.v SgD.cells PtD.v PtD.cells at ryj
      refine ⟨_, ret_of_fn G0ok (ryj) (by first | rfl | simp only [noHs, noH, nI, bI, Bool.and_self, Bool.and_true, Bool.true_and, noHs_append, words_noHs, bts_noHs, uC, uV, noHs, noH]) (by first | rfl | simp only [noHs, noH, nI, bI, Bool.and_self, Bool.and_true, Bool.true_and, noHs_append, words_noHs, bts_noHs, uC, uV, noHs, noH]), ?_⟩; (conv => whnf); (try (refine ⟨by kernel_rfl, ?_⟩; conv => whnf))
      rcases Bool.eq_false_or_eq_true (metB k ep j) with hm | hm
      · rw [hm] at ms ⊢
        conv => whnf
        try (refine ⟨by kernel_rfl, ?_⟩; conv => whnf)
        rw [show (((ep j).1 : Int) == 0) = decide ((ep j).1 = 0) from beq_lit _ 0]
        by_cases he : (ep j).1 = 0
        · rw [decide_eq_true he] at ms ⊢
          conv => whnf
          try (refine ⟨by kernel_rfl, ?_⟩; conv => whnf)
          unfold PtD.v PtD.cells at kyj
          refine ⟨_, ret_of_fn G0ok (kyj) (by first | rfl | simp only [noHs, noH, nI, bI, Bool.and_self, Bool.and_true, Bool.true_and, bts_noHs]) (by first | rfl | simp only [noHs, noH, nI, bI, Bool.and_self, Bool.and_true, Bool.true_and, bts_noHs]), ?_⟩; (conv => whnf); (try (refine ⟨by kernel_rfl, ?_⟩; conv => whnf))
          refine bindP_intro (if_pos (inB_ok (by omega) (by omega))) ?_; conv => whnf
          refine bindP_intro (row_load (i := j) (w := 20) rfl rfl rfl (fun a _ => by unfold membK; rw [bts_length, lkq]) (by dsimp only; omega) (by rw [List.length_range]; omega)) ?_
          rw [List.getElem_range]
          conv => whnf
          try (refine ⟨by kernel_rfl, ?_⟩; conv => whnf)
          refine ⟨_, ekj, ?_⟩
          by_cases hk : keyB (ep j).2 = keyB (gk k (secM k j))
          · rw [decide_eq_true hk] at ms ⊢
            conv => whnf
            try (refine ⟨by kernel_rfl, ?_⟩; conv => whnf)
            refine next_round (y := j) G0ok (j + 1) [(0, some 0), (1, some 1), (2, some 2), (3, some 3), (4, some 4), (5, some 5)] rfl ⟨⟨_, rfl, conv_nI (ws_i64 (by omega) (by omega))⟩, ⟨_, rfl, conv_nI (rfl)⟩, ⟨_, rfl, conv_eq rfl (nSs)⟩, ⟨_, rfl, conv_eq (by rw [ms]; try rfl) rfl⟩, ⟨_, rfl, conv_nI (rfl)⟩, ⟨_, rfl, .ptr rfl⟩, ⟨_, rfl, .ptr rfl⟩, ⟨_, rfl, conv_nI (rfl)⟩, ⟨_, rfl, conv_nI (rfl)⟩, ⟨_, rfl, conv_eq rfl (nSs)⟩, ⟨_, rfl, .ptr rfl⟩, ⟨_, rfl, .ptr rfl⟩, ⟨_, rfl, .ptr rfl⟩, ⟨_, rfl, .ptr rfl⟩, trivial⟩ ⟨.inr ⟨_, _, rfl, rfl, .same rfl⟩, .inr ⟨_, _, rfl, rfl, .same rfl⟩, .inr ⟨_, _, rfl, rfl, .same rfl⟩, .inr ⟨_, _, rfl, rfl, convs_eq rfl (by simp only [noHs, noH, nI, nKs, Bool.and_self])⟩, .inr ⟨_, _, rfl, rfl, convs_eq rfl (words_noHs _)⟩, .inr ⟨_, _, rfl, rfl, convs_eq rfl (words_noHs _)⟩, trivial⟩ (by omega) (by omega)
          · rw [decide_eq_false hk] at ms ⊢
            conv => whnf
            try (refine ⟨by kernel_rfl, ?_⟩; conv => whnf)
            refine next_round (y := j) G0ok (j + 1) [(0, some 0), (1, some 1), (2, some 2), (3, some 3), (4, some 4), (5, some 5)] rfl ⟨⟨_, rfl, conv_nI (ws_i64 (by omega) (by omega))⟩, ⟨_, rfl, conv_nI (rfl)⟩, ⟨_, rfl, conv_eq rfl (nSs)⟩, ⟨_, rfl, conv_eq (by rw [ms]; try rfl) rfl⟩, ⟨_, rfl, conv_nI (rfl)⟩, ⟨_, rfl, .ptr rfl⟩, ⟨_, rfl, .ptr rfl⟩, ⟨_, rfl, conv_nI (rfl)⟩, ⟨_, rfl, conv_nI (rfl)⟩, ⟨_, rfl, conv_eq rfl (nSs)⟩, ⟨_, rfl, .ptr rfl⟩, ⟨_, rfl, .ptr rfl⟩, ⟨_, rfl, .ptr rfl⟩, ⟨_, rfl, .ptr rfl⟩, trivial⟩ ⟨.inr ⟨_, _, rfl, rfl, .same rfl⟩, .inr ⟨_, _, rfl, rfl, .same rfl⟩, .inr ⟨_, _, rfl, rfl, .same rfl⟩, .inr ⟨_, _, rfl, rfl, convs_eq rfl (by simp only [noHs, noH, nI, nKs, Bool.and_self])⟩, .inr ⟨_, _, rfl, rfl, convs_eq rfl (words_noHs _)⟩, .inr ⟨_, _, rfl, rfl, convs_eq rfl (words_noHs _)⟩, trivial⟩ (by omega) (by omega)
        · rw [decide_eq_false he] at ms ⊢
          conv => whnf
          try (refine ⟨by kernel_rfl, ?_⟩; conv => whnf)
          refine next_round (y := j) G0ok (j + 1) [(0, some 0), (1, some 1), (2, some 2), (3, some 3), (4, some 4), (5, some 5)] rfl ⟨⟨_, rfl, conv_nI (ws_i64 (by omega) (by omega))⟩, ⟨_, rfl, conv_nI (rfl)⟩, ⟨_, rfl, conv_eq rfl (nSs)⟩, ⟨_, rfl, conv_eq (by rw [ms]; try rfl) rfl⟩, ⟨_, rfl, conv_nI (rfl)⟩, ⟨_, rfl, .ptr rfl⟩, ⟨_, rfl, .ptr rfl⟩, ⟨_, rfl, conv_nI (rfl)⟩, ⟨_, rfl, conv_nI (rfl)⟩, ⟨_, rfl, conv_eq rfl (nSs)⟩, ⟨_, rfl, .ptr rfl⟩, ⟨_, rfl, .ptr rfl⟩, ⟨_, rfl, .ptr rfl⟩, ⟨_, rfl, .ptr rfl⟩, trivial⟩ ⟨.inr ⟨_, _, rfl, rfl, .same rfl⟩, .inr ⟨_, _, rfl, rfl, .same rfl⟩, .inr ⟨_, _, rfl, rfl, .same rfl⟩, .inr ⟨_, _, rfl, rfl, convs_eq rfl (by simp only [noHs, noH, nI, nKs, Bool.and_self])⟩, .inr ⟨_, _, rfl, rfl, convs_eq rfl (words_noHs _)⟩, .inr ⟨_, _, rfl, rfl, convs_eq rfl (words_noHs _)⟩, trivial⟩ (by omega) (by omega)
      · rw [hm] at ms ⊢
        rw [Bool.false_and] at ms
        conv => whnf
        try (refine ⟨by kernel_rfl, ?_⟩; conv => whnf)
        refine next_round (y := j) G0ok (j + 1) [(0, some 0), (1, some 1), (2, some 2), (3, some 3), (4, some 4), (5, some 5)] rfl ⟨⟨_, rfl, conv_nI (ws_i64 (by omega) (by omega))⟩, ⟨_, rfl, conv_nI (rfl)⟩, ⟨_, rfl, conv_eq rfl (nSs)⟩, ⟨_, rfl, conv_eq (by rw [ms]; try rfl) rfl⟩, ⟨_, rfl, conv_nI (rfl)⟩, ⟨_, rfl, .ptr rfl⟩, ⟨_, rfl, .ptr rfl⟩, ⟨_, rfl, conv_nI (rfl)⟩, ⟨_, rfl, conv_nI (rfl)⟩, ⟨_, rfl, conv_eq rfl (nSs)⟩, ⟨_, rfl, .ptr rfl⟩, ⟨_, rfl, .ptr rfl⟩, ⟨_, rfl, .ptr rfl⟩, ⟨_, rfl, .ptr rfl⟩, trivial⟩ ⟨.inr ⟨_, _, rfl, rfl, .same rfl⟩, .inr ⟨_, _, rfl, rfl, .same rfl⟩, .inr ⟨_, _, rfl, rfl, .same rfl⟩, .inr ⟨_, _, rfl, rfl, convs_eq rfl (by simp only [noHs, noH, nI, nKs, Bool.and_self])⟩, .inr ⟨_, _, rfl, rfl, convs_eq rfl (words_noHs _)⟩, .inr ⟨_, _, rfl, rfl, convs_eq rfl (words_noHs _)⟩, trivial⟩ (by omega) (by omega)
    · have hc := of_decide_eq_false hc
      have e4 : j = 4 := by omega
      subst e4
      rw [m4]
      conv => whnf
      try (refine ⟨by kernel_rfl, ?_⟩; conv => whnf)
      refine ⟨_, ret_of_fn G0ok (sx) (by first | rfl | simp only [noHs, noH, nI, bI, Bool.and_self, Bool.and_true, Bool.true_and, bts_noHs]) (by first | rfl | simp only [noHs, noH, nI, bI, Bool.and_self, Bool.and_true, Bool.true_and, bts_noHs]), ?_⟩; (conv => whnf); (try (refine ⟨by kernel_rfl, ?_⟩; conv => whnf))
      refine ⟨_, ret_of_fn G0ok (c1) (by first | rfl | simp only [noHs, noH, nI, bI, Bool.and_self, Bool.and_true, Bool.true_and, nKs, nDs, bts_noHs, nSs, noHs_append, words_noHs, uC]) (by first | rfl | simp only [noHs, noH, nI, bI, Bool.and_self, Bool.and_true, Bool.true_and, nKs, nDs, bts_noHs, nSs, noHs_append, words_noHs, uC]), ?_⟩; (conv => whnf); (try (refine ⟨by kernel_rfl, ?_⟩; conv => whnf))
      rcases h2 with rfl | ⟨rfl, hk⟩
      · conv => whnf
        try (refine ⟨by kernel_rfl, ?_⟩; conv => whnf)
        rw [show ((F : Int) == 0) = decide (F = 0) from beq_lit F 0]
        by_cases hF : F = 0
        · rw [decide_eq_true hF]
          conv => whnf
          try (refine ⟨by kernel_rfl, ?_⟩; conv => whnf)
          refine ⟨_, ne, ?_⟩
          by_cases hab : a = b
          · rw [decide_eq_true hab]
            conv => whnf
            try (refine ⟨by kernel_rfl, ?_⟩; conv => whnf)
            rw [show ((F : Int) == 0) = decide (F = 0) from beq_lit F 0, decide_eq_true hF]
            exact ⟨_, rfl, rfl⟩
          · rw [decide_eq_false hab]
            conv => whnf
            try (refine ⟨by kernel_rfl, ?_⟩; conv => whnf)
            exact ⟨_, rfl, rfl⟩
        · rw [decide_eq_false hF]
          conv => whnf
          try (refine ⟨by kernel_rfl, ?_⟩; conv => whnf)
          refine ⟨_, ne, ?_⟩
          rw [decide_eq_false fun hab => hF (a3 hab)]
          conv => whnf
          try (refine ⟨by kernel_rfl, ?_⟩; conv => whnf)
          exact ⟨_, rfl, rfl⟩
      · conv => whnf
        try (refine ⟨by kernel_rfl, ?_⟩; conv => whnf)
        refine bindP_intro (row_load (i := 1) (w := 20) rfl rfl rfl (fun a _ => by unfold membK; rw [bts_length, lkq]) (by rfl) (by decide)) ?_
        rw [List.getElem_range]
        conv => whnf
        try (refine ⟨by kernel_rfl, ?_⟩; conv => whnf)
        rw [ws_i64 (x := ((1 : Nat) : Int) + 1) (by decide) (by decide)]
        conv => whnf
        try (refine ⟨by kernel_rfl, ?_⟩; conv => whnf)
        refine bindP_intro (row_load (i := (1 + 1) % 4) (w := 20) rfl rfl rfl (fun a _ => by unfold membK; rw [bts_length, lkq]) (by rfl) (by decide)) ?_
        rw [List.getElem_range]
        conv => whnf
        try (refine ⟨by kernel_rfl, ?_⟩; conv => whnf)
        refine ⟨_, ek2, ?_⟩
        rw [decide_eq_true hk]
        conv => whnf
        try (refine ⟨by kernel_rfl, ?_⟩; conv => whnf)
        rw [show ((F : Int) == 0) = decide (F = 0) from beq_lit F 0]
        by_cases hF : F = 0
        · rw [decide_eq_true hF]
          conv => whnf
          try (refine ⟨by kernel_rfl, ?_⟩; conv => whnf)
          refine ⟨_, ne, ?_⟩
          by_cases hab : a = b
          · rw [decide_eq_true hab]
            conv => whnf
            try (refine ⟨by kernel_rfl, ?_⟩; conv => whnf)
            rw [show ((F : Int) == 0) = decide (F = 0) from beq_lit F 0, decide_eq_true hF]
            exact ⟨_, rfl, rfl⟩
          · rw [decide_eq_false hab]
            conv => whnf
            try (refine ⟨by kernel_rfl, ?_⟩; conv => whnf)
            exact ⟨_, rfl, rfl⟩
        · rw [decide_eq_false hF]
          conv => whnf
          try (refine ⟨by kernel_rfl, ?_⟩; conv => whnf)
          refine ⟨_, ne, ?_⟩
          rw [decide_eq_false fun hab => hF (a3 hab)]
          conv => whnf
          try (refine ⟨by kernel_rfl, ?_⟩; conv => whnf)
          exact ⟨_, rfl, rfl⟩
  · refine fn_of_vwp Γok Tryd.func12 (by kernel_rfl) rfl (by simp [Tryd.ntmps12]) (wpv_ok Γok (by kernel_rfl) _ _ _ ?_); conv => whnf
    refine ⟨_, ret_of_fn G0ok (cv) (by first | rfl | simp only [noHs, noH, nI, bI, Bool.and_self, Bool.and_true, Bool.true_and, ]) (by first | rfl | simp only [noHs, noH, nI, bI, Bool.and_self, Bool.and_true, Bool.true_and, ]), ?_⟩; (conv => whnf); (try (refine ⟨by kernel_rfl, ?_⟩; conv => whnf))
    refine ⟨_, ret_of_fn G0ok (mb) (by first | rfl | simp only [noHs, noH, nI, bI, Bool.and_self, Bool.and_true, Bool.true_and, nKs, nDs]) (by first | rfl | simp only [noHs, noH, nI, bI, Bool.and_self, Bool.and_true, Bool.true_and, nKs, nDs]), ?_⟩; (conv => whnf); (try (refine ⟨by kernel_rfl, ?_⟩; conv => whnf))
    refine ⟨_, ret_of_fn G0ok (sx) (by first | rfl | simp only [noHs, noH, nI, bI, Bool.and_self, Bool.and_true, Bool.true_and, bts_noHs]) (by first | rfl | simp only [noHs, noH, nI, bI, Bool.and_self, Bool.and_true, Bool.true_and, bts_noHs]), ?_⟩; (conv => whnf); (try (refine ⟨by kernel_rfl, ?_⟩; conv => whnf))
    refine ⟨_, ret_of_fn G0ok (sf) (by first | rfl | simp only [noHs, noH, nI, bI, Bool.and_self, Bool.and_true, Bool.true_and, nKs, nDs, bts_noHs, nSs, noHs_append, words_noHs, uC]) (by first | rfl | simp only [noHs, noH, nI, bI, Bool.and_self, Bool.and_true, Bool.true_and, nKs, nDs, bts_noHs, nSs, noHs_append, words_noHs, uC]), ?_⟩; (conv => whnf); (try (refine ⟨by kernel_rfl, ?_⟩; conv => whnf))
    refine ⟨_, ret_of_fn G0ok (st) (by first | rfl | simp only [noHs, noH, nI, bI, Bool.and_self, Bool.and_true, Bool.true_and, ]) (by first | rfl | simp only [noHs, noH, nI, bI, Bool.and_self, Bool.and_true, Bool.true_and, ]), ?_⟩; (conv => whnf); (try (refine ⟨by kernel_rfl, ?_⟩; conv => whnf))
    refine ⟨_, ret_of_fn G0ok (pk) (by first | rfl | simp only [noHs, noH, nI, bI, Bool.and_self, Bool.and_true, Bool.true_and, ]) (by first | rfl | simp only [noHs, noH, nI, bI, Bool.and_self, Bool.and_true, Bool.true_and, ]), ?_⟩; (conv => whnf); (try (refine ⟨by kernel_rfl, ?_⟩; conv => whnf))
    refine .ownAs 0 [] rfl rfl ?_
    conv => whnf
    try (refine ⟨by kernel_rfl, ?_⟩; conv => whnf)
    refine .ownAs 4 (rows (sgC S) [0, 1, 2, 3]) (by rfl) (by rfl) ?_
    conv => whnf
    try (refine ⟨by kernel_rfl, ?_⟩; conv => whnf)
    rw [ws_i64 (x := ((2 : Nat) : Int) + 1) (by decide) (by decide)]
    conv => whnf
    try (refine ⟨by kernel_rfl, ?_⟩; conv => whnf)
    refine ⟨_, ret_of_fn G0ok (sx) (by first | rfl | simp only [noHs, noH, nI, bI, Bool.and_self, Bool.and_true, Bool.true_and, bts_noHs]) (by first | rfl | simp only [noHs, noH, nI, bI, Bool.and_self, Bool.and_true, Bool.true_and, bts_noHs]), ?_⟩; (conv => whnf); (try (refine ⟨by kernel_rfl, ?_⟩; conv => whnf))
    refine ⟨_, ret_own [5] G0ok (c2) (mapO_cons (deepV_noH _ _ nC) (mapO_cons (deepV_noH _ _ nT) (mapO_cons (deepV_noH _ _ (bts_noHs _)) (mapO_cons (deep_row rfl rfl (rows_noHs qE_noHs _)) mapO_nil)))) rfl, ?_⟩; (conv => whnf); (try (refine ⟨by kernel_rfl, ?_⟩; conv => whnf))
    refine ⟨_, ret_of_fn G0ok (sx) (by first | rfl | simp only [noHs, noH, nI, bI, Bool.and_self, Bool.and_true, Bool.true_and, bts_noHs]) (by first | rfl | simp only [noHs, noH, nI, bI, Bool.and_self, Bool.and_true, Bool.true_and, bts_noHs]), ?_⟩; (conv => whnf); (try (refine ⟨by kernel_rfl, ?_⟩; conv => whnf))
    refine ⟨_, ret_of_fn G0ok (fx) (by first | rfl | simp only [noHs, noH, nI, bI, Bool.and_self, Bool.and_true, Bool.true_and, bts_noHs]) (by first | rfl | simp only [noHs, noH, nI, bI, Bool.and_self, Bool.and_true, Bool.true_and, bts_noHs]), ?_⟩; (conv => whnf); (try (refine ⟨by kernel_rfl, ?_⟩; conv => whnf))
    refine ⟨_, ret_of_fn G0ok (dx) (by first | rfl | simp only [noHs, noH, nI, bI, Bool.and_self, Bool.and_true, Bool.true_and, ]) (by first | rfl | simp only [noHs, noH, nI, bI, Bool.and_self, Bool.and_true, Bool.true_and, ]), ?_⟩; (conv => whnf); (try (refine ⟨by kernel_rfl, ?_⟩; conv => whnf))
    refine ⟨_, ret_of_fn G0ok (sy) (by first | rfl | simp only [noHs, noH, nI, bI, Bool.and_self, Bool.and_true, Bool.true_and, bts_noHs]) (by first | rfl | simp only [noHs, noH, nI, bI, Bool.and_self, Bool.and_true, Bool.true_and, bts_noHs]), ?_⟩; (conv => whnf); (try (refine ⟨by kernel_rfl, ?_⟩; conv => whnf))
    refine ⟨_, ret_of_fn G0ok (fy) (by first | rfl | simp only [noHs, noH, nI, bI, Bool.and_self, Bool.and_true, Bool.true_and, bts_noHs]) (by first | rfl | simp only [noHs, noH, nI, bI, Bool.and_self, Bool.and_true, Bool.true_and, bts_noHs]), ?_⟩; (conv => whnf); (try (refine ⟨by kernel_rfl, ?_⟩; conv => whnf))
    refine ⟨_, ret_of_fn G0ok (dy) (by first | rfl | simp only [noHs, noH, nI, bI, Bool.and_self, Bool.and_true, Bool.true_and, ]) (by first | rfl | simp only [noHs, noH, nI, bI, Bool.and_self, Bool.and_true, Bool.true_and, ]), ?_⟩; (conv => whnf); (try (refine ⟨by kernel_rfl, ?_⟩; conv => whnf))
    refine ⟨_, ret_of_fn G0ok (sy) (by first | rfl | simp only [noHs, noH, nI, bI, Bool.and_self, Bool.and_true, Bool.true_and, bts_noHs]) (by first | rfl | simp only [noHs, noH, nI, bI, Bool.and_self, Bool.and_true, Bool.true_and, bts_noHs]), ?_⟩; (conv => whnf); (try (refine ⟨by kernel_rfl, ?_⟩; conv => whnf))
    refine ⟨_, ret_of_fn G0ok (c3) (by first | rfl | simp only [noHs, noH, nI, bI, Bool.and_self, Bool.and_true, Bool.true_and, nKs, nDs, bts_noHs, nSs, noHs_append, words_noHs, uC]) (by first | rfl | simp only [noHs, noH, nI, bI, Bool.and_self, Bool.and_true, Bool.true_and, nKs, nDs, bts_noHs, nSs, noHs_append, words_noHs, uC]), ?_⟩; (conv => whnf); (try (refine ⟨by kernel_rfl, ?_⟩; conv => whnf))
    refine vloop_invK G0ok [(0, some 0), (1, some 1), (2, some 2), (3, some 3), (4, some 7), (5, some 9)] 6 (X := Nat)
      (fun j => [(103, nI .i64 j), (102, nI .i64 4), (101, .ds false 4 (rows (sgC S) [0, 1, 2, 3])), (23, .v (.bool (metB k ep j))), (22, nI .i64 F), (20, .ptr 5 0), (17, .ptr 4 0), (15, nI .i64 E), (13, nI .i64 (((2 : Nat)) : Int)), (12, .ds false 4 (rows (sgC S) [0, 1, 2, 3])), (10, .ptr 3 0), (9, .ptr 2 0), (6, .ptr 1 0), (5, .ptr 0 0)])
      (fun j => [(0, some [nI .i64 x.k, nI .i64 x.a, nI .i64 x.b, .v (.string x.s)]), (1, some [nI .i64 y.k, nI .i64 y.a, nI .i64 y.b, .v (.string y.s)]), (2, some (uC C.P ++ (uC C.A ++ (uC C.B ++ (uC C.N ++ (uC C.X ++ (uC C.Y ++ [bI false]))))))), (3, some [nI .i64 0, .ds false 4 (rows (membK k) (List.range 4)), nI .i64 0]), (4, some (uC a)), (5, some (uC b))])
      (fun j => j ≤ 4) (fun j => 4 - j) 0 rfl ⟨⟨_, rfl, conv_nI (rfl)⟩, ⟨_, rfl, conv_nI (rfl)⟩, ⟨_, rfl, conv_eq rfl (nSs)⟩, ⟨_, rfl, .same rfl⟩, ⟨_, rfl, conv_nI (rfl)⟩, ⟨_, rfl, .ptr rfl⟩, ⟨_, rfl, .ptr rfl⟩, ⟨_, rfl, conv_nI (rfl)⟩, ⟨_, rfl, conv_nI (rfl)⟩, ⟨_, rfl, conv_eq rfl (nSs)⟩, ⟨_, rfl, .ptr rfl⟩, ⟨_, rfl, .ptr rfl⟩, ⟨_, rfl, .ptr rfl⟩, ⟨_, rfl, .ptr rfl⟩, trivial⟩ ⟨.inr ⟨_, _, rfl, rfl, .same rfl⟩, .inr ⟨_, _, rfl, rfl, .same rfl⟩, .inr ⟨_, _, rfl, rfl, .same rfl⟩, .inr ⟨_, _, rfl, rfl, convs_eq rfl (by simp only [noHs, noH, nI, nKs, Bool.and_self])⟩, .inr ⟨_, _, rfl, rfl, convs_eq rfl (words_noHs _)⟩, .inr ⟨_, _, rfl, rfl, convs_eq rfl (words_noHs _)⟩, trivial⟩ (Nat.zero_le _) ?_
    intro j hj
    dsimp only at hj ⊢
    refine wpv_ok Γok (by kernel_rfl) _ _ _ ?_; conv => whnf
    refine bool_cases (fun hc => ?_) (fun hc => ?_)
    · have hc := of_decide_eq_true hc
      have ryj := ry j
      have kyj := ky j
      have ekj := ek j
      have ms := metB_succ k ep j
      unfold okB at ms
      have hjj : ([0, 1, 2, 3] : List Nat)[j]'(by show j < 4; omega) = j := by
        have : j = 0 ∨ j = 1 ∨ j = 2 ∨ j = 3 := by omega
        rcases this with rfl | rfl | rfl | rfl <;> rfl
      conv => whnf
      try (refine ⟨by kernel_rfl, ?_⟩; conv => whnf)
      refine bindP_intro (if_pos (inB_ok (by omega) (by omega))) ?_; conv => whnf
      refine bindP_intro (row_load (i := j) (w := 10) rfl rfl rfl (fun a _ => sgC_len S a) (by dsimp only; omega) (by show j < 4; omega)) ?_
      rw [hjj]
      unfold sgC SgD.cells
      conv => whnf
      try (refine ⟨by kernel_rfl, ?_⟩; conv => whnf)
      refine ⟨_, ret_of_fn G0ok (sy) (by first | rfl | simp only [noHs, noH, nI, bI, Bool.and_self, Bool.and_true, Bool.true_and, bts_noHs]) (by first | rfl | simp only [noHs, noH, nI, bI, Bool.and_self, Bool.and_true, Bool.true_and, bts_noHs]), ?_⟩; (conv => whnf); (try (refine ⟨by kernel_rfl, ?_⟩; conv => whnf))
      unfold SgD.v SgD.cells PtD.v PtD.cells at ryj
      refine ⟨_, ret_of_fn G0ok (ryj) (by first | rfl | simp only [noHs, noH, nI, bI, Bool.and_self, Bool.and_true, Bool.true_and, noHs_append, words_noHs, bts_noHs, uC, uV, noHs, noH]) (by first | rfl | simp only [noHs, noH, nI, bI, Bool.and_self, Bool.and_true, Bool.true_and, noHs_append, words_noHs, bts_noHs, uC, uV, noHs, noH]), ?_⟩; (conv => whnf); (try (refine ⟨by kernel_rfl, ?_⟩; conv => whnf))
      rcases Bool.eq_false_or_eq_true (metB k ep j) with hm | hm
      · rw [hm] at ms ⊢
        conv => whnf
        try (refine ⟨by kernel_rfl, ?_⟩; conv => whnf)
        rw [show (((ep j).1 : Int) == 0) = decide ((ep j).1 = 0) from beq_lit _ 0]
        by_cases he : (ep j).1 = 0
        · rw [decide_eq_true he] at ms ⊢
          conv => whnf
          try (refine ⟨by kernel_rfl, ?_⟩; conv => whnf)
          unfold PtD.v PtD.cells at kyj
          refine ⟨_, ret_of_fn G0ok (kyj) (by first | rfl | simp only [noHs, noH, nI, bI, Bool.and_self, Bool.and_true, Bool.true_and, bts_noHs]) (by first | rfl | simp only [noHs, noH, nI, bI, Bool.and_self, Bool.and_true, Bool.true_and, bts_noHs]), ?_⟩; (conv => whnf); (try (refine ⟨by kernel_rfl, ?_⟩; conv => whnf))
          refine bindP_intro (if_pos (inB_ok (by omega) (by omega))) ?_; conv => whnf
          refine bindP_intro (row_load (i := j) (w := 20) rfl rfl rfl (fun a _ => by unfold membK; rw [bts_length, lkq]) (by dsimp only; omega) (by rw [List.length_range]; omega)) ?_
          rw [List.getElem_range]
          conv => whnf
          try (refine ⟨by kernel_rfl, ?_⟩; conv => whnf)
          refine ⟨_, ekj, ?_⟩
          by_cases hk : keyB (ep j).2 = keyB (gk k (secM k j))
          · rw [decide_eq_true hk] at ms ⊢
            conv => whnf
            try (refine ⟨by kernel_rfl, ?_⟩; conv => whnf)
            refine next_round (y := j) G0ok (j + 1) [(0, some 0), (1, some 1), (2, some 2), (3, some 3), (4, some 4), (5, some 5)] rfl ⟨⟨_, rfl, conv_nI (ws_i64 (by omega) (by omega))⟩, ⟨_, rfl, conv_nI (rfl)⟩, ⟨_, rfl, conv_eq rfl (nSs)⟩, ⟨_, rfl, conv_eq (by rw [ms]; try rfl) rfl⟩, ⟨_, rfl, conv_nI (rfl)⟩, ⟨_, rfl, .ptr rfl⟩, ⟨_, rfl, .ptr rfl⟩, ⟨_, rfl, conv_nI (rfl)⟩, ⟨_, rfl, conv_nI (rfl)⟩, ⟨_, rfl, conv_eq rfl (nSs)⟩, ⟨_, rfl, .ptr rfl⟩, ⟨_, rfl, .ptr rfl⟩, ⟨_, rfl, .ptr rfl⟩, ⟨_, rfl, .ptr rfl⟩, trivial⟩ ⟨.inr ⟨_, _, rfl, rfl, .same rfl⟩, .inr ⟨_, _, rfl, rfl, .same rfl⟩, .inr ⟨_, _, rfl, rfl, .same rfl⟩, .inr ⟨_, _, rfl, rfl, convs_eq rfl (by simp only [noHs, noH, nI, nKs, Bool.and_self])⟩, .inr ⟨_, _, rfl, rfl, convs_eq rfl (words_noHs _)⟩, .inr ⟨_, _, rfl, rfl, convs_eq rfl (words_noHs _)⟩, trivial⟩ (by omega) (by omega)
          · rw [decide_eq_false hk] at ms ⊢
            conv => whnf
            try (refine ⟨by kernel_rfl, ?_⟩; conv => whnf)
            refine next_round (y := j) G0ok (j + 1) [(0, some 0), (1, some 1), (2, some 2), (3, some 3), (4, some 4), (5, some 5)] rfl ⟨⟨_, rfl, conv_nI (ws_i64 (by omega) (by omega))⟩, ⟨_, rfl, conv_nI (rfl)⟩, ⟨_, rfl, conv_eq rfl (nSs)⟩, ⟨_, rfl, conv_eq (by rw [ms]; try rfl) rfl⟩, ⟨_, rfl, conv_nI (rfl)⟩, ⟨_, rfl, .ptr rfl⟩, ⟨_, rfl, .ptr rfl⟩, ⟨_, rfl, conv_nI (rfl)⟩, ⟨_, rfl, conv_nI (rfl)⟩, ⟨_, rfl, conv_eq rfl (nSs)⟩, ⟨_, rfl, .ptr rfl⟩, ⟨_, rfl, .ptr rfl⟩, ⟨_, rfl, .ptr rfl⟩, ⟨_, rfl, .ptr rfl⟩, trivial⟩ ⟨.inr ⟨_, _, rfl, rfl, .same rfl⟩, .inr ⟨_, _, rfl, rfl, .same rfl⟩, .inr ⟨_, _, rfl, rfl, .same rfl⟩, .inr ⟨_, _, rfl, rfl, convs_eq rfl (by simp only [noHs, noH, nI, nKs, Bool.and_self])⟩, .inr ⟨_, _, rfl, rfl, convs_eq rfl (words_noHs _)⟩, .inr ⟨_, _, rfl, rfl, convs_eq rfl (words_noHs _)⟩, trivial⟩ (by omega) (by omega)
        · rw [decide_eq_false he] at ms ⊢
          conv => whnf
          try (refine ⟨by kernel_rfl, ?_⟩; conv => whnf)
          refine next_round (y := j) G0ok (j + 1) [(0, some 0), (1, some 1), (2, some 2), (3, some 3), (4, some 4), (5, some 5)] rfl ⟨⟨_, rfl, conv_nI (ws_i64 (by omega) (by omega))⟩, ⟨_, rfl, conv_nI (rfl)⟩, ⟨_, rfl, conv_eq rfl (nSs)⟩, ⟨_, rfl, conv_eq (by rw [ms]; try rfl) rfl⟩, ⟨_, rfl, conv_nI (rfl)⟩, ⟨_, rfl, .ptr rfl⟩, ⟨_, rfl, .ptr rfl⟩, ⟨_, rfl, conv_nI (rfl)⟩, ⟨_, rfl, conv_nI (rfl)⟩, ⟨_, rfl, conv_eq rfl (nSs)⟩, ⟨_, rfl, .ptr rfl⟩, ⟨_, rfl, .ptr rfl⟩, ⟨_, rfl, .ptr rfl⟩, ⟨_, rfl, .ptr rfl⟩, trivial⟩ ⟨.inr ⟨_, _, rfl, rfl, .same rfl⟩, .inr ⟨_, _, rfl, rfl, .same rfl⟩, .inr ⟨_, _, rfl, rfl, .same rfl⟩, .inr ⟨_, _, rfl, rfl, convs_eq rfl (by simp only [noHs, noH, nI, nKs, Bool.and_self])⟩, .inr ⟨_, _, rfl, rfl, convs_eq rfl (words_noHs _)⟩, .inr ⟨_, _, rfl, rfl, convs_eq rfl (words_noHs _)⟩, trivial⟩ (by omega) (by omega)
      · rw [hm] at ms ⊢
        rw [Bool.false_and] at ms
        conv => whnf
        try (refine ⟨by kernel_rfl, ?_⟩; conv => whnf)
        refine next_round (y := j) G0ok (j + 1) [(0, some 0), (1, some 1), (2, some 2), (3, some 3), (4, some 4), (5, some 5)] rfl ⟨⟨_, rfl, conv_nI (ws_i64 (by omega) (by omega))⟩, ⟨_, rfl, conv_nI (rfl)⟩, ⟨_, rfl, conv_eq rfl (nSs)⟩, ⟨_, rfl, conv_eq (by rw [ms]; try rfl) rfl⟩, ⟨_, rfl, conv_nI (rfl)⟩, ⟨_, rfl, .ptr rfl⟩, ⟨_, rfl, .ptr rfl⟩, ⟨_, rfl, conv_nI (rfl)⟩, ⟨_, rfl, conv_nI (rfl)⟩, ⟨_, rfl, conv_eq rfl (nSs)⟩, ⟨_, rfl, .ptr rfl⟩, ⟨_, rfl, .ptr rfl⟩, ⟨_, rfl, .ptr rfl⟩, ⟨_, rfl, .ptr rfl⟩, trivial⟩ ⟨.inr ⟨_, _, rfl, rfl, .same rfl⟩, .inr ⟨_, _, rfl, rfl, .same rfl⟩, .inr ⟨_, _, rfl, rfl, .same rfl⟩, .inr ⟨_, _, rfl, rfl, convs_eq rfl (by simp only [noHs, noH, nI, nKs, Bool.and_self])⟩, .inr ⟨_, _, rfl, rfl, convs_eq rfl (words_noHs _)⟩, .inr ⟨_, _, rfl, rfl, convs_eq rfl (words_noHs _)⟩, trivial⟩ (by omega) (by omega)
    · have hc := of_decide_eq_false hc
      have e4 : j = 4 := by omega
      subst e4
      rw [m4]
      conv => whnf
      try (refine ⟨by kernel_rfl, ?_⟩; conv => whnf)
      refine ⟨_, ret_of_fn G0ok (sx) (by first | rfl | simp only [noHs, noH, nI, bI, Bool.and_self, Bool.and_true, Bool.true_and, bts_noHs]) (by first | rfl | simp only [noHs, noH, nI, bI, Bool.and_self, Bool.and_true, Bool.true_and, bts_noHs]), ?_⟩; (conv => whnf); (try (refine ⟨by kernel_rfl, ?_⟩; conv => whnf))
      refine ⟨_, ret_of_fn G0ok (c1) (by first | rfl | simp only [noHs, noH, nI, bI, Bool.and_self, Bool.and_true, Bool.true_and, nKs, nDs, bts_noHs, nSs, noHs_append, words_noHs, uC]) (by first | rfl | simp only [noHs, noH, nI, bI, Bool.and_self, Bool.and_true, Bool.true_and, nKs, nDs, bts_noHs, nSs, noHs_append, words_noHs, uC]), ?_⟩; (conv => whnf); (try (refine ⟨by kernel_rfl, ?_⟩; conv => whnf))
      rcases h2 with rfl | ⟨rfl, hk⟩
      · conv => whnf
        try (refine ⟨by kernel_rfl, ?_⟩; conv => whnf)
        rw [show ((F : Int) == 0) = decide (F = 0) from beq_lit F 0]
        by_cases hF : F = 0
        · rw [decide_eq_true hF]
          conv => whnf
          try (refine ⟨by kernel_rfl, ?_⟩; conv => whnf)
          refine ⟨_, ne, ?_⟩
          by_cases hab : a = b
          · rw [decide_eq_true hab]
            conv => whnf
            try (refine ⟨by kernel_rfl, ?_⟩; conv => whnf)
            rw [show ((F : Int) == 0) = decide (F = 0) from beq_lit F 0, decide_eq_true hF]
            exact ⟨_, rfl, rfl⟩
          · rw [decide_eq_false hab]
            conv => whnf
            try (refine ⟨by kernel_rfl, ?_⟩; conv => whnf)
            exact ⟨_, rfl, rfl⟩
        · rw [decide_eq_false hF]
          conv => whnf
          try (refine ⟨by kernel_rfl, ?_⟩; conv => whnf)
          refine ⟨_, ne, ?_⟩
          rw [decide_eq_false fun hab => hF (a3 hab)]
          conv => whnf
          try (refine ⟨by kernel_rfl, ?_⟩; conv => whnf)
          exact ⟨_, rfl, rfl⟩
      · conv => whnf
        try (refine ⟨by kernel_rfl, ?_⟩; conv => whnf)
        refine bindP_intro (row_load (i := 2) (w := 20) rfl rfl rfl (fun a _ => by unfold membK; rw [bts_length, lkq]) (by rfl) (by decide)) ?_
        rw [List.getElem_range]
        conv => whnf
        try (refine ⟨by kernel_rfl, ?_⟩; conv => whnf)
        rw [ws_i64 (x := ((2 : Nat) : Int) + 1) (by decide) (by decide)]
        conv => whnf
        try (refine ⟨by kernel_rfl, ?_⟩; conv => whnf)
        refine bindP_intro (row_load (i := (2 + 1) % 4) (w := 20) rfl rfl rfl (fun a _ => by unfold membK; rw [bts_length, lkq]) (by rfl) (by decide)) ?_
        rw [List.getElem_range]
        conv => whnf
        try (refine ⟨by kernel_rfl, ?_⟩; conv => whnf)
        refine ⟨_, ek2, ?_⟩
        rw [decide_eq_true hk]
        conv => whnf
        try (refine ⟨by kernel_rfl, ?_⟩; conv => whnf)
        rw [show ((F : Int) == 0) = decide (F = 0) from beq_lit F 0]
        by_cases hF : F = 0
        · rw [decide_eq_true hF]
          conv => whnf
          try (refine ⟨by kernel_rfl, ?_⟩; conv => whnf)
          refine ⟨_, ne, ?_⟩
          by_cases hab : a = b
          · rw [decide_eq_true hab]
            conv => whnf
            try (refine ⟨by kernel_rfl, ?_⟩; conv => whnf)
            rw [show ((F : Int) == 0) = decide (F = 0) from beq_lit F 0, decide_eq_true hF]
            exact ⟨_, rfl, rfl⟩
          · rw [decide_eq_false hab]
            conv => whnf
            try (refine ⟨by kernel_rfl, ?_⟩; conv => whnf)
            exact ⟨_, rfl, rfl⟩
        · rw [decide_eq_false hF]
          conv => whnf
          try (refine ⟨by kernel_rfl, ?_⟩; conv => whnf)
          refine ⟨_, ne, ?_⟩
          rw [decide_eq_false fun hab => hF (a3 hab)]
          conv => whnf
          try (refine ⟨by kernel_rfl, ?_⟩; conv => whnf)
          exact ⟨_, rfl, rfl⟩
  · refine fn_of_vwp Γok Tryd.func12 (by kernel_rfl) rfl (by simp [Tryd.ntmps12]) (wpv_ok Γok (by kernel_rfl) _ _ _ ?_); conv => whnf
    refine ⟨_, ret_of_fn G0ok (cv) (by first | rfl | simp only [noHs, noH, nI, bI, Bool.and_self, Bool.and_true, Bool.true_and, ]) (by first | rfl | simp only [noHs, noH, nI, bI, Bool.and_self, Bool.and_true, Bool.true_and, ]), ?_⟩; (conv => whnf); (try (refine ⟨by kernel_rfl, ?_⟩; conv => whnf))
    refine ⟨_, ret_of_fn G0ok (mb) (by first | rfl | simp only [noHs, noH, nI, bI, Bool.and_self, Bool.and_true, Bool.true_and, nKs, nDs]) (by first | rfl | simp only [noHs, noH, nI, bI, Bool.and_self, Bool.and_true, Bool.true_and, nKs, nDs]), ?_⟩; (conv => whnf); (try (refine ⟨by kernel_rfl, ?_⟩; conv => whnf))
    refine ⟨_, ret_of_fn G0ok (sx) (by first | rfl | simp only [noHs, noH, nI, bI, Bool.and_self, Bool.and_true, Bool.true_and, bts_noHs]) (by first | rfl | simp only [noHs, noH, nI, bI, Bool.and_self, Bool.and_true, Bool.true_and, bts_noHs]), ?_⟩; (conv => whnf); (try (refine ⟨by kernel_rfl, ?_⟩; conv => whnf))
    refine ⟨_, ret_of_fn G0ok (sf) (by first | rfl | simp only [noHs, noH, nI, bI, Bool.and_self, Bool.and_true, Bool.true_and, nKs, nDs, bts_noHs, nSs, noHs_append, words_noHs, uC]) (by first | rfl | simp only [noHs, noH, nI, bI, Bool.and_self, Bool.and_true, Bool.true_and, nKs, nDs, bts_noHs, nSs, noHs_append, words_noHs, uC]), ?_⟩; (conv => whnf); (try (refine ⟨by kernel_rfl, ?_⟩; conv => whnf))
    refine ⟨_, ret_of_fn G0ok (st) (by first | rfl | simp only [noHs, noH, nI, bI, Bool.and_self, Bool.and_true, Bool.true_and, ]) (by first | rfl | simp only [noHs, noH, nI, bI, Bool.and_self, Bool.and_true, Bool.true_and, ]), ?_⟩; (conv => whnf); (try (refine ⟨by kernel_rfl, ?_⟩; conv => whnf))
    refine ⟨_, ret_of_fn G0ok (pk) (by first | rfl | simp only [noHs, noH, nI, bI, Bool.and_self, Bool.and_true, Bool.true_and, ]) (by first | rfl | simp only [noHs, noH, nI, bI, Bool.and_self, Bool.and_true, Bool.true_and, ]), ?_⟩; (conv => whnf); (try (refine ⟨by kernel_rfl, ?_⟩; conv => whnf))
    refine .ownAs 0 [] rfl rfl ?_
    conv => whnf
    try (refine ⟨by kernel_rfl, ?_⟩; conv => whnf)
    refine .ownAs 4 (rows (sgC S) [0, 1, 2, 3]) (by rfl) (by rfl) ?_
    conv => whnf
    try (refine ⟨by kernel_rfl, ?_⟩; conv => whnf)
    rw [ws_i64 (x := ((3 : Nat) : Int) + 1) (by decide) (by decide)]
    conv => whnf
    try (refine ⟨by kernel_rfl, ?_⟩; conv => whnf)
    refine ⟨_, ret_of_fn G0ok (sx) (by first | rfl | simp only [noHs, noH, nI, bI, Bool.and_self, Bool.and_true, Bool.true_and, bts_noHs]) (by first | rfl | simp only [noHs, noH, nI, bI, Bool.and_self, Bool.and_true, Bool.true_and, bts_noHs]), ?_⟩; (conv => whnf); (try (refine ⟨by kernel_rfl, ?_⟩; conv => whnf))
    refine ⟨_, ret_own [5] G0ok (c2) (mapO_cons (deepV_noH _ _ nC) (mapO_cons (deepV_noH _ _ nT) (mapO_cons (deepV_noH _ _ (bts_noHs _)) (mapO_cons (deep_row rfl rfl (rows_noHs qE_noHs _)) mapO_nil)))) rfl, ?_⟩; (conv => whnf); (try (refine ⟨by kernel_rfl, ?_⟩; conv => whnf))
    refine ⟨_, ret_of_fn G0ok (sx) (by first | rfl | simp only [noHs, noH, nI, bI, Bool.and_self, Bool.and_true, Bool.true_and, bts_noHs]) (by first | rfl | simp only [noHs, noH, nI, bI, Bool.and_self, Bool.and_true, Bool.true_and, bts_noHs]), ?_⟩; (conv => whnf); (try (refine ⟨by kernel_rfl, ?_⟩; conv => whnf))
    refine ⟨_, ret_of_fn G0ok (fx) (by first | rfl | simp only [noHs, noH, nI, bI, Bool.and_self, Bool.and_true, Bool.true_and, bts_noHs]) (by first | rfl | simp only [noHs, noH, nI, bI, Bool.and_self, Bool.and_true, Bool.true_and, bts_noHs]), ?_⟩; (conv => whnf); (try (refine ⟨by kernel_rfl, ?_⟩; conv => whnf))
    refine ⟨_, ret_of_fn G0ok (dx) (by first | rfl | simp only [noHs, noH, nI, bI, Bool.and_self, Bool.and_true, Bool.true_and, ]) (by first | rfl | simp only [noHs, noH, nI, bI, Bool.and_self, Bool.and_true, Bool.true_and, ]), ?_⟩; (conv => whnf); (try (refine ⟨by kernel_rfl, ?_⟩; conv => whnf))
    refine ⟨_, ret_of_fn G0ok (sy) (by first | rfl | simp only [noHs, noH, nI, bI, Bool.and_self, Bool.and_true, Bool.true_and, bts_noHs]) (by first | rfl | simp only [noHs, noH, nI, bI, Bool.and_self, Bool.and_true, Bool.true_and, bts_noHs]), ?_⟩; (conv => whnf); (try (refine ⟨by kernel_rfl, ?_⟩; conv => whnf))
    refine ⟨_, ret_of_fn G0ok (fy) (by first | rfl | simp only [noHs, noH, nI, bI, Bool.and_self, Bool.and_true, Bool.true_and, bts_noHs]) (by first | rfl | simp only [noHs, noH, nI, bI, Bool.and_self, Bool.and_true, Bool.true_and, bts_noHs]), ?_⟩; (conv => whnf); (try (refine ⟨by kernel_rfl, ?_⟩; conv => whnf))
    refine ⟨_, ret_of_fn G0ok (dy) (by first | rfl | simp only [noHs, noH, nI, bI, Bool.and_self, Bool.and_true, Bool.true_and, ]) (by first | rfl | simp only [noHs, noH, nI, bI, Bool.and_self, Bool.and_true, Bool.true_and, ]), ?_⟩; (conv => whnf); (try (refine ⟨by kernel_rfl, ?_⟩; conv => whnf))
    refine ⟨_, ret_of_fn G0ok (sy) (by first | rfl | simp only [noHs, noH, nI, bI, Bool.and_self, Bool.and_true, Bool.true_and, bts_noHs]) (by first | rfl | simp only [noHs, noH, nI, bI, Bool.and_self, Bool.and_true, Bool.true_and, bts_noHs]), ?_⟩; (conv => whnf); (try (refine ⟨by kernel_rfl, ?_⟩; conv => whnf))
    refine ⟨_, ret_of_fn G0ok (c3) (by first | rfl | simp only [noHs, noH, nI, bI, Bool.and_self, Bool.and_true, Bool.true_and, nKs, nDs, bts_noHs, nSs, noHs_append, words_noHs, uC]) (by first | rfl | simp only [noHs, noH, nI, bI, Bool.and_self, Bool.and_true, Bool.true_and, nKs, nDs, bts_noHs, nSs, noHs_append, words_noHs, uC]), ?_⟩; (conv => whnf); (try (refine ⟨by kernel_rfl, ?_⟩; conv => whnf))
    refine vloop_invK G0ok [(0, some 0), (1, some 1), (2, some 2), (3, some 3), (4, some 7), (5, some 9)] 6 (X := Nat)
      (fun j => [(103, nI .i64 j), (102, nI .i64 4), (101, .ds false 4 (rows (sgC S) [0, 1, 2, 3])), (23, .v (.bool (metB k ep j))), (22, nI .i64 F), (20, .ptr 5 0), (17, .ptr 4 0), (15, nI .i64 E), (13, nI .i64 (((3 : Nat)) : Int)), (12, .ds false 4 (rows (sgC S) [0, 1, 2, 3])), (10, .ptr 3 0), (9, .ptr 2 0), (6, .ptr 1 0), (5, .ptr 0 0)])
      (fun j => [(0, some [nI .i64 x.k, nI .i64 x.a, nI .i64 x.b, .v (.string x.s)]), (1, some [nI .i64 y.k, nI .i64 y.a, nI .i64 y.b, .v (.string y.s)]), (2, some (uC C.P ++ (uC C.A ++ (uC C.B ++ (uC C.N ++ (uC C.X ++ (uC C.Y ++ [bI false]))))))), (3, some [nI .i64 0, .ds false 4 (rows (membK k) (List.range 4)), nI .i64 0]), (4, some (uC a)), (5, some (uC b))])
      (fun j => j ≤ 4) (fun j => 4 - j) 0 rfl ⟨⟨_, rfl, conv_nI (rfl)⟩, ⟨_, rfl, conv_nI (rfl)⟩, ⟨_, rfl, conv_eq rfl (nSs)⟩, ⟨_, rfl, .same rfl⟩, ⟨_, rfl, conv_nI (rfl)⟩, ⟨_, rfl, .ptr rfl⟩, ⟨_, rfl, .ptr rfl⟩, ⟨_, rfl, conv_nI (rfl)⟩, ⟨_, rfl, conv_nI (rfl)⟩, ⟨_, rfl, conv_eq rfl (nSs)⟩, ⟨_, rfl, .ptr rfl⟩, ⟨_, rfl, .ptr rfl⟩, ⟨_, rfl, .ptr rfl⟩, ⟨_, rfl, .ptr rfl⟩, trivial⟩ ⟨.inr ⟨_, _, rfl, rfl, .same rfl⟩, .inr ⟨_, _, rfl, rfl, .same rfl⟩, .inr ⟨_, _, rfl, rfl, .same rfl⟩, .inr ⟨_, _, rfl, rfl, convs_eq rfl (by simp only [noHs, noH, nI, nKs, Bool.and_self])⟩, .inr ⟨_, _, rfl, rfl, convs_eq rfl (words_noHs _)⟩, .inr ⟨_, _, rfl, rfl, convs_eq rfl (words_noHs _)⟩, trivial⟩ (Nat.zero_le _) ?_
    intro j hj
    dsimp only at hj ⊢
    refine wpv_ok Γok (by kernel_rfl) _ _ _ ?_; conv => whnf
    refine bool_cases (fun hc => ?_) (fun hc => ?_)
    · have hc := of_decide_eq_true hc
      have ryj := ry j
      have kyj := ky j
      have ekj := ek j
      have ms := metB_succ k ep j
      unfold okB at ms
      have hjj : ([0, 1, 2, 3] : List Nat)[j]'(by show j < 4; omega) = j := by
        have : j = 0 ∨ j = 1 ∨ j = 2 ∨ j = 3 := by omega
        rcases this with rfl | rfl | rfl | rfl <;> rfl
      conv => whnf
      try (refine ⟨by kernel_rfl, ?_⟩; conv => whnf)
      refine bindP_intro (if_pos (inB_ok (by omega) (by omega))) ?_; conv => whnf
      refine bindP_intro (row_load (i := j) (w := 10) rfl rfl rfl (fun a _ => sgC_len S a) (by dsimp only; omega) (by show j < 4; omega)) ?_
      rw [hjj]
      unfold sgC SgD.cells
      conv => whnf
      try (refine ⟨by kernel_rfl, ?_⟩; conv => whnf)
      refine ⟨_, ret_of_fn G0ok (sy) (by first | rfl | simp only [noHs, noH, nI, bI, Bool.and_self, Bool.and_true, Bool.true_and, bts_noHs]) (by first | rfl | simp only [noHs, noH, nI, bI, Bool.and_self, Bool.and_true, Bool.true_and, bts_noHs]), ?_⟩; (conv => whnf); (try (refine ⟨by kernel_rfl, ?_⟩; conv => whnf))
      unfold SgD.v SgD.cells PtD.v PtD.cells at ryj
      refine ⟨_, ret_of_fn G0ok (ryj) (by first | rfl | simp only [noHs, noH, nI, bI, Bool.and_self, Bool.and_true, Bool.true_and, noHs_append, words_noHs, bts_noHs, uC, uV, noHs, noH]) (by first | rfl | simp only [noHs, noH, nI, bI, Bool.and_self, Bool.and_true, Bool.true_and, noHs_append, words_noHs, bts_noHs, uC, uV, noHs, noH]), ?_⟩; (conv => whnf); (try (refine ⟨by kernel_rfl, ?_⟩; conv => whnf))
      rcases Bool.eq_false_or_eq_true (metB k ep j) with hm | hm
      · rw [hm] at ms ⊢
        conv => whnf
        try (refine ⟨by kernel_rfl, ?_⟩; conv => whnf)
        rw [show (((ep j).1 : Int) == 0) = decide ((ep j).1 = 0) from beq_lit _ 0]
        by_cases he : (ep j).1 = 0
        · rw [decide_eq_true he] at ms ⊢
          conv => whnf
          try (refine ⟨by kernel_rfl, ?_⟩; conv => whnf)
          unfold PtD.v PtD.cells at kyj
          refine ⟨_, ret_of_fn G0ok (kyj) (by first | rfl | simp only [noHs, noH, nI, bI, Bool.and_self, Bool.and_true, Bool.true_and, bts_noHs]) (by first | rfl | simp only [noHs, noH, nI, bI, Bool.and_self, Bool.and_true, Bool.true_and, bts_noHs]), ?_⟩; (conv => whnf); (try (refine ⟨by kernel_rfl, ?_⟩; conv => whnf))
          refine bindP_intro (if_pos (inB_ok (by omega) (by omega))) ?_; conv => whnf
          refine bindP_intro (row_load (i := j) (w := 20) rfl rfl rfl (fun a _ => by unfold membK; rw [bts_length, lkq]) (by dsimp only; omega) (by rw [List.length_range]; omega)) ?_
          rw [List.getElem_range]
          conv => whnf
          try (refine ⟨by kernel_rfl, ?_⟩; conv => whnf)
          refine ⟨_, ekj, ?_⟩
          by_cases hk : keyB (ep j).2 = keyB (gk k (secM k j))
          · rw [decide_eq_true hk] at ms ⊢
            conv => whnf
            try (refine ⟨by kernel_rfl, ?_⟩; conv => whnf)
            refine next_round (y := j) G0ok (j + 1) [(0, some 0), (1, some 1), (2, some 2), (3, some 3), (4, some 4), (5, some 5)] rfl ⟨⟨_, rfl, conv_nI (ws_i64 (by omega) (by omega))⟩, ⟨_, rfl, conv_nI (rfl)⟩, ⟨_, rfl, conv_eq rfl (nSs)⟩, ⟨_, rfl, conv_eq (by rw [ms]; try rfl) rfl⟩, ⟨_, rfl, conv_nI (rfl)⟩, ⟨_, rfl, .ptr rfl⟩, ⟨_, rfl, .ptr rfl⟩, ⟨_, rfl, conv_nI (rfl)⟩, ⟨_, rfl, conv_nI (rfl)⟩, ⟨_, rfl, conv_eq rfl (nSs)⟩, ⟨_, rfl, .ptr rfl⟩, ⟨_, rfl, .ptr rfl⟩, ⟨_, rfl, .ptr rfl⟩, ⟨_, rfl, .ptr rfl⟩, trivial⟩ ⟨.inr ⟨_, _, rfl, rfl, .same rfl⟩, .inr ⟨_, _, rfl, rfl, .same rfl⟩, .inr ⟨_, _, rfl, rfl, .same rfl⟩, .inr ⟨_, _, rfl, rfl, convs_eq rfl (by simp only [noHs, noH, nI, nKs, Bool.and_self])⟩, .inr ⟨_, _, rfl, rfl, convs_eq rfl (words_noHs _)⟩, .inr ⟨_, _, rfl, rfl, convs_eq rfl (words_noHs _)⟩, trivial⟩ (by omega) (by omega)
          · rw [decide_eq_false hk] at ms ⊢
            conv => whnf
            try (refine ⟨by kernel_rfl, ?_⟩; conv => whnf)
            refine next_round (y := j) G0ok (j + 1) [(0, some 0), (1, some 1), (2, some 2), (3, some 3), (4, some 4), (5, some 5)] rfl ⟨⟨_, rfl, conv_nI (ws_i64 (by omega) (by omega))⟩, ⟨_, rfl, conv_nI (rfl)⟩, ⟨_, rfl, conv_eq rfl (nSs)⟩, ⟨_, rfl, conv_eq (by rw [ms]; try rfl) rfl⟩, ⟨_, rfl, conv_nI (rfl)⟩, ⟨_, rfl, .ptr rfl⟩, ⟨_, rfl, .ptr rfl⟩, ⟨_, rfl, conv_nI (rfl)⟩, ⟨_, rfl, conv_nI (rfl)⟩, ⟨_, rfl, conv_eq rfl (nSs)⟩, ⟨_, rfl, .ptr rfl⟩, ⟨_, rfl, .ptr rfl⟩, ⟨_, rfl, .ptr rfl⟩, ⟨_, rfl, .ptr rfl⟩, trivial⟩ ⟨.inr ⟨_, _, rfl, rfl, .same rfl⟩, .inr ⟨_, _, rfl, rfl, .same rfl⟩, .inr ⟨_, _, rfl, rfl, .same rfl⟩, .inr ⟨_, _, rfl, rfl, convs_eq rfl (by simp only [noHs, noH, nI, nKs, Bool.and_self])⟩, .inr ⟨_, _, rfl, rfl, convs_eq rfl (words_noHs _)⟩, .inr ⟨_, _, rfl, rfl, convs_eq rfl (words_noHs _)⟩, trivial⟩ (by omega) (by omega)
        · rw [decide_eq_false he] at ms ⊢
          conv => whnf
          try (refine ⟨by kernel_rfl, ?_⟩; conv => whnf)
          refine next_round (y := j) G0ok (j + 1) [(0, some 0), (1, some 1), (2, some 2), (3, some 3), (4, some 4), (5, some 5)] rfl ⟨⟨_, rfl, conv_nI (ws_i64 (by omega) (by omega))⟩, ⟨_, rfl, conv_nI (rfl)⟩, ⟨_, rfl, conv_eq rfl (nSs)⟩, ⟨_, rfl, conv_eq (by rw [ms]; try rfl) rfl⟩, ⟨_, rfl, conv_nI (rfl)⟩, ⟨_, rfl, .ptr rfl⟩, ⟨_, rfl, .ptr rfl⟩, ⟨_, rfl, conv_nI (rfl)⟩, ⟨_, rfl, conv_nI (rfl)⟩, ⟨_, rfl, conv_eq rfl (nSs)⟩, ⟨_, rfl, .ptr rfl⟩, ⟨_, rfl, .ptr rfl⟩, ⟨_, rfl, .ptr rfl⟩, ⟨_, rfl, .ptr rfl⟩, trivial⟩ ⟨.inr ⟨_, _, rfl, rfl, .same rfl⟩, .inr ⟨_, _, rfl, rfl, .same rfl⟩, .inr ⟨_, _, rfl, rfl, .same rfl⟩, .inr ⟨_, _, rfl, rfl, convs_eq rfl (by simp only [noHs, noH, nI, nKs, Bool.and_self])⟩, .inr ⟨_, _, rfl, rfl, convs_eq rfl (words_noHs _)⟩, .inr ⟨_, _, rfl, rfl, convs_eq rfl (words_noHs _)⟩, trivial⟩ (by omega) (by omega)
      · rw [hm] at ms ⊢
        rw [Bool.false_and] at ms
        conv => whnf
        try (refine ⟨by kernel_rfl, ?_⟩; conv => whnf)
        refine next_round (y := j) G0ok (j + 1) [(0, some 0), (1, some 1), (2, some 2), (3, some 3), (4, some 4), (5, some 5)] rfl ⟨⟨_, rfl, conv_nI (ws_i64 (by omega) (by omega))⟩, ⟨_, rfl, conv_nI (rfl)⟩, ⟨_, rfl, conv_eq rfl (nSs)⟩, ⟨_, rfl, conv_eq (by rw [ms]; try rfl) rfl⟩, ⟨_, rfl, conv_nI (rfl)⟩, ⟨_, rfl, .ptr rfl⟩, ⟨_, rfl, .ptr rfl⟩, ⟨_, rfl, conv_nI (rfl)⟩, ⟨_, rfl, conv_nI (rfl)⟩, ⟨_, rfl, conv_eq rfl (nSs)⟩, ⟨_, rfl, .ptr rfl⟩, ⟨_, rfl, .ptr rfl⟩, ⟨_, rfl, .ptr rfl⟩, ⟨_, rfl, .ptr rfl⟩, trivial⟩ ⟨.inr ⟨_, _, rfl, rfl, .same rfl⟩, .inr ⟨_, _, rfl, rfl, .same rfl⟩, .inr ⟨_, _, rfl, rfl, .same rfl⟩, .inr ⟨_, _, rfl, rfl, convs_eq rfl (by simp only [noHs, noH, nI, nKs, Bool.and_self])⟩, .inr ⟨_, _, rfl, rfl, convs_eq rfl (words_noHs _)⟩, .inr ⟨_, _, rfl, rfl, convs_eq rfl (words_noHs _)⟩, trivial⟩ (by omega) (by omega)
    · have hc := of_decide_eq_false hc
      have e4 : j = 4 := by omega
      subst e4
      rw [m4]
      conv => whnf
      try (refine ⟨by kernel_rfl, ?_⟩; conv => whnf)
      refine ⟨_, ret_of_fn G0ok (sx) (by first | rfl | simp only [noHs, noH, nI, bI, Bool.and_self, Bool.and_true, Bool.true_and, bts_noHs]) (by first | rfl | simp only [noHs, noH, nI, bI, Bool.and_self, Bool.and_true, Bool.true_and, bts_noHs]), ?_⟩; (conv => whnf); (try (refine ⟨by kernel_rfl, ?_⟩; conv => whnf))
      refine ⟨_, ret_of_fn G0ok (c1) (by first | rfl | simp only [noHs, noH, nI, bI, Bool.and_self, Bool.and_true, Bool.true_and, nKs, nDs, bts_noHs, nSs, noHs_append, words_noHs, uC]) (by first | rfl | simp only [noHs, noH, nI, bI, Bool.and_self, Bool.and_true, Bool.true_and, nKs, nDs, bts_noHs, nSs, noHs_append, words_noHs, uC]), ?_⟩; (conv => whnf); (try (refine ⟨by kernel_rfl, ?_⟩; conv => whnf))
      rcases h2 with rfl | ⟨rfl, hk⟩
      · conv => whnf
        try (refine ⟨by kernel_rfl, ?_⟩; conv => whnf)
        rw [show ((F : Int) == 0) = decide (F = 0) from beq_lit F 0]
        by_cases hF : F = 0
        · rw [decide_eq_true hF]
          conv => whnf
          try (refine ⟨by kernel_rfl, ?_⟩; conv => whnf)
          refine ⟨_, ne, ?_⟩
          by_cases hab : a = b
          · rw [decide_eq_true hab]
            conv => whnf
            try (refine ⟨by kernel_rfl, ?_⟩; conv => whnf)
            rw [show ((F : Int) == 0) = decide (F = 0) from beq_lit F 0, decide_eq_true hF]
            exact ⟨_, rfl, rfl⟩
          · rw [decide_eq_false hab]
            conv => whnf
            try (refine ⟨by kernel_rfl, ?_⟩; conv => whnf)
            exact ⟨_, rfl, rfl⟩
        · rw [decide_eq_false hF]
          conv => whnf
          try (refine ⟨by kernel_rfl, ?_⟩; conv => whnf)
          refine ⟨_, ne, ?_⟩
          rw [decide_eq_false fun hab => hF (a3 hab)]
          conv => whnf
          try (refine ⟨by kernel_rfl, ?_⟩; conv => whnf)
          exact ⟨_, rfl, rfl⟩
      · conv => whnf
        try (refine ⟨by kernel_rfl, ?_⟩; conv => whnf)
        refine bindP_intro (row_load (i := 3) (w := 20) rfl rfl rfl (fun a _ => by unfold membK; rw [bts_length, lkq]) (by rfl) (by decide)) ?_
        rw [List.getElem_range]
        conv => whnf
        try (refine ⟨by kernel_rfl, ?_⟩; conv => whnf)
        rw [ws_i64 (x := ((3 : Nat) : Int) + 1) (by decide) (by decide)]
        conv => whnf
        try (refine ⟨by kernel_rfl, ?_⟩; conv => whnf)
        refine bindP_intro (row_load (i := (3 + 1) % 4) (w := 20) rfl rfl rfl (fun a _ => by unfold membK; rw [bts_length, lkq]) (by rfl) (by decide)) ?_
        rw [List.getElem_range]
        conv => whnf
        try (refine ⟨by kernel_rfl, ?_⟩; conv => whnf)
        refine ⟨_, ek2, ?_⟩
        rw [decide_eq_true hk]
        conv => whnf
        try (refine ⟨by kernel_rfl, ?_⟩; conv => whnf)
        rw [show ((F : Int) == 0) = decide (F = 0) from beq_lit F 0]
        by_cases hF : F = 0
        · rw [decide_eq_true hF]
          conv => whnf
          try (refine ⟨by kernel_rfl, ?_⟩; conv => whnf)
          refine ⟨_, ne, ?_⟩
          by_cases hab : a = b
          · rw [decide_eq_true hab]
            conv => whnf
            try (refine ⟨by kernel_rfl, ?_⟩; conv => whnf)
            rw [show ((F : Int) == 0) = decide (F = 0) from beq_lit F 0, decide_eq_true hF]
            exact ⟨_, rfl, rfl⟩
          · rw [decide_eq_false hab]
            conv => whnf
            try (refine ⟨by kernel_rfl, ?_⟩; conv => whnf)
            exact ⟨_, rfl, rfl⟩
        · rw [decide_eq_false hF]
          conv => whnf
          try (refine ⟨by kernel_rfl, ?_⟩; conv => whnf)
          refine ⟨_, ne, ?_⟩
          rw [decide_eq_false fun hab => hF (a3 hab)]
          conv => whnf
          try (refine ⟨by kernel_rfl, ?_⟩; conv => whnf)
          exact ⟨_, rfl, rfl⟩
namespace lawQuorumOther
set_option linter.unusedVariables false
set_option maxRecDepth 100000 in
theorem lifted (os : Os) (started : os.Started) (H : Type) (enc : TypeId × Value → H) :
    ReturnsInHanded {} Tryd.checked os 12 .any (fun w args => (Rows.quorumOtherSpec.pre enc Tryd.prog Tryd.f12 [] false w args ∧ laidMetH Tryd.prog laidL w) ∧ sizedMet enc Tryd.prog Tryd.f12 (OpenSpec.ofChange Rows.quorumOtherSpec) false w args)
      (Rows.quorumOtherSpec.post enc Tryd.prog Tryd.f12 false true false false) := by
  refine returnsInHanded_of_change_and (C := Tryd.checked) (X := fun w _ => laidMetH Tryd.prog laidL w) (fun _ _ _ hh h => h.of_heap hh) rowOwn started (by kernel_rfl) Tryd.func12
    (ChangeSpec.witness_shaped (enc := enc) (C := Tryd.checked) (os := os) (X := fun w _ => laidMetH Tryd.prog laidL w) false (World.doorLaid Tryd.prog 400 os) #[.int .i64 0, .agg #[.int .i64 0, .int .i64 0, .int .i64 0, .string ByteArray.empty], .agg #[.int .i64 0, .int .i64 0, .int .i64 0, .string ByteArray.empty], .int .i64 0] 8 rfl (World.shaped_of_RefB (by kernel_rfl) (by kernel_rfl)) (by kernel_rfl) (by kernel_rfl) (by kernel_rfl) (door_met os _)) ?_
  intro W base args ds gs before hval0 hW _ _ hL _
  have hval : ∀ (j : Nat) t v, Tryd.f12.params[j]? = some t → args[j]? = some v → Value.okWide Tryd.prog W .any base t v := hval0
  have hW' := hW
  obtain ⟨p, q, hA0, hV, rfl, hfz, hnd⟩ := hW
  have hA : DataW.TrodAll enc Tryd.prog W 0 (fun _ => true) true Tryd.f12.params.toList args.toList ds p := hA0
  rw [Tryd.params12] at hA hval
  obtain ⟨v0, vs0, d0, ds0, p0, q0, hargs, rfl, rfl, h0, r0⟩ := trodAll_cons hA
  obtain ⟨v1, vs1, d1, ds1, p1, q1, rfl, rfl, rfl, h1, r1⟩ := trodAll_cons r0
  obtain ⟨v2, vs2, d2, ds2, p2, q2, rfl, rfl, rfl, h2, r2⟩ := trodAll_cons r1
  obtain ⟨v3, vs3, d3, ds3, p3, q3, rfl, rfl, rfl, h3, r3⟩ := trodAll_cons r2
  obtain ⟨rfl, rfl, rfl⟩ := trodAll_nil r3
  obtain rfl : args = #[v0, v1, v2, v3] := by cases args; simp_all
  obtain ⟨rfl, rfl⟩ := trodVars_none hV
  obtain ⟨a0, rfl, rfl, rfl, w0⟩ := open_int Tryd.underlying3 (hval 0 3 v0 rfl rfl) h0
  have k1 := h1
  have lt1 : ∀ x ∈ p1, x.block < W.heap.size := by obtain ⟨m, hm⟩ := k1; exact DataW.trod_lt m _ _ _ hm
  obtain ⟨a1, w1, u1⟩ := raw_open (hval 1 45 v1 rfl rfl) h1
  have k2 := h2
  have lt2 : ∀ x ∈ p2, x.block < W.heap.size := by obtain ⟨m, hm⟩ := k2; exact DataW.trod_lt m _ _ _ hm
  obtain ⟨a2, w2, u2⟩ := raw_open (hval 2 45 v2 rfl rfl) h2
  obtain ⟨a3, rfl, rfl, rfl, w3⟩ := open_int Tryd.underlying3 (hval 3 3 v3 rfl rfl) h3
  clear hA0 hval0
  refine (calls_of_fn Tryd.func12 (by kernel_rfl) rfl (fnQuorumOther a0 a1 a2 a3 (bounds_i64 w0) w1 w2 (bounds_i64 w3)) (hG_laid hL) (VRs.cons rfl (VRs.cons (u1 _) (VRs.cons (u2 _) (VRs.cons rfl VRs.snoc_nil))))).mono fun e W' ⟨he, bel⟩ => ?_
  subst he
  exact ⟨_, rfl, _, _, _, [], _, [], hW', trodAll_mk1 (shut_bool Tryd.underlying4 _), (trodAll_cons_mk (shut_int Tryd.underlying3 w0) (trodAll_cons_mk (Below.trod rowLaid (by kernel_rfl) (of_decide_eq_true (by kernel_rfl)) k1 bel lt1) (trodAll_cons_mk (Below.trod rowLaid (by kernel_rfl) (of_decide_eq_true (by kernel_rfl)) k2 bel lt2) (trodAll_cons_mk (shut_int Tryd.underlying3 w3) trodAll_mk0)))), rfl, bel.frame _, fun h => by cases h⟩
theorem over : Rows.quorumOtherRow.holds Tryd.pinned (OpenSpec.ofChange Rows.quorumOtherSpec) :=
  OpenClaim.holds_of_wide 12 Tryd.f12 rfl rfl rfl rfl rfl rfl rfl ⟨rfl, rfl, rfl, rfl, rfl⟩ rfl rfl rfl rfl rfl (by kernel_rfl) Tryd.func12 (by kernel_rfl)
    (of_decide_eq_true (by kernel_rfl)) (by unfold Func.isWrapper; first | (rw [if_pos (by decide +kernel)]; kernel_rfl) | (rw [if_neg (by decide +kernel)]; exact ⟨rfl, rfl⟩))
    (fun os started H enc _ => lifted os started H enc)
theorem proved : Rows.QuorumOtherCardSaid :=
  Claim7.holds_tied_plain_at .later [] [.data, .data] true _ _
    over (fun _ h => by cases h) (by kernel_rfl) (fun _ h => by cases h) quorumOther_row_tie rfl ⟨rfl, rfl⟩ (by kernel_rfl) rfl
    (fun f fn hf hfn => by
      obtain rfl : f = 12 := Option.some.inj ((show Tryd.prog.funcNamed "bascule/basculekeep.QuorumOther" = some 12 by kernel_rfl).symm.trans hf) |>.symm
      obtain rfl : fn = Tryd.f12 := (Option.some.inj (Tryd.func12.symm.trans hfn)).symm
      exact ⟨by kernel_rfl, fun j t ht => by
        rw [Tryd.params12] at ht
        have hm : t ∈ [3, 45, 45, 3] := by simpa using Array.mem_of_getElem? ht
        have hall : ([3, 45, 45, 3].all fun u => !Tryd.prog.wantsStandIn u) = true := by kernel_rfl
        exact (show Tryd.prog.wantsStandIn t = false by simpa using List.all_eq_true.1 hall t hm)⟩)
    (by kernel_rfl)
end lawQuorumOther

end Go.Proofs.YtidkdlaihmpjfaaDoor
