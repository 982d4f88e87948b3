/- KeccakParts: it does not matter how bytes are cut. -/
import Derived.Test.YtidkdlaihmpjfaaDoorVKecE
import Derived.Test.YtidkdlaihmpjfaaDoorVGlob
import Derived.Test.YtidkdlaihmpjfaaDoorVBytesIn
import Derived.Test.YtidkdlaihmpjfaaDoorPicked
import Derived.Test.YtidkdlaihmpjfaaDoorCards
import Derived.Test.YtidkdlaihmpjfaaDoorTie
import Derived.SevenTiedAt
import Derived.OpenShut
namespace Go.Proofs.YtidkdlaihmpjfaaDoor
set_option linter.unusedVariables false
set_option linter.unusedSimpArgs false
set_option linter.unusedSectionVars false
open Go.ChangeShapes Go.WideShapes Go.ChangeAt Go.RowKit Go.Joins
set_option maxRecDepth 10000
theorem spAdd_app (s : SpD) (l m : List Nat) : spAdd s (l ++ m) = spAdd (spAdd s l) m := by unfold spAdd; rw [List.foldl_append]
theorem spAdd_n {s : SpD} (h : SpOk s) : ∀ (l : List Nat), (∀ x ∈ l, x < 256) → (spAdd s l).n = (s.n + l.length) % 136 := by
  intro l
  induction l generalizing s with
  | nil => intro _; exact (Nat.mod_eq_of_lt h.n).symm
  | cons c l ih =>
    intro hl
    have h2 := spStep_ok h (hl c (by simp))
    show (spAdd (spStep s c) l).n = _
    rw [ih h2 (fun x hx => hl x (by simp [hx]))]
    have h3 := h.n
    unfold spStep
    split
    · rename_i e
      show (0 + l.length) % 136 = _
      rw [List.length_cons, show s.n + (l.length + 1) = l.length + 136 by omega, Nat.add_mod_right, Nat.zero_add]
    · show (s.n + 1 + l.length) % 136 = _
      rw [List.length_cons, show s.n + (l.length + 1) = s.n + 1 + l.length by omega]
theorem ktells_fn : FnV Tryd.prog G0 19 [] (bI true) := by
  have s1 := sum_fn (l := [97, 98, 99]) (by decide) (by decide) false
  have lK : (bts (kSum [97, 98, 99])).length = 32 := by unfold kSum spEnd; rw [hid_eq, bts_length, outB_len]
  have h0 : (bts (kSum [97, 98, 99]))[0]? = some (nI .u8 78) := by
    have h := known_abc
    have h1 : ((kSum [97, 98, 99]).take 8)[0]? = some 78 := by rw [h]; rfl
    rw [List.getElem?_take_of_lt (by decide)] at h1
    unfold bts
    rw [List.getElem?_map, h1]
    rfl
  refine fn_of_vwp Γok Tryd.func19 (by kernel_rfl) rfl (by simp [Tryd.ntmps19]) (wpv_ok Γok (by kernel_rfl) _ _ _ ?_); conv => whnf
  refine .ownAs 3 (bts [97, 98, 99]) (by rfl) (by rfl) ?_
  conv => whnf
  try (refine ⟨by kernel_rfl, ?_⟩; conv => whnf)
  refine ⟨_, ret_give [0] G0ok (s1) (by rfl) (by first | rfl | simp only [noHs, noH, nI, bI, Bool.and_self, Bool.and_true, Bool.true_and, bts_noHs]), ?_⟩; (conv => whnf); (try (refine ⟨by kernel_rfl, ?_⟩; conv => whnf))
  refine onlyIf_intro (by rw [lK]; rfl) ?_
  conv => whnf
  try (refine ⟨by kernel_rfl, ?_⟩; conv => whnf)
  refine bindP_intro h0 ?_
  conv => whnf
  try (refine ⟨by kernel_rfl, ?_⟩; conv => whnf)
  exact ⟨_, rfl, rfl⟩
theorem kparts_fn (f : Bool) (b : List Nat) (cut more : Int) (hb : ∀ x ∈ b, x < 256) (hL : b.length ≤ 9223372036854775807) : FnV Tryd.prog G0 4 [.ds f b.length (bts b), nI .i64 cut, nI .i64 more] (bI true) := by
  have e1 : (if ((400 : Int)) < (b.length : Int) then (400 : Int) else (b.length : Int)) = ((min b.length 400 : Nat) : Int) := by split <;> omega
  refine fn_of_vwp Γok Tryd.func4 (by kernel_rfl) rfl (by simp [Tryd.ntmps4]) (wpv_ok Γok (by kernel_rfl) _ _ _ ?_); conv => whnf
  rw [e1]
  refine bindP_intro (vpure_slice (vslice_map (g := fun (x : Nat) => nI .u8 x) rfl rfl (by rfl) (by rfl) vb_nat (Nat.zero_le _) (Nat.min_le_left _ _))) ?_
  conv => whnf
  try (refine ⟨by kernel_rfl, ?_⟩; conv => whnf)
  have hB : (List.take (min b.length 400 - 0) (List.drop 0 b)).length ≤ 400 := by rw [List.length_take]; omega
  have hB8 : ∀ x ∈ List.take (min b.length 400 - 0) (List.drop 0 b), x < 256 := fun x hx => hb x (by rw [List.drop_zero] at hx; exact List.mem_of_mem_take hx)
  refine gen_ex (List.take (min b.length 400 - 0) (List.drop 0 b)) fun B eB => ?_
  refine gen_ex (f && decide (min b.length 400 = b.length)) fun F eF => ?_
  rw [← eB] at hB hB8 ⊢
  rw [← eF]
  clear eB eF e1
  have p1 := picked_fn cut ((B.length : Int) + 1) (by omega) (by omega)
  obtain ⟨i, hi, li⟩ : ∃ i : Nat, cut % ((B.length : Int) + 1) = (i : Int) ∧ i ≤ B.length := ⟨(cut % ((B.length : Int) + 1)).toNat, by have := Int.emod_nonneg cut (show (B.length : Int) + 1 ≠ 0 by omega); omega, by have := Int.emod_nonneg cut (show (B.length : Int) + 1 ≠ 0 by omega); have := Int.emod_lt_of_pos cut (show 0 < (B.length : Int) + 1 by omega); omega⟩
  have p2 := picked_fn more ((B.length : Int) - i + 1) (by omega) (by omega)
  obtain ⟨k, hk, lk⟩ : ∃ k : Nat, more % ((B.length : Int) - i + 1) = (k : Int) ∧ i + k ≤ B.length := ⟨(more % ((B.length : Int) - i + 1)).toNat, by have := Int.emod_nonneg more (show (B.length : Int) - i + 1 ≠ 0 by omega); omega, by have := Int.emod_nonneg more (show (B.length : Int) - i + 1 ≠ 0 by omega); have := Int.emod_lt_of_pos more (show 0 < (B.length : Int) - i + 1 by omega); omega⟩
  rw [hi] at p1
  rw [hk] at p2
  clear hi hk
  rw [ws_i64 (x := (B.length : Int) + 1) (by omega) (by omega)]
  conv => whnf
  try (refine ⟨by kernel_rfl, ?_⟩; conv => whnf)
  refine ⟨_, ret_of_fn G0ok (p1) (by first | rfl | simp only [noHs, noH, nI, bI, Bool.and_self, Bool.and_true, Bool.true_and, bts_noHs]) (by first | rfl | simp only [noHs, noH, nI, bI, Bool.and_self, Bool.and_true, Bool.true_and, bts_noHs]), ?_⟩; (conv => whnf); (try (refine ⟨by kernel_rfl, ?_⟩; conv => whnf))
  rw [ws_i64 (x := (B.length : Int) - (i : Int)) (by omega) (by omega), ws_i64 (x := (B.length : Int) - (i : Int) + 1) (by omega) (by omega)]
  conv => whnf
  try (refine ⟨by kernel_rfl, ?_⟩; conv => whnf)
  refine ⟨_, ret_of_fn G0ok (p2) (by first | rfl | simp only [noHs, noH, nI, bI, Bool.and_self, Bool.and_true, Bool.true_and, bts_noHs]) (by first | rfl | simp only [noHs, noH, nI, bI, Bool.and_self, Bool.and_true, Bool.true_and, bts_noHs]), ?_⟩; (conv => whnf); (try (refine ⟨by kernel_rfl, ?_⟩; conv => whnf))
  rw [ws_i64 (x := (i : Int) + (k : Int)) (by omega) (by omega), show (i : Int) + (k : Int) = ((i + k : Nat) : Int) from by omega]
  conv => whnf
  try (refine ⟨by kernel_rfl, ?_⟩; conv => whnf)
  refine ⟨_, ret_of_fn G0ok (begin_fn) (by first | rfl | simp only [noHs, noH, nI, bI, Bool.and_self, Bool.and_true, Bool.true_and, ]) (by first | rfl | simp only [noHs, noH, nI, bI, Bool.and_self, Bool.and_true, Bool.true_and, ]), ?_⟩; (conv => whnf); (try (refine ⟨by kernel_rfl, ?_⟩; conv => whnf))
  refine bindP_intro (vpure_slice (vslice_map (g := fun (x : Nat) => nI .u8 x) rfl rfl (by rfl) (by rfl) vb_nat (Nat.zero_le _) li)) ?_
  conv => whnf
  try (refine ⟨by kernel_rfl, ?_⟩; conv => whnf)
  refine bindP_intro (vpure_slice (vslice_map (g := fun (x : Nat) => nI .u8 x) rfl rfl (by rfl) vb_nat vb_nat (Nat.le_add_right _ _) lk)) ?_
  conv => whnf
  try (refine ⟨by kernel_rfl, ?_⟩; conv => whnf)
  refine bindP_intro (vpure_slice (vslice_map (g := fun (x : Nat) => nI .u8 x) rfl rfl (by rfl) vb_nat (by rfl) lk (Nat.le_refl _))) ?_
  conv => whnf
  try (refine ⟨by kernel_rfl, ?_⟩; conv => whnf)
  have hcat : (List.take (i - 0) (List.drop 0 B) ++ List.take (i + k - i) (List.drop i B)) ++ List.take (B.length - (i + k)) (List.drop (i + k) B) = B := by
    rw [Nat.sub_zero, List.drop_zero, Nat.add_sub_cancel_left, ← List.take_add, List.take_of_length_le (l := List.drop (i + k) B) (by rw [List.length_drop]; omega), List.take_append_drop]
  have q1 : ∀ x ∈ List.take (i - 0) (List.drop 0 B), x < 256 := fun x hx => hB8 x (List.mem_of_mem_drop (List.mem_of_mem_take hx))
  have q2 : ∀ x ∈ List.take (i + k - i) (List.drop i B), x < 256 := fun x hx => hB8 x (List.mem_of_mem_drop (List.mem_of_mem_take hx))
  have q3 : ∀ x ∈ List.take (B.length - (i + k)) (List.drop (i + k) B), x < 256 := fun x hx => hB8 x (List.mem_of_mem_drop (List.mem_of_mem_take hx))
  have r1 : (List.take (i - 0) (List.drop 0 B)).length ≤ 400 := by rw [List.length_take, List.length_drop]; omega
  have r2 : (List.take (i + k - i) (List.drop i B)).length ≤ 400 := by rw [List.length_take, List.length_drop]; omega
  have r3 : (List.take (B.length - (i + k)) (List.drop (i + k) B)).length ≤ 400 := by rw [List.length_take, List.length_drop]; omega
  refine gen_ex (List.take (i - 0) (List.drop 0 B)) fun P1 e1 => ?_
  refine gen_ex (List.take (i + k - i) (List.drop i B)) fun P2 e2 => ?_
  refine gen_ex (List.take (B.length - (i + k)) (List.drop (i + k) B)) fun P3 e3 => ?_
  rw [← e1] at hcat q1 r1 ⊢
  rw [← e2] at hcat q2 r2 ⊢
  rw [← e3] at hcat q3 r3 ⊢
  clear e1 e2 e3
  refine .read 3 [.ds (F && decide (i = B.length)) P1.length (bts P1), .ds (F && decide (i + k = B.length)) P2.length (bts P2), .ds (F && decide (B.length = B.length)) P3.length (bts P3)] (by rfl) (by rfl) (by rfl) (by simp only [noHs, noH, bts_noHs, Bool.and_true]) ?_
  conv => whnf
  try (refine ⟨by kernel_rfl, ?_⟩; conv => whnf)
  have z0 : SpOk ⟨zB 25, zB 136, 0⟩ := ⟨⟨by decide, fun x hx => by rw [List.eq_of_mem_replicate hx]; unfold W64; decide⟩, zB_ok 136, by show 0 < 136; decide, fun i _ _ => zB_get 136 i⟩
  have hsum : spAdd (spAdd (spAdd ⟨zB 25, zB 136, 0⟩ P1) P2) P3 = spAdd ⟨zB 25, zB 136, 0⟩ B := by rw [← spAdd_app, ← spAdd_app, ← List.append_assoc, hcat]
  have kS := sum_fn hB8 (by omega) F
  unfold kSum at kS
  rw [← hsum] at kS
  clear hsum hcat
  have a1 := sadd_fn z0 q1 (by omega) (F && decide (i = B.length))
  have z1 := spAdd_ok z0 P1 q1
  have n1 := spAdd_n z0 P1 q1
  refine gen_ex (spAdd ⟨zB 25, zB 136, 0⟩ P1) fun S1 eS1 => ?_
  rw [← eS1] at a1 z1 n1 kS
  clear eS1
  have a2 := sadd_fn z1 q2 (by omega) (F && decide (i + k = B.length))
  have z2 := spAdd_ok z1 P2 q2
  have n2 := spAdd_n z1 P2 q2
  refine gen_ex (spAdd S1 P2) fun S2 eS2 => ?_
  rw [← eS2] at a2 z2 n2 kS
  clear eS2
  have a3 := sadd_fn z2 q3 (by omega) (F && decide (B.length = B.length))
  have z3 := spAdd_ok z2 P3 q3
  have n3 := spAdd_n z2 P3 q3
  refine gen_ex (spAdd S2 P3) fun S3 eS3 => ?_
  rw [← eS3] at a3 z3 n3 kS
  clear eS3
  have en := send_fn z3
  unfold SpD.v SpD.cells at a1 a2 a3 en
  dsimp only at a1 n1
  have h0 := SpD.noHs ⟨zB 25, zB 136, 0⟩
  have h1 := SpD.noHs S1
  have h2 := SpD.noHs S2
  have h3 := SpD.noHs S3
  have l1 := S1.len z1
  have l2 := S2.len z2
  have l3 := S3.len z3
  unfold SpD.cells at h0 h1 h2 h3 l1 l2 l3
  dsimp only at h0
  have hP : noHs [.ds (F && decide (i = B.length)) P1.length (bts P1), .ds (F && decide (i + k = B.length)) P2.length (bts P2), .ds (F && decide (B.length = B.length)) P3.length (bts P3)] = true := by simp only [noHs, noH, bts_noHs, Bool.and_true]
  refine vloop_clean G0ok [(0, some 0)] 1 [(48, nI .i64 0), (47, nI .i64 3), (46, .ds false 3 [.ds (F && decide (i = B.length)) P1.length (bts P1), .ds (F && decide (i + k = B.length)) P2.length (bts P2), .ds (F && decide (B.length = B.length)) P3.length (bts P3)]), (9, .ptr 0 0), (6, bI false), (0, .ds F B.length (bts B))] [(0, some (words (zB 25) ++ (bts (zB 136) ++ [nI .i64 ((0 : Nat) : Int)])))] rfl ⟨⟨_, rfl, conv_nI (rfl)⟩, ⟨_, rfl, conv_nI (rfl)⟩, ⟨_, rfl, .same (hP)⟩, ⟨_, rfl, .ptr rfl⟩, ⟨_, rfl, .same rfl⟩, ⟨_, rfl, .same (bts_noHs _)⟩, trivial⟩ ⟨.inr ⟨_, _, rfl, rfl, convs_eq rfl (h0)⟩, trivial⟩ ?_
  refine vloop_unroll ?_
  refine wpv_ok Γok (by kernel_rfl) _ _ _ ?_; conv => whnf
  conv => whnf
  try (refine ⟨by kernel_rfl, ?_⟩; conv => whnf)
  refine ⟨_, ret_of_fn G0ok (a1) (by first | rfl | simp only [noHs, noH, nI, bI, Bool.and_self, Bool.and_true, Bool.true_and, noHs_append, words_noHs, bts_noHs]) (by first | rfl | simp only [noHs, noH, nI, bI, Bool.and_self, Bool.and_true, Bool.true_and, noHs_append, words_noHs, bts_noHs]), ?_⟩; (conv => whnf); (try (refine ⟨by kernel_rfl, ?_⟩; conv => whnf))
  refine onlyIf_intro (by rw [l1]; rfl) ?_
  conv => whnf
  try (refine ⟨by kernel_rfl, ?_⟩; conv => whnf)
  refine bindP_intro (n_ix z1.l.1 z1.h.1 (by rfl)) ?_
  conv => whnf
  try (refine ⟨by kernel_rfl, ?_⟩; conv => whnf)
  have hb1 : ((S1.n : Int) != (wS .i64 (((0 : Nat) : Int) + (P1.length : Int))).tmod 136) = false := by
    have := z0.n
    rw [ws_i64 (by omega) (by omega), Int.tmod_eq_emod_of_nonneg (by omega), bne_eq_false_iff_eq, n1]
    (try dsimp only)
    omega
  refine bool_cases (fun h => absurd (h.symm.trans hb1) Bool.noConfusion) (fun _ => ?_)
  conv => whnf
  try (refine ⟨by kernel_rfl, ?_⟩; conv => whnf)
  refine bindP_intro (load_agg rfl rfl l1) ?_
  conv => whnf
  try (refine ⟨by kernel_rfl, ?_⟩; conv => whnf)
  refine onlyIf_intro (by rw [l1]; rfl) ?_
  conv => whnf
  try (refine ⟨by kernel_rfl, ?_⟩; conv => whnf)
  rw [ws_i64 (by decide) (by decide)]
  conv => whnf
  try (refine ⟨by kernel_rfl, ?_⟩; conv => whnf)
  refine vloop_clean G0ok [(0, some 0)] 1 [(48, nI .i64 1), (47, nI .i64 3), (46, .ds false 3 [.ds (F && decide (i = B.length)) P1.length (bts P1), .ds (F && decide (i + k = B.length)) P2.length (bts P2), .ds (F && decide (B.length = B.length)) P3.length (bts P3)]), (9, .ptr 0 0), (6, bI false), (0, .ds F B.length (bts B))] [(0, some (words S1.l ++ (bts S1.h ++ [nI .i64 (S1.n : Int)])))] rfl ⟨⟨_, rfl, conv_nI (rfl)⟩, ⟨_, rfl, conv_nI (rfl)⟩, ⟨_, rfl, .same (hP)⟩, ⟨_, rfl, .ptr rfl⟩, ⟨_, rfl, .same rfl⟩, ⟨_, rfl, .same (bts_noHs _)⟩, trivial⟩ ⟨.inr ⟨_, _, rfl, rfl, convs_eq rfl (h1)⟩, trivial⟩ ?_
  refine vloop_unroll ?_
  refine wpv_ok Γok (by kernel_rfl) _ _ _ ?_; conv => whnf
  conv => whnf
  try (refine ⟨by kernel_rfl, ?_⟩; conv => whnf)
  refine bindP_intro (load_agg rfl rfl l1) ?_
  conv => whnf
  try (refine ⟨by kernel_rfl, ?_⟩; conv => whnf)
  refine ⟨_, ret_of_fn G0ok (a2) (by first | rfl | simp only [noHs, noH, nI, bI, Bool.and_self, Bool.and_true, Bool.true_and, noHs_append, words_noHs, bts_noHs]) (by first | rfl | simp only [noHs, noH, nI, bI, Bool.and_self, Bool.and_true, Bool.true_and, noHs_append, words_noHs, bts_noHs]), ?_⟩; (conv => whnf); (try (refine ⟨by kernel_rfl, ?_⟩; conv => whnf))
  refine onlyIf_intro (by rw [l2]; rfl) ?_
  conv => whnf
  try (refine ⟨by kernel_rfl, ?_⟩; conv => whnf)
  refine bindP_intro (n_ix z2.l.1 z2.h.1 (by rfl)) ?_
  conv => whnf
  try (refine ⟨by kernel_rfl, ?_⟩; conv => whnf)
  refine bindP_intro (n_ix z1.l.1 z1.h.1 (by rfl)) ?_
  conv => whnf
  try (refine ⟨by kernel_rfl, ?_⟩; conv => whnf)
  have hb2 : ((S2.n : Int) != (wS .i64 ((S1.n : Int) + (P2.length : Int))).tmod 136) = false := by
    have := z1.n
    rw [ws_i64 (by omega) (by omega), Int.tmod_eq_emod_of_nonneg (by omega), bne_eq_false_iff_eq, n2]
    (try dsimp only)
    omega
  refine bool_cases (fun h => absurd (h.symm.trans hb2) Bool.noConfusion) (fun _ => ?_)
  conv => whnf
  try (refine ⟨by kernel_rfl, ?_⟩; conv => whnf)
  refine bindP_intro (load_agg rfl rfl l2) ?_
  conv => whnf
  try (refine ⟨by kernel_rfl, ?_⟩; conv => whnf)
  refine onlyIf_intro (by rw [l2]; exact (congrArg (fun n => Nat.beq 162 162 && Nat.ble (0 + 162) n) l1).trans rfl) ?_
  conv => whnf
  try (refine ⟨by kernel_rfl, ?_⟩; conv => whnf)
  refine condP_t ((congrArg (fun n => Nat.beq 0 0 && Nat.beq 162 n) l1).trans rfl) ?_
  conv => whnf
  try (refine ⟨by kernel_rfl, ?_⟩; conv => whnf)
  rw [ws_i64 (by decide) (by decide)]
  conv => whnf
  try (refine ⟨by kernel_rfl, ?_⟩; conv => whnf)
  refine vloop_clean G0ok [(0, some 0)] 1 [(48, nI .i64 2), (47, nI .i64 3), (46, .ds false 3 [.ds (F && decide (i = B.length)) P1.length (bts P1), .ds (F && decide (i + k = B.length)) P2.length (bts P2), .ds (F && decide (B.length = B.length)) P3.length (bts P3)]), (9, .ptr 0 0), (6, bI false), (0, .ds F B.length (bts B))] [(0, some (words S2.l ++ (bts S2.h ++ [nI .i64 (S2.n : Int)])))] rfl ⟨⟨_, rfl, conv_nI (rfl)⟩, ⟨_, rfl, conv_nI (rfl)⟩, ⟨_, rfl, .same (hP)⟩, ⟨_, rfl, .ptr rfl⟩, ⟨_, rfl, .same rfl⟩, ⟨_, rfl, .same (bts_noHs _)⟩, trivial⟩ ⟨.inr ⟨_, _, rfl, rfl, convs_eq rfl (h2)⟩, trivial⟩ ?_
  refine vloop_unroll ?_
  refine wpv_ok Γok (by kernel_rfl) _ _ _ ?_; conv => whnf
  conv => whnf
  try (refine ⟨by kernel_rfl, ?_⟩; conv => whnf)
  refine bindP_intro (load_agg rfl rfl l2) ?_
  conv => whnf
  try (refine ⟨by kernel_rfl, ?_⟩; conv => whnf)
  refine ⟨_, ret_of_fn G0ok (a3) (by first | rfl | simp only [noHs, noH, nI, bI, Bool.and_self, Bool.and_true, Bool.true_and, noHs_append, words_noHs, bts_noHs]) (by first | rfl | simp only [noHs, noH, nI, bI, Bool.and_self, Bool.and_true, Bool.true_and, noHs_append, words_noHs, bts_noHs]), ?_⟩; (conv => whnf); (try (refine ⟨by kernel_rfl, ?_⟩; conv => whnf))
  refine onlyIf_intro (by rw [l3]; rfl) ?_
  conv => whnf
  try (refine ⟨by kernel_rfl, ?_⟩; conv => whnf)
  refine bindP_intro (n_ix z3.l.1 z3.h.1 (by rfl)) ?_
  conv => whnf
  try (refine ⟨by kernel_rfl, ?_⟩; conv => whnf)
  refine bindP_intro (n_ix z2.l.1 z2.h.1 (by rfl)) ?_
  conv => whnf
  try (refine ⟨by kernel_rfl, ?_⟩; conv => whnf)
  have hb3 : ((S3.n : Int) != (wS .i64 ((S2.n : Int) + (P3.length : Int))).tmod 136) = false := by
    have := z2.n
    rw [ws_i64 (by omega) (by omega), Int.tmod_eq_emod_of_nonneg (by omega), bne_eq_false_iff_eq, n3]
    (try dsimp only)
    omega
  refine bool_cases (fun h => absurd (h.symm.trans hb3) Bool.noConfusion) (fun _ => ?_)
  conv => whnf
  try (refine ⟨by kernel_rfl, ?_⟩; conv => whnf)
  refine bindP_intro (load_agg rfl rfl l3) ?_
  conv => whnf
  try (refine ⟨by kernel_rfl, ?_⟩; conv => whnf)
  refine onlyIf_intro (by rw [l3]; exact (congrArg (fun n => Nat.beq 162 162 && Nat.ble (0 + 162) n) l2).trans rfl) ?_
  conv => whnf
  try (refine ⟨by kernel_rfl, ?_⟩; conv => whnf)
  refine condP_t ((congrArg (fun n => Nat.beq 0 0 && Nat.beq 162 n) l2).trans rfl) ?_
  conv => whnf
  try (refine ⟨by kernel_rfl, ?_⟩; conv => whnf)
  rw [ws_i64 (by decide) (by decide)]
  conv => whnf
  try (refine ⟨by kernel_rfl, ?_⟩; conv => whnf)
  refine vloop_clean G0ok [(0, some 0)] 1 [(48, nI .i64 3), (47, nI .i64 3), (46, .ds false 3 [.ds (F && decide (i = B.length)) P1.length (bts P1), .ds (F && decide (i + k = B.length)) P2.length (bts P2), .ds (F && decide (B.length = B.length)) P3.length (bts P3)]), (9, .ptr 0 0), (6, bI false), (0, .ds F B.length (bts B))] [(0, some (words S3.l ++ (bts S3.h ++ [nI .i64 (S3.n : Int)])))] rfl ⟨⟨_, rfl, conv_nI (rfl)⟩, ⟨_, rfl, conv_nI (rfl)⟩, ⟨_, rfl, .same (hP)⟩, ⟨_, rfl, .ptr rfl⟩, ⟨_, rfl, .same rfl⟩, ⟨_, rfl, .same (bts_noHs _)⟩, trivial⟩ ⟨.inr ⟨_, _, rfl, rfl, convs_eq rfl (h3)⟩, trivial⟩ ?_
  refine vloop_unroll ?_
  refine wpv_ok Γok (by kernel_rfl) _ _ _ ?_; conv => whnf
  conv => whnf
  try (refine ⟨by kernel_rfl, ?_⟩; conv => whnf)
  have lE : (bts (spEnd S3)).length = 32 := by unfold spEnd; rw [hid_eq, bts_length, outB_len]
  have eE : EqAgg Tryd.prog .eql 36 (bts (spEnd S3)) (bts (spEnd S3)) (decide (spEnd S3 = spEnd S3)) := eq_b32 (by unfold spEnd; rw [hid_eq, outB_len]) (by unfold spEnd; rw [hid_eq, outB_len])
  rw [decide_eq_true rfl] at eE
  refine bindP_intro (load_agg rfl rfl l3) ?_
  conv => whnf
  try (refine ⟨by kernel_rfl, ?_⟩; conv => whnf)
  refine ⟨_, ret_of_fn G0ok (en) (by first | rfl | simp only [noHs, noH, nI, bI, Bool.and_self, Bool.and_true, Bool.true_and, noHs_append, words_noHs, bts_noHs]) (by first | rfl | simp only [noHs, noH, nI, bI, Bool.and_self, Bool.and_true, Bool.true_and, noHs_append, words_noHs, bts_noHs]), ?_⟩; (conv => whnf); (try (refine ⟨by kernel_rfl, ?_⟩; conv => whnf))
  refine onlyIf_intro (by rw [lE]; rfl) ?_
  conv => whnf
  try (refine ⟨by kernel_rfl, ?_⟩; conv => whnf)
  refine bindP_intro (load_agg rfl rfl lE) ?_
  conv => whnf
  try (refine ⟨by kernel_rfl, ?_⟩; conv => whnf)
  refine ⟨_, ret_of_fn G0ok (kS) (by first | rfl | simp only [noHs, noH, nI, bI, Bool.and_self, Bool.and_true, Bool.true_and, bts_noHs]) (by first | rfl | simp only [noHs, noH, nI, bI, Bool.and_self, Bool.and_true, Bool.true_and, bts_noHs]), ?_⟩; (conv => whnf); (try (refine ⟨by kernel_rfl, ?_⟩; conv => whnf))
  refine ⟨_, eE, ?_⟩
  conv => whnf
  try (refine ⟨by kernel_rfl, ?_⟩; conv => whnf)
  refine ⟨_, ret_of_fn G0ok (ktells_fn) (by first | rfl | simp only [noHs, noH, nI, bI, Bool.and_self, Bool.and_true, Bool.true_and, ]) (by first | rfl | simp only [noHs, noH, nI, bI, Bool.and_self, Bool.and_true, Bool.true_and, ]), ?_⟩; (conv => whnf); (try (refine ⟨by kernel_rfl, ?_⟩; conv => whnf))
  exact ⟨_, rfl, rfl⟩
theorem fnKeccakParts (b : List Nat) (cut more : Int) (hL : b.length ≤ 9223372036854775807) (hb : ∀ x ∈ b, x < 256) (_ : I64 cut) (_ : I64 more) : FnV Tryd.prog G0 4 [.ds false b.length (bts b), nI .i64 cut, nI .i64 more] (bI true) := kparts_fn false b cut more hb hL
namespace lawKeccakParts
set_option linter.unusedVariables false
set_option maxRecDepth 100000 in
theorem lifted (os : Os) (started : os.Started) (H : Type) (enc : TypeId × Value → H) :
    ReturnsInHanded {} Tryd.checked os 4 .any (fun w args => (Rows.keccakPartsSpec.pre enc Tryd.prog Tryd.f4 [] false w args ∧ laidMetH Tryd.prog laidL w) ∧ sizedMet enc Tryd.prog Tryd.f4 (OpenSpec.ofChange Rows.keccakPartsSpec) false w args)
      (Rows.keccakPartsSpec.post enc Tryd.prog Tryd.f4 false true false false) := by
  refine returnsInHanded_of_change_and (C := Tryd.checked) (X := fun w _ => laidMetH Tryd.prog laidL w) (fun _ _ _ hh h => h.of_heap hh) rowOwn started (by kernel_rfl) Tryd.func4
    (ChangeSpec.witness_shaped (enc := enc) (C := Tryd.checked) (os := os) (X := fun w _ => laidMetH Tryd.prog laidL w) false (World.doorLaid Tryd.prog 400 os) #[.slice none 0 0, .int .i64 0, .int .i64 0] 8 rfl (World.shaped_of_RefB (by kernel_rfl) (by kernel_rfl)) (by kernel_rfl) (by kernel_rfl) (by kernel_rfl) (door_met os _)) ?_
  intro W base args ds gs before hval0 hW _ _ hL _
  have hval : ∀ (j : Nat) t v, Tryd.f4.params[j]? = some t → args[j]? = some v → Value.okWide Tryd.prog W .any base t v := hval0
  have hW' := hW
  obtain ⟨p, q, hA0, hV, rfl, hfz, hnd⟩ := hW
  have hA : DataW.TrodAll enc Tryd.prog W 0 (fun _ => true) true Tryd.f4.params.toList args.toList ds p := hA0
  rw [Tryd.params4] at hA hval
  obtain ⟨v0, vs0, d0, ds0, p0, q0, hargs, rfl, rfl, h0, r0⟩ := trodAll_cons hA
  obtain ⟨v1, vs1, d1, ds1, p1, q1, rfl, rfl, rfl, h1, r1⟩ := trodAll_cons r0
  obtain ⟨v2, vs2, d2, ds2, p2, q2, rfl, rfl, rfl, h2, r2⟩ := trodAll_cons r1
  obtain ⟨rfl, rfl, rfl⟩ := trodAll_nil r2
  obtain rfl : args = #[v0, v1, v2] := by cases args; simp_all
  obtain ⟨rfl, rfl⟩ := trodVars_none hV
  have k0 := h0
  have lt0 : ∀ x ∈ p0, x.block < W.heap.size := by obtain ⟨m, hm⟩ := k0; exact DataW.trod_lt m _ _ _ hm
  obtain ⟨a0, l0, w0, u0⟩ := bytes_open (hval 0 27 v0 rfl rfl) h0
  obtain ⟨a1, rfl, rfl, rfl, w1⟩ := open_int Tryd.underlying3 (hval 1 3 v1 rfl rfl) h1
  obtain ⟨a2, rfl, rfl, rfl, w2⟩ := open_int Tryd.underlying3 (hval 2 3 v2 rfl rfl) h2
  clear hA0 hval0
  refine (calls_of_fn Tryd.func4 (by kernel_rfl) rfl (fnKeccakParts a0 a1 a2 l0 w0 (bounds_i64 w1) (bounds_i64 w2)) (hG_laid hL) (VRs.cons u0 (VRs.cons rfl (VRs.cons rfl VRs.snoc_nil)))).mono fun e W' ⟨he, bel⟩ => ?_
  subst he
  exact ⟨_, rfl, _, _, _, [], _, [], hW', trodAll_mk1 (shut_bool Tryd.underlying4 _), (trodAll_cons_mk (Below.trod rowLaid (by kernel_rfl) (of_decide_eq_true (by kernel_rfl)) k0 bel lt0) (trodAll_cons_mk (shut_int Tryd.underlying3 w1) (trodAll_cons_mk (shut_int Tryd.underlying3 w2) trodAll_mk0))), rfl, bel.frame _, fun h => by cases h⟩
theorem over : Rows.keccakPartsRow.holds Tryd.pinned (OpenSpec.ofChange Rows.keccakPartsSpec) :=
  OpenClaim.holds_of_wide 4 Tryd.f4 rfl rfl rfl rfl rfl rfl rfl ⟨rfl, rfl, rfl, rfl, rfl⟩ rfl rfl rfl rfl rfl (by kernel_rfl) Tryd.func4 (by kernel_rfl)
    (of_decide_eq_true (by kernel_rfl)) (by unfold Func.isWrapper; first | (rw [if_pos (by decide +kernel)]; kernel_rfl) | (rw [if_neg (by decide +kernel)]; exact ⟨rfl, rfl⟩))
    (fun os started H enc _ => lifted os started H enc)
theorem proved : Rows.KeccakPartsCardSaid :=
  Claim7.holds_tied_plain_at .later [] [.data, .data] true _ _
    over (fun _ h => by cases h) (by kernel_rfl) (fun _ h => by cases h) keccakParts_row_tie rfl ⟨rfl, rfl⟩ (by kernel_rfl) rfl
    (fun f fn hf hfn => by
      obtain rfl : f = 4 := Option.some.inj ((show Tryd.prog.funcNamed "bascule/basculekeep.KeccakParts" = some 4 by kernel_rfl).symm.trans hf) |>.symm
      obtain rfl : fn = Tryd.f4 := (Option.some.inj (Tryd.func4.symm.trans hfn)).symm
      exact ⟨by kernel_rfl, fun j t ht => by
        rw [Tryd.params4] at ht
        have hm : t ∈ [27, 3, 3] := by simpa using Array.mem_of_getElem? ht
        have hall : ([27, 3, 3].all fun u => !Tryd.prog.wantsStandIn u) = true := by kernel_rfl
        exact (show Tryd.prog.wantsStandIn t = false by simpa using List.all_eq_true.1 hall t hm)⟩)
    (by kernel_rfl)
end lawKeccakParts

end Go.Proofs.YtidkdlaihmpjfaaDoor
