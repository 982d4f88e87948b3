/- The contract of wide.DivMod: the quotient and what is left. -/
import Derived.Test.YtmfgldfldejgcaaRows
import Derived.Test.YtmfgldfldejgcaaNum
import Derived.Test.YtmfgldfldejgcaaAdd
import Derived.Test.YtmfgldfldejgcaaCmp
import Derived.Test.YtmfgldfldejgcaaBit
import Derived.Test.YtmfgldfldejgcaaDivN
import Derived.Test.YtmfgldfldejgcaaTells
import Derived.WalkKit
import Derived.WalkSpells
import Derived.WalkLawsBesides
namespace Go.Proofs.Ytmfgldfldejgcaa
set_option linter.unusedVariables false
set_option linter.unusedSimpArgs false
open Go.RowKit

theorem divN_ex : ∃ f : Nat → Nat → Nat, ∀ a b, f a b = a / b := ⟨_, fun _ _ => rfl⟩
noncomputable def divN : Nat → Nat → Nat := Classical.choose divN_ex
theorem divN_def (a b : Nat) : divN a b = a / b := Classical.choose_spec divN_ex a b
theorem modN_ex : ∃ f : Nat → Nat → Nat, ∀ a b, f a b = a % b := ⟨_, fun _ _ => rfl⟩
noncomputable def modN : Nat → Nat → Nat := Classical.choose modN_ex
theorem modN_def (a b : Nat) : modN a b = a % b := Classical.choose_spec modN_ex a b
theorem divN_lt {a : Nat} (b : Nat) (ha : a < T256) : divN a b < T256 := by rw [divN_def]; exact Nat.lt_of_le_of_lt (Nat.div_le_self _ _) ha
theorem modN_lt {a : Nat} (b : Nat) (ha : a < T256) : modN a b < T256 := by rw [modN_def]; exact Nat.lt_of_le_of_lt (Nat.mod_le _ _) ha

set_option maxHeartbeats 2000000 in
theorem div_zero (a : Nat) (ha : a < T256) (w : World) :
    Calls Try.prog 28 #[u256 a, u256 0] w fun e w' => e = .returned (.tuple #[u256 0, u256 0, .int .i64 7]) ∧ Below w.heap.size w w' := by
  have q := fun w => equalIn_lit (show 0 < T256 by decide) 0 (by decide) w
  have M := Mem.begin w
  have F : True := trivial
  go_enter Try.func28, Try.ntmps28
  go_wp2
  refine bodyPost_ret (v := .tuple #[u256 0, u256 0, .int .i64 7]) (by simp [results, Try.results28, go_sem, lim]) rfl ⟨rfl, by exact Mem.below (L := _) (by (repeat (first | with_reducible exact M | with_reducible apply Mem.drew | with_reducible apply Mem.alloc | with_reducible apply Mem.allocAny)))⟩

theorem quo_none (Q i : Nat) : 2 * Q * 2 ^ i = Q * 2 ^ (i + 1) := by rw [Nat.pow_succ, Nat.mul_comm 2 Q, Nat.mul_assoc, Nat.mul_comm 2]
theorem quo_one (Q i : Nat) : (2 * Q + 1) * 2 ^ i = Q * 2 ^ (i + 1) + 2 ^ i := by rw [Nat.add_mul, Nat.one_mul, quo_none]
set_option maxHeartbeats 16000000 in
theorem div_pos (a b : Nat) (ha : a < T256) (hb : b < T256) (h0 : 0 < b) (w : World) :
    Calls Try.prog 28 #[u256 a, u256 b] w fun e w' => e = .returned (.tuple #[u256 (divN a b), u256 (modN a b), .int .i64 0]) ∧ Below w.heap.size w w' := by
  have q := fun w => equalIn_lit hb 0 (by decide) w
  have q0 : (b == 0) = false := by simp; omega
  have M := Mem.begin w
  have F : True := trivial
  go_enter Try.func28, Try.ntmps28
  go_wp2_with (go_at_call 34; (with_reducible refine (length_calls ha _).mono ?_); rintro e w' ⟨n, hn1, hn2, rfl, hb⟩; have HN := Lib.hid hn1; clear hn1; have M := Mem.call (by (repeat (first | with_reducible exact M | with_reducible apply Mem.drew | with_reducible apply Mem.alloc | with_reducible apply Mem.allocAny))) hb; clear F; have F := M.cells; simp only [World.size_alloc, World.size_drew, Cells, cellsFrom, Value.cells, List.toList_toArray, Nat.zero_add, Nat.reduceAdd, List.setIfInBounds_toArray, List.set_cons_zero, List.set_cons_succ, List.cons_append, List.nil_append, and_true] at F; clear hb)
  go_loopw [7] (fun i wr => ∃ m Q R : Nat, m ≤ 256 ∧ i = .int .i64 ((m : Int) - 1) ∧ R < b ∧ a / 2 ^ m = Q * b + R ∧
    Mem w.heap.size w wr [(w.heap.size + 1 + 1 + 1, (u256 R).cells, 32), (w.heap.size + 1 + 1, (u256 (Q * 2 ^ m)).cells, 32), (w.heap.size + 1, (u256 b).cells, 32), (w.heap.size, (u256 a).cells, 32)]) (fun i _ => (intOf i + 1).toNat)
  case atStart =>
    refine ⟨n, 0, 0, hn2, rfl, h0, by rw [Nat.div_eq_of_lt HN.out, Nat.zero_mul], Mem.cast M ?_⟩
    rw [Nat.zero_mul]
    simp only [World.size_alloc]
    rfl
  case round =>
    obtain ⟨m, Q, R, hm, rfl, hR, hdiv, hM⟩ := hrel
    have M := hM
    have F := M.cells; simp only [World.size_alloc, World.size_drew, Cells, cellsFrom, Value.cells, List.toList_toArray, Nat.zero_add, Nat.reduceAdd, List.setIfInBounds_toArray, List.set_cons_zero, List.set_cons_succ, List.cons_append, List.nil_append, and_true] at F
    have hRT : R < T256 := Nat.lt_trans hR hb
    rcases m with _ | i
    · simp only [Nat.pow_zero, Nat.div_one, Nat.mul_one, Int.natCast_zero, Int.zero_sub] at hdiv F M hM ⊢
      have e1 : divN a b = Q := by rw [divN_def, hdiv, Nat.mul_comm, Nat.mul_add_div h0, Nat.div_eq_of_lt hR, Nat.add_zero]
      have e2 : modN a b = R := by rw [modN_def, hdiv, Nat.mul_comm Q b, Nat.mul_add_mod, Nat.mod_eq_of_lt hR]
      go_wp2
      refine wp_join_read [.val (u256 Q), .val (u256 R), .fill (w.heap.size + 1 + 1) (u256 Q).cells, .fill (w.heap.size + 1 + 1 + 1) (u256 R).cells, .val (.int .i64 0)] [(0, 2), (1, 3)] (by kernel_rfl) (by kernel_rfl) (by kernel_rfl) (by simp [setsOf]) ?_ ?_ ?_
      · refine Mem.olds M _ ?_
        exact ⟨⟨_, _, (by repeat (first | exact List.mem_cons_self | apply List.mem_cons_of_mem)), by simp [Value.cells]⟩, ⟨_, _, (by repeat (first | exact List.mem_cons_self | apply List.mem_cons_of_mem)), by simp [Value.cells]⟩, trivial⟩
      · simp only [Obls, List.zip_cons_cons, List.zip_nil_right, finL, setsBut, List.contains_cons, List.contains_nil, List.setIfInBounds_toArray, List.set_cons_zero, List.set_cons_succ]
        refine ⟨?_, ?_, ?fill2, ?fill3, ?_, trivial⟩
        case fill2 => exact fill_row rfl rfl (by kernel_rfl) (by simp [Value.cells, Value.oneCell']) (Mem.olds M _ ⟨⟨_, _, (by repeat (first | exact List.mem_cons_self | apply List.mem_cons_of_mem)), by simp [Value.cells]⟩, trivial⟩)
        case fill3 => exact fill_row rfl rfl (by kernel_rfl) (by simp [Value.cells, Value.oneCell']) (Mem.olds M _ ⟨⟨_, _, (by repeat (first | exact List.mem_cons_self | apply List.mem_cons_of_mem)), by simp [Value.cells]⟩, trivial⟩)
        all_goals (intro w1 hb; simp at hb; have hc := (ExB.cells hb).1; clear hb; go_simp; first | exact And.intro rfl (Below.refl _ _) | (fail))
      intro ρ w1 hb hs hf hd
      have D := M.dist; simp only [Dist, DistFrom, and_true, World.size_alloc, World.size_drew, World.size_setCell] at D
      have M := Mem.joinSet M hb hs (by simp [setsOf]) hf hd
      clear F hb hs hf hd
      simp only [finL, List.setIfInBounds_toArray, List.set_cons_zero, List.set_cons_succ, Nat.zero_add, Nat.reduceAdd]
      simp [joined, content, refill, D] at M
      clear D
    
      have F := M.cells; simp only [World.size_alloc, World.size_drew, Cells, cellsFrom, Value.cells, List.toList_toArray, Nat.zero_add, Nat.reduceAdd, List.setIfInBounds_toArray, List.set_cons_zero, List.set_cons_succ, List.cons_append, List.nil_append, and_true] at F
      go_wp2
      rw [e1, e2]
      refine bodyPost_ret (v := .tuple #[u256 Q, u256 R, .int .i64 0]) (by simp [results, Try.results28, go_sem, F]) rfl ⟨rfl, M.below⟩
    · have em : (((i + 1 : Nat) : Int) - 1) = (i : Int) := by omega
      rw [em]
      have gi : ((i : Int) ≥ 0) := by omega
      have ti : bitN a i ≤ 1 := bitN_le a i
      go_wp2_with (go_at_call 19; (with_reducible refine (add_calls hRT hRT _).mono ?_); rintro e w' ⟨rfl, hb⟩; have M := Mem.call (by (repeat (first | with_reducible exact M | with_reducible apply Mem.drew | with_reducible apply Mem.alloc | with_reducible apply Mem.allocAny))) hb; clear F; have F := M.cells; simp only [World.size_alloc, World.size_drew, Cells, cellsFrom, Value.cells, List.toList_toArray, Nat.zero_add, Nat.reduceAdd, List.setIfInBounds_toArray, List.set_cons_zero, List.set_cons_succ, List.cons_append, List.nil_append, and_true] at F; clear hb; have D := M.dist; simp only [Dist, DistFrom, and_true, World.size_alloc, World.size_drew, World.size_setCell] at D)
      refine wp_world (by ((repeat (first | with_reducible exact M | with_reducible apply Mem.drew | with_reducible apply Mem.alloc | with_reducible apply Mem.setCellU | with_reducible apply Mem.allocAny)) <;> simp [updL, D])) ?_
      intro w2 M
      simp [updL, D, Value.cells] at M
      clear F
      have F := M.cells; simp only [World.size_alloc, World.size_drew, Cells, cellsFrom, Value.cells, List.toList_toArray, Nat.zero_add, Nat.reduceAdd, List.setIfInBounds_toArray, List.set_cons_zero, List.set_cons_succ, List.cons_append, List.nil_append, and_true] at F
      have D := M.dist; simp only [Dist, DistFrom, and_true, World.size_alloc, World.size_drew, World.size_setCell] at D
      obtain ⟨o1, o2, o3, o4⟩ := rest_or (r := R) ti
      refine wp_join_read [.val (.pointer (some ⟨w.heap.size + 1 + 1 + 1, 0, none⟩)), .val (.int .u64 (lim (addS R R) 0)), .val (u256 a), .val (.int .i64 i), .val (.int .u64 (bitN a i)), .val (.int .u64 (lim (addS R R + bitN a i) 0)), .val (.pointer (some ⟨w.heap.size + 1 + 1 + 1, 0, none⟩)), .fill (w.heap.size + 1 + 1 + 1) (u256 (addS R R + bitN a i)).cells] [(1, 7)] (by kernel_rfl) (by kernel_rfl) (by kernel_rfl) (by simp [setsOf]) ?_ ?_ ?_
      · refine Mem.olds M _ ?_
        exact ⟨⟨_, _, (by repeat (first | exact List.mem_cons_self | apply List.mem_cons_of_mem)), by simp [Value.cells]⟩, trivial⟩
      · simp only [Obls, List.zip_cons_cons, List.zip_nil_right, finL, setsBut, List.contains_cons, List.contains_nil, List.setIfInBounds_toArray, List.set_cons_zero, List.set_cons_succ]
        refine ⟨?_, ?_, ?_, ?_, ?_, ?_, ?_, ?fill7, trivial⟩
        case fill7 => exact fill_cell (v := .int .u64 (lim (addS R R + bitN a i) 0)) rfl rfl rfl (by kernel_rfl) (Mem.one M (by repeat (first | exact List.mem_cons_self | apply List.mem_cons_of_mem)) (by simp) (by simp [Value.cells, o2, o3, o4]))
        all_goals (intro w1 hb; simp at hb; have hc := (ExB.cells hb).1; clear hb; go_simp; first | exact And.intro rfl (Below.refl _ _) | (exact bit_calls ha (by omega) _))
      intro ρ w1 hb hs hf hd
      have D := M.dist; simp only [Dist, DistFrom, and_true, World.size_alloc, World.size_drew, World.size_setCell] at D
      have M := Mem.joinSet M hb hs (by simp [setsOf]) hf hd
      clear F hb hs hf hd
      simp only [finL, List.setIfInBounds_toArray, List.set_cons_zero, List.set_cons_succ, Nat.zero_add, Nat.reduceAdd]
      simp [joined, content, refill, D] at M
      clear D
    
      have F := M.cells; simp only [World.size_alloc, World.size_drew, Cells, cellsFrom, Value.cells, List.toList_toArray, Nat.zero_add, Nat.reduceAdd, List.setIfInBounds_toArray, List.set_cons_zero, List.set_cons_succ, List.cons_append, List.nil_append, and_true] at F
      have hx := rest_lt (r := R) ti
      have hS := fun h => rest_sub (R := R) (b := b) (t := bitN a i) hR hb ti h
      have hK := fun h h2 => rest_keep (R := R) (b := b) (t := bitN a i) hR hb ti h h2
      have hD := div_step hdiv
      generalize addS R R + bitN a i = x at *
      have KS := Lib.hid hS
      have KK := Lib.hid hK
      clear hS hK o1 o2 o3 o4 hM
      have hqb : b ≤ 2 * R + bitN a i → Q * 2 ^ (i + 1) + 2 ^ i < T256 := fun h => by
        have h1 : 2 * Q ≤ 2 * Q * b := Nat.le_mul_of_pos_right _ h0
        have h2 : 2 * Q + 1 ≤ a / 2 ^ i := by omega
        have h3 := Nat.mul_le_mul_right (2 ^ i) h2
        have h4 := Nat.div_mul_le_self a (2 ^ i)
        rw [quo_one] at h3
        omega
      cases hO : addO R R
      · rcases Nat.lt_or_ge x b with hlt | hge
        · have hc := cmpN_lt hlt
          go_wp2_with (go_at_call 22; (with_reducible refine (cmp_calls hx hb _).mono ?_); rintro e w' ⟨rfl, hb⟩; have M := Mem.call (by (repeat (first | with_reducible exact M | with_reducible apply Mem.drew | with_reducible apply Mem.alloc | with_reducible apply Mem.allocAny))) hb; clear F; have F := M.cells; simp only [World.size_alloc, World.size_drew, Cells, cellsFrom, Value.cells, List.toList_toArray, Nat.zero_add, Nat.reduceAdd, List.setIfInBounds_toArray, List.set_cons_zero, List.set_cons_succ, List.cons_append, List.nil_append, and_true] at F; clear hb)
          have g1 := KK.out hO hlt
          refine ⟨⟨i, 2 * Q, x, by omega, rfl, hlt, by rw [hD, ← g1], Mem.cast M ?_⟩, by simp [intOf]⟩
          rw [quo_none]
          rfl
        · have hc := cmpN_ge.2 hge
          go_wp2_with first | (go_at_call 22; (with_reducible refine (cmp_calls hx hb _).mono ?_); rintro e w' ⟨rfl, hb⟩; have M := Mem.call (by (repeat (first | with_reducible exact M | with_reducible apply Mem.drew | with_reducible apply Mem.alloc | with_reducible apply Mem.allocAny))) hb; clear F; have F := M.cells; simp only [World.size_alloc, World.size_drew, Cells, cellsFrom, Value.cells, List.toList_toArray, Nat.zero_add, Nat.reduceAdd, List.setIfInBounds_toArray, List.set_cons_zero, List.set_cons_succ, List.cons_append, List.nil_append, and_true] at F; clear hb) | (go_at_call 21; (with_reducible refine (sub_calls hx hb _).mono ?_); rintro e w' ⟨rfl, hb⟩; have M := Mem.call (by (repeat (first | with_reducible exact M | with_reducible apply Mem.drew | with_reducible apply Mem.alloc | with_reducible apply Mem.allocAny))) hb; clear F; have F := M.cells; simp only [World.size_alloc, World.size_drew, Cells, cellsFrom, Value.cells, List.toList_toArray, Nat.zero_add, Nat.reduceAdd, List.setIfInBounds_toArray, List.set_cons_zero, List.set_cons_succ, List.cons_append, List.nil_append, and_true] at F; clear hb; have D := M.dist; simp only [Dist, DistFrom, and_true, World.size_alloc, World.size_drew, World.size_setCell] at D)
          refine wp_world (by ((repeat (first | with_reducible exact M | with_reducible apply Mem.drew | with_reducible apply Mem.alloc | with_reducible apply Mem.setCellU | with_reducible apply Mem.allocAny)) <;> simp [updL, D])) ?_
          intro w3 M
          simp [updL, D, Value.cells] at M
          clear F
          have F := M.cells; simp only [World.size_alloc, World.size_drew, Cells, cellsFrom, Value.cells, List.toList_toArray, Nat.zero_add, Nat.reduceAdd, List.setIfInBounds_toArray, List.set_cons_zero, List.set_cons_succ, List.cons_append, List.nil_append, and_true] at F
          have D := M.dist; simp only [Dist, DistFrom, and_true, World.size_alloc, World.size_drew, World.size_setCell] at D
          obtain ⟨g1, g2, g3⟩ := KS.out (.inr hge)
          clear KS KK
          rw [g1] at M F
          obtain ⟨d, s, hi, hs, hd, q1, q2⟩ : ∃ d s : Nat, i = 64 * d + s ∧ s < 64 ∧ d < 4 ∧ (i : Int) / 64 = d ∧ (i : Int) % 64 = s := ⟨i / 64, i % 64, by omega, by omega, by omega, by omega, by omega⟩
          have q3 : (i : Int) ≤ 255 := by omega
          have hs2 : (s : Int) ≤ 64 := by omega
          obtain ⟨z1, z2, z3⟩ := quo_or (Q := Q) hi hs hd (hqb g3)
          push_cast at z1 z2
          have z1' : IntKind.u64.wrap ((2 : Int) ^ s) = 2 ^ s := by simpa using z1
          have q4 : (i : Int).tmod 64 = s := by rw [Int.tmod_eq_emod_of_nonneg (by omega)]; exact q2
          have Z3 := Lib.hid z3
          have HI := Lib.hid hi
          clear z3 hi
          have hd' : d = 0 ∨ d = 1 ∨ d = 2 ∨ d = 3 := by omega
          clear hd hs
          rcases hd' with rfl | rfl | rfl | rfl
          · skip
            refine wp_join_read [.val (.int .i64 i), .val (.int .i64 0), .val (.pointer (some ⟨w.heap.size + 1 + 1, 0, none⟩)), .val (.int .u64 (lim (Q * 2 ^ (i + 1)) 0)), .val (.int .i64 i), .val (.int .i64 s), .val (.int .u64 (2 ^ s)), .val (.int .u64 (lim (Q * 2 ^ (i + 1) + 2 ^ i) 0)), .val (.pointer (some ⟨w.heap.size + 1 + 1, 0, none⟩)), .fill (w.heap.size + 1 + 1) (u256 (Q * 2 ^ (i + 1) + 2 ^ i)).cells] [(3, 9)] (by kernel_rfl) (by kernel_rfl) (by kernel_rfl) (by simp [setsOf]) ?_ ?_ ?_
            · refine Mem.olds M _ ?_
              exact ⟨⟨_, _, (by repeat (first | exact List.mem_cons_self | apply List.mem_cons_of_mem)), by simp [Value.cells]⟩, trivial⟩
            · simp only [Obls, List.zip_cons_cons, List.zip_nil_right, finL, setsBut, List.contains_cons, List.contains_nil, List.setIfInBounds_toArray, List.set_cons_zero, List.set_cons_succ]
              refine ⟨?_, ?_, ?_, ?_, ?_, ?_, ?_, ?_, ?_, ?fill9, trivial⟩
              case fill9 => exact fill_cell (v := .int .u64 (lim (Q * 2 ^ (i + 1) + 2 ^ i) 0)) rfl rfl rfl (by kernel_rfl) (Mem.one M (by repeat (first | exact List.mem_cons_self | apply List.mem_cons_of_mem)) (by simp) (by simp [Value.cells, Z3.out 1 (by decide) (by decide), Z3.out 2 (by decide) (by decide), Z3.out 3 (by decide) (by decide)]))
              all_goals (intro w1 hb; simp at hb; have hc := (ExB.cells hb).1; clear hb; go_simp; first | exact And.intro rfl (Below.refl _ _) | (fail))
            intro ρ w1 hb hs hf hd
            have D := M.dist; simp only [Dist, DistFrom, and_true, World.size_alloc, World.size_drew, World.size_setCell] at D
            have M := Mem.joinSet M hb hs (by simp [setsOf]) hf hd
            clear F hb hs hf hd
            simp only [finL, List.setIfInBounds_toArray, List.set_cons_zero, List.set_cons_succ, Nat.zero_add, Nat.reduceAdd]
            simp [joined, content, refill, D] at M
            clear D
          
            have F := M.cells; simp only [World.size_alloc, World.size_drew, Cells, cellsFrom, Value.cells, List.toList_toArray, Nat.zero_add, Nat.reduceAdd, List.setIfInBounds_toArray, List.set_cons_zero, List.set_cons_succ, List.cons_append, List.nil_append, and_true] at F
            go_wp2
            refine ⟨⟨i, 2 * Q + 1, 2 * R + bitN a i - b, by omega, rfl, g2, ?_, Mem.cast M ?_⟩, by simp [intOf]⟩
            · rw [hD, Nat.add_mul, Nat.one_mul]; omega
            · rw [quo_one]; rfl
          · skip
            refine wp_join_read [.val (.int .i64 i), .val (.int .i64 1), .val (.pointer (some ⟨w.heap.size + 1 + 1, 1, none⟩)), .val (.int .u64 (lim (Q * 2 ^ (i + 1)) 1)), .val (.int .i64 i), .val (.int .i64 s), .val (.int .u64 (2 ^ s)), .val (.int .u64 (lim (Q * 2 ^ (i + 1) + 2 ^ i) 1)), .val (.pointer (some ⟨w.heap.size + 1 + 1, 1, none⟩)), .fill (w.heap.size + 1 + 1) (u256 (Q * 2 ^ (i + 1) + 2 ^ i)).cells] [(3, 9)] (by kernel_rfl) (by kernel_rfl) (by kernel_rfl) (by simp [setsOf]) ?_ ?_ ?_
            · refine Mem.olds M _ ?_
              exact ⟨⟨_, _, (by repeat (first | exact List.mem_cons_self | apply List.mem_cons_of_mem)), by simp [Value.cells]⟩, trivial⟩
            · simp only [Obls, List.zip_cons_cons, List.zip_nil_right, finL, setsBut, List.contains_cons, List.contains_nil, List.setIfInBounds_toArray, List.set_cons_zero, List.set_cons_succ]
              refine ⟨?_, ?_, ?_, ?_, ?_, ?_, ?_, ?_, ?_, ?fill9, trivial⟩
              case fill9 => exact fill_cell (v := .int .u64 (lim (Q * 2 ^ (i + 1) + 2 ^ i) 1)) rfl rfl rfl (by kernel_rfl) (Mem.one M (by repeat (first | exact List.mem_cons_self | apply List.mem_cons_of_mem)) (by simp) (by simp [Value.cells, Z3.out 0 (by decide) (by decide), Z3.out 2 (by decide) (by decide), Z3.out 3 (by decide) (by decide)]))
              all_goals (intro w1 hb; simp at hb; have hc := (ExB.cells hb).1; clear hb; go_simp; first | exact And.intro rfl (Below.refl _ _) | (fail))
            intro ρ w1 hb hs hf hd
            have D := M.dist; simp only [Dist, DistFrom, and_true, World.size_alloc, World.size_drew, World.size_setCell] at D
            have M := Mem.joinSet M hb hs (by simp [setsOf]) hf hd
            clear F hb hs hf hd
            simp only [finL, List.setIfInBounds_toArray, List.set_cons_zero, List.set_cons_succ, Nat.zero_add, Nat.reduceAdd]
            simp [joined, content, refill, D] at M
            clear D
          
            have F := M.cells; simp only [World.size_alloc, World.size_drew, Cells, cellsFrom, Value.cells, List.toList_toArray, Nat.zero_add, Nat.reduceAdd, List.setIfInBounds_toArray, List.set_cons_zero, List.set_cons_succ, List.cons_append, List.nil_append, and_true] at F
            go_wp2
            refine ⟨⟨i, 2 * Q + 1, 2 * R + bitN a i - b, by omega, rfl, g2, ?_, Mem.cast M ?_⟩, by simp [intOf]⟩
            · rw [hD, Nat.add_mul, Nat.one_mul]; omega
            · rw [quo_one]; rfl
          · skip
            refine wp_join_read [.val (.int .i64 i), .val (.int .i64 2), .val (.pointer (some ⟨w.heap.size + 1 + 1, 2, none⟩)), .val (.int .u64 (lim (Q * 2 ^ (i + 1)) 2)), .val (.int .i64 i), .val (.int .i64 s), .val (.int .u64 (2 ^ s)), .val (.int .u64 (lim (Q * 2 ^ (i + 1) + 2 ^ i) 2)), .val (.pointer (some ⟨w.heap.size + 1 + 1, 2, none⟩)), .fill (w.heap.size + 1 + 1) (u256 (Q * 2 ^ (i + 1) + 2 ^ i)).cells] [(3, 9)] (by kernel_rfl) (by kernel_rfl) (by kernel_rfl) (by simp [setsOf]) ?_ ?_ ?_
            · refine Mem.olds M _ ?_
              exact ⟨⟨_, _, (by repeat (first | exact List.mem_cons_self | apply List.mem_cons_of_mem)), by simp [Value.cells]⟩, trivial⟩
            · simp only [Obls, List.zip_cons_cons, List.zip_nil_right, finL, setsBut, List.contains_cons, List.contains_nil, List.setIfInBounds_toArray, List.set_cons_zero, List.set_cons_succ]
              refine ⟨?_, ?_, ?_, ?_, ?_, ?_, ?_, ?_, ?_, ?fill9, trivial⟩
              case fill9 => exact fill_cell (v := .int .u64 (lim (Q * 2 ^ (i + 1) + 2 ^ i) 2)) rfl rfl rfl (by kernel_rfl) (Mem.one M (by repeat (first | exact List.mem_cons_self | apply List.mem_cons_of_mem)) (by simp) (by simp [Value.cells, Z3.out 0 (by decide) (by decide), Z3.out 1 (by decide) (by decide), Z3.out 3 (by decide) (by decide)]))
              all_goals (intro w1 hb; simp at hb; have hc := (ExB.cells hb).1; clear hb; go_simp; first | exact And.intro rfl (Below.refl _ _) | (fail))
            intro ρ w1 hb hs hf hd
            have D := M.dist; simp only [Dist, DistFrom, and_true, World.size_alloc, World.size_drew, World.size_setCell] at D
            have M := Mem.joinSet M hb hs (by simp [setsOf]) hf hd
            clear F hb hs hf hd
            simp only [finL, List.setIfInBounds_toArray, List.set_cons_zero, List.set_cons_succ, Nat.zero_add, Nat.reduceAdd]
            simp [joined, content, refill, D] at M
            clear D
          
            have F := M.cells; simp only [World.size_alloc, World.size_drew, Cells, cellsFrom, Value.cells, List.toList_toArray, Nat.zero_add, Nat.reduceAdd, List.setIfInBounds_toArray, List.set_cons_zero, List.set_cons_succ, List.cons_append, List.nil_append, and_true] at F
            go_wp2
            refine ⟨⟨i, 2 * Q + 1, 2 * R + bitN a i - b, by omega, rfl, g2, ?_, Mem.cast M ?_⟩, by simp [intOf]⟩
            · rw [hD, Nat.add_mul, Nat.one_mul]; omega
            · rw [quo_one]; rfl
          · skip
            refine wp_join_read [.val (.int .i64 i), .val (.int .i64 3), .val (.pointer (some ⟨w.heap.size + 1 + 1, 3, none⟩)), .val (.int .u64 (lim (Q * 2 ^ (i + 1)) 3)), .val (.int .i64 i), .val (.int .i64 s), .val (.int .u64 (2 ^ s)), .val (.int .u64 (lim (Q * 2 ^ (i + 1) + 2 ^ i) 3)), .val (.pointer (some ⟨w.heap.size + 1 + 1, 3, none⟩)), .fill (w.heap.size + 1 + 1) (u256 (Q * 2 ^ (i + 1) + 2 ^ i)).cells] [(3, 9)] (by kernel_rfl) (by kernel_rfl) (by kernel_rfl) (by simp [setsOf]) ?_ ?_ ?_
            · refine Mem.olds M _ ?_
              exact ⟨⟨_, _, (by repeat (first | exact List.mem_cons_self | apply List.mem_cons_of_mem)), by simp [Value.cells]⟩, trivial⟩
            · simp only [Obls, List.zip_cons_cons, List.zip_nil_right, finL, setsBut, List.contains_cons, List.contains_nil, List.setIfInBounds_toArray, List.set_cons_zero, List.set_cons_succ]
              refine ⟨?_, ?_, ?_, ?_, ?_, ?_, ?_, ?_, ?_, ?fill9, trivial⟩
              case fill9 => exact fill_cell (v := .int .u64 (lim (Q * 2 ^ (i + 1) + 2 ^ i) 3)) rfl rfl rfl (by kernel_rfl) (Mem.one M (by repeat (first | exact List.mem_cons_self | apply List.mem_cons_of_mem)) (by simp) (by simp [Value.cells, Z3.out 0 (by decide) (by decide), Z3.out 1 (by decide) (by decide), Z3.out 2 (by decide) (by decide)]))
              all_goals (intro w1 hb; simp at hb; have hc := (ExB.cells hb).1; clear hb; go_simp; first | exact And.intro rfl (Below.refl _ _) | (fail))
            intro ρ w1 hb hs hf hd
            have D := M.dist; simp only [Dist, DistFrom, and_true, World.size_alloc, World.size_drew, World.size_setCell] at D
            have M := Mem.joinSet M hb hs (by simp [setsOf]) hf hd
            clear F hb hs hf hd
            simp only [finL, List.setIfInBounds_toArray, List.set_cons_zero, List.set_cons_succ, Nat.zero_add, Nat.reduceAdd]
            simp [joined, content, refill, D] at M
            clear D
          
            have F := M.cells; simp only [World.size_alloc, World.size_drew, Cells, cellsFrom, Value.cells, List.toList_toArray, Nat.zero_add, Nat.reduceAdd, List.setIfInBounds_toArray, List.set_cons_zero, List.set_cons_succ, List.cons_append, List.nil_append, and_true] at F
            go_wp2
            refine ⟨⟨i, 2 * Q + 1, 2 * R + bitN a i - b, by omega, rfl, g2, ?_, Mem.cast M ?_⟩, by simp [intOf]⟩
            · rw [hD, Nat.add_mul, Nat.one_mul]; omega
            · rw [quo_one]; rfl
      · go_wp2_with (go_at_call 21; (with_reducible refine (sub_calls hx hb _).mono ?_); rintro e w' ⟨rfl, hb⟩; have M := Mem.call (by (repeat (first | with_reducible exact M | with_reducible apply Mem.drew | with_reducible apply Mem.alloc | with_reducible apply Mem.allocAny))) hb; clear F; have F := M.cells; simp only [World.size_alloc, World.size_drew, Cells, cellsFrom, Value.cells, List.toList_toArray, Nat.zero_add, Nat.reduceAdd, List.setIfInBounds_toArray, List.set_cons_zero, List.set_cons_succ, List.cons_append, List.nil_append, and_true] at F; clear hb; have D := M.dist; simp only [Dist, DistFrom, and_true, World.size_alloc, World.size_drew, World.size_setCell] at D)
        refine wp_world (by ((repeat (first | with_reducible exact M | with_reducible apply Mem.drew | with_reducible apply Mem.alloc | with_reducible apply Mem.setCellU | with_reducible apply Mem.allocAny)) <;> simp [updL, D])) ?_
        intro w3 M
        simp [updL, D, Value.cells] at M
        clear F
        have F := M.cells; simp only [World.size_alloc, World.size_drew, Cells, cellsFrom, Value.cells, List.toList_toArray, Nat.zero_add, Nat.reduceAdd, List.setIfInBounds_toArray, List.set_cons_zero, List.set_cons_succ, List.cons_append, List.nil_append, and_true] at F
        have D := M.dist; simp only [Dist, DistFrom, and_true, World.size_alloc, World.size_drew, World.size_setCell] at D
        obtain ⟨g1, g2, g3⟩ := KS.out (.inl hO)
        clear KS KK
        rw [g1] at M F
        obtain ⟨d, s, hi, hs, hd, q1, q2⟩ : ∃ d s : Nat, i = 64 * d + s ∧ s < 64 ∧ d < 4 ∧ (i : Int) / 64 = d ∧ (i : Int) % 64 = s := ⟨i / 64, i % 64, by omega, by omega, by omega, by omega, by omega⟩
        have q3 : (i : Int) ≤ 255 := by omega
        have hs2 : (s : Int) ≤ 64 := by omega
        obtain ⟨z1, z2, z3⟩ := quo_or (Q := Q) hi hs hd (hqb g3)
        push_cast at z1 z2
        have z1' : IntKind.u64.wrap ((2 : Int) ^ s) = 2 ^ s := by simpa using z1
        have q4 : (i : Int).tmod 64 = s := by rw [Int.tmod_eq_emod_of_nonneg (by omega)]; exact q2
        have Z3 := Lib.hid z3
        have HI := Lib.hid hi
        clear z3 hi
        have hd' : d = 0 ∨ d = 1 ∨ d = 2 ∨ d = 3 := by omega
        clear hd hs
        rcases hd' with rfl | rfl | rfl | rfl
        · skip
          refine wp_join_read [.val (.int .i64 i), .val (.int .i64 0), .val (.pointer (some ⟨w.heap.size + 1 + 1, 0, none⟩)), .val (.int .u64 (lim (Q * 2 ^ (i + 1)) 0)), .val (.int .i64 i), .val (.int .i64 s), .val (.int .u64 (2 ^ s)), .val (.int .u64 (lim (Q * 2 ^ (i + 1) + 2 ^ i) 0)), .val (.pointer (some ⟨w.heap.size + 1 + 1, 0, none⟩)), .fill (w.heap.size + 1 + 1) (u256 (Q * 2 ^ (i + 1) + 2 ^ i)).cells] [(3, 9)] (by kernel_rfl) (by kernel_rfl) (by kernel_rfl) (by simp [setsOf]) ?_ ?_ ?_
          · refine Mem.olds M _ ?_
            exact ⟨⟨_, _, (by repeat (first | exact List.mem_cons_self | apply List.mem_cons_of_mem)), by simp [Value.cells]⟩, trivial⟩
          · simp only [Obls, List.zip_cons_cons, List.zip_nil_right, finL, setsBut, List.contains_cons, List.contains_nil, List.setIfInBounds_toArray, List.set_cons_zero, List.set_cons_succ]
            refine ⟨?_, ?_, ?_, ?_, ?_, ?_, ?_, ?_, ?_, ?fill9, trivial⟩
            case fill9 => exact fill_cell (v := .int .u64 (lim (Q * 2 ^ (i + 1) + 2 ^ i) 0)) rfl rfl rfl (by kernel_rfl) (Mem.one M (by repeat (first | exact List.mem_cons_self | apply List.mem_cons_of_mem)) (by simp) (by simp [Value.cells, Z3.out 1 (by decide) (by decide), Z3.out 2 (by decide) (by decide), Z3.out 3 (by decide) (by decide)]))
            all_goals (intro w1 hb; simp at hb; have hc := (ExB.cells hb).1; clear hb; go_simp; first | exact And.intro rfl (Below.refl _ _) | (fail))
          intro ρ w1 hb hs hf hd
          have D := M.dist; simp only [Dist, DistFrom, and_true, World.size_alloc, World.size_drew, World.size_setCell] at D
          have M := Mem.joinSet M hb hs (by simp [setsOf]) hf hd
          clear F hb hs hf hd
          simp only [finL, List.setIfInBounds_toArray, List.set_cons_zero, List.set_cons_succ, Nat.zero_add, Nat.reduceAdd]
          simp [joined, content, refill, D] at M
          clear D
        
          have F := M.cells; simp only [World.size_alloc, World.size_drew, Cells, cellsFrom, Value.cells, List.toList_toArray, Nat.zero_add, Nat.reduceAdd, List.setIfInBounds_toArray, List.set_cons_zero, List.set_cons_succ, List.cons_append, List.nil_append, and_true] at F
          go_wp2
          refine ⟨⟨i, 2 * Q + 1, 2 * R + bitN a i - b, by omega, rfl, g2, ?_, Mem.cast M ?_⟩, by simp [intOf]⟩
          · rw [hD, Nat.add_mul, Nat.one_mul]; omega
          · rw [quo_one]; rfl
        · skip
          refine wp_join_read [.val (.int .i64 i), .val (.int .i64 1), .val (.pointer (some ⟨w.heap.size + 1 + 1, 1, none⟩)), .val (.int .u64 (lim (Q * 2 ^ (i + 1)) 1)), .val (.int .i64 i), .val (.int .i64 s), .val (.int .u64 (2 ^ s)), .val (.int .u64 (lim (Q * 2 ^ (i + 1) + 2 ^ i) 1)), .val (.pointer (some ⟨w.heap.size + 1 + 1, 1, none⟩)), .fill (w.heap.size + 1 + 1) (u256 (Q * 2 ^ (i + 1) + 2 ^ i)).cells] [(3, 9)] (by kernel_rfl) (by kernel_rfl) (by kernel_rfl) (by simp [setsOf]) ?_ ?_ ?_
          · refine Mem.olds M _ ?_
            exact ⟨⟨_, _, (by repeat (first | exact List.mem_cons_self | apply List.mem_cons_of_mem)), by simp [Value.cells]⟩, trivial⟩
          · simp only [Obls, List.zip_cons_cons, List.zip_nil_right, finL, setsBut, List.contains_cons, List.contains_nil, List.setIfInBounds_toArray, List.set_cons_zero, List.set_cons_succ]
            refine ⟨?_, ?_, ?_, ?_, ?_, ?_, ?_, ?_, ?_, ?fill9, trivial⟩
            case fill9 => exact fill_cell (v := .int .u64 (lim (Q * 2 ^ (i + 1) + 2 ^ i) 1)) rfl rfl rfl (by kernel_rfl) (Mem.one M (by repeat (first | exact List.mem_cons_self | apply List.mem_cons_of_mem)) (by simp) (by simp [Value.cells, Z3.out 0 (by decide) (by decide), Z3.out 2 (by decide) (by decide), Z3.out 3 (by decide) (by decide)]))
            all_goals (intro w1 hb; simp at hb; have hc := (ExB.cells hb).1; clear hb; go_simp; first | exact And.intro rfl (Below.refl _ _) | (fail))
          intro ρ w1 hb hs hf hd
          have D := M.dist; simp only [Dist, DistFrom, and_true, World.size_alloc, World.size_drew, World.size_setCell] at D
          have M := Mem.joinSet M hb hs (by simp [setsOf]) hf hd
          clear F hb hs hf hd
          simp only [finL, List.setIfInBounds_toArray, List.set_cons_zero, List.set_cons_succ, Nat.zero_add, Nat.reduceAdd]
          simp [joined, content, refill, D] at M
          clear D
        
          have F := M.cells; simp only [World.size_alloc, World.size_drew, Cells, cellsFrom, Value.cells, List.toList_toArray, Nat.zero_add, Nat.reduceAdd, List.setIfInBounds_toArray, List.set_cons_zero, List.set_cons_succ, List.cons_append, List.nil_append, and_true] at F
          go_wp2
          refine ⟨⟨i, 2 * Q + 1, 2 * R + bitN a i - b, by omega, rfl, g2, ?_, Mem.cast M ?_⟩, by simp [intOf]⟩
          · rw [hD, Nat.add_mul, Nat.one_mul]; omega
          · rw [quo_one]; rfl
        · skip
          refine wp_join_read [.val (.int .i64 i), .val (.int .i64 2), .val (.pointer (some ⟨w.heap.size + 1 + 1, 2, none⟩)), .val (.int .u64 (lim (Q * 2 ^ (i + 1)) 2)), .val (.int .i64 i), .val (.int .i64 s), .val (.int .u64 (2 ^ s)), .val (.int .u64 (lim (Q * 2 ^ (i + 1) + 2 ^ i) 2)), .val (.pointer (some ⟨w.heap.size + 1 + 1, 2, none⟩)), .fill (w.heap.size + 1 + 1) (u256 (Q * 2 ^ (i + 1) + 2 ^ i)).cells] [(3, 9)] (by kernel_rfl) (by kernel_rfl) (by kernel_rfl) (by simp [setsOf]) ?_ ?_ ?_
          · refine Mem.olds M _ ?_
            exact ⟨⟨_, _, (by repeat (first | exact List.mem_cons_self | apply List.mem_cons_of_mem)), by simp [Value.cells]⟩, trivial⟩
          · simp only [Obls, List.zip_cons_cons, List.zip_nil_right, finL, setsBut, List.contains_cons, List.contains_nil, List.setIfInBounds_toArray, List.set_cons_zero, List.set_cons_succ]
            refine ⟨?_, ?_, ?_, ?_, ?_, ?_, ?_, ?_, ?_, ?fill9, trivial⟩
            case fill9 => exact fill_cell (v := .int .u64 (lim (Q * 2 ^ (i + 1) + 2 ^ i) 2)) rfl rfl rfl (by kernel_rfl) (Mem.one M (by repeat (first | exact List.mem_cons_self | apply List.mem_cons_of_mem)) (by simp) (by simp [Value.cells, Z3.out 0 (by decide) (by decide), Z3.out 1 (by decide) (by decide), Z3.out 3 (by decide) (by decide)]))
            all_goals (intro w1 hb; simp at hb; have hc := (ExB.cells hb).1; clear hb; go_simp; first | exact And.intro rfl (Below.refl _ _) | (fail))
          intro ρ w1 hb hs hf hd
          have D := M.dist; simp only [Dist, DistFrom, and_true, World.size_alloc, World.size_drew, World.size_setCell] at D
          have M := Mem.joinSet M hb hs (by simp [setsOf]) hf hd
          clear F hb hs hf hd
          simp only [finL, List.setIfInBounds_toArray, List.set_cons_zero, List.set_cons_succ, Nat.zero_add, Nat.reduceAdd]
          simp [joined, content, refill, D] at M
          clear D
        
          have F := M.cells; simp only [World.size_alloc, World.size_drew, Cells, cellsFrom, Value.cells, List.toList_toArray, Nat.zero_add, Nat.reduceAdd, List.setIfInBounds_toArray, List.set_cons_zero, List.set_cons_succ, List.cons_append, List.nil_append, and_true] at F
          go_wp2
          refine ⟨⟨i, 2 * Q + 1, 2 * R + bitN a i - b, by omega, rfl, g2, ?_, Mem.cast M ?_⟩, by simp [intOf]⟩
          · rw [hD, Nat.add_mul, Nat.one_mul]; omega
          · rw [quo_one]; rfl
        · skip
          refine wp_join_read [.val (.int .i64 i), .val (.int .i64 3), .val (.pointer (some ⟨w.heap.size + 1 + 1, 3, none⟩)), .val (.int .u64 (lim (Q * 2 ^ (i + 1)) 3)), .val (.int .i64 i), .val (.int .i64 s), .val (.int .u64 (2 ^ s)), .val (.int .u64 (lim (Q * 2 ^ (i + 1) + 2 ^ i) 3)), .val (.pointer (some ⟨w.heap.size + 1 + 1, 3, none⟩)), .fill (w.heap.size + 1 + 1) (u256 (Q * 2 ^ (i + 1) + 2 ^ i)).cells] [(3, 9)] (by kernel_rfl) (by kernel_rfl) (by kernel_rfl) (by simp [setsOf]) ?_ ?_ ?_
          · refine Mem.olds M _ ?_
            exact ⟨⟨_, _, (by repeat (first | exact List.mem_cons_self | apply List.mem_cons_of_mem)), by simp [Value.cells]⟩, trivial⟩
          · simp only [Obls, List.zip_cons_cons, List.zip_nil_right, finL, setsBut, List.contains_cons, List.contains_nil, List.setIfInBounds_toArray, List.set_cons_zero, List.set_cons_succ]
            refine ⟨?_, ?_, ?_, ?_, ?_, ?_, ?_, ?_, ?_, ?fill9, trivial⟩
            case fill9 => exact fill_cell (v := .int .u64 (lim (Q * 2 ^ (i + 1) + 2 ^ i) 3)) rfl rfl rfl (by kernel_rfl) (Mem.one M (by repeat (first | exact List.mem_cons_self | apply List.mem_cons_of_mem)) (by simp) (by simp [Value.cells, Z3.out 0 (by decide) (by decide), Z3.out 1 (by decide) (by decide), Z3.out 2 (by decide) (by decide)]))
            all_goals (intro w1 hb; simp at hb; have hc := (ExB.cells hb).1; clear hb; go_simp; first | exact And.intro rfl (Below.refl _ _) | (fail))
          intro ρ w1 hb hs hf hd
          have D := M.dist; simp only [Dist, DistFrom, and_true, World.size_alloc, World.size_drew, World.size_setCell] at D
          have M := Mem.joinSet M hb hs (by simp [setsOf]) hf hd
          clear F hb hs hf hd
          simp only [finL, List.setIfInBounds_toArray, List.set_cons_zero, List.set_cons_succ, Nat.zero_add, Nat.reduceAdd]
          simp [joined, content, refill, D] at M
          clear D
        
          have F := M.cells; simp only [World.size_alloc, World.size_drew, Cells, cellsFrom, Value.cells, List.toList_toArray, Nat.zero_add, Nat.reduceAdd, List.setIfInBounds_toArray, List.set_cons_zero, List.set_cons_succ, List.cons_append, List.nil_append, and_true] at F
          go_wp2
          refine ⟨⟨i, 2 * Q + 1, 2 * R + bitN a i - b, by omega, rfl, g2, ?_, Mem.cast M ?_⟩, by simp [intOf]⟩
          · rw [hD, Nat.add_mul, Nat.one_mul]; omega
          · rw [quo_one]; rfl
end Go.Proofs.Ytmfgldfldejgcaa
