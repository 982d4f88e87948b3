/- keccak.check, soak, Add, End, Sum by the engine. -/
import Derived.Test.YtidkdlaihmpjfaaDoorVKec
import Derived.Test.YtidkdlaihmpjfaaDoorVFrom
namespace Go.Proofs.YtidkdlaihmpjfaaDoor
set_option linter.unusedVariables false
set_option linter.unusedSimpArgs false
set_option linter.unusedSectionVars false
open Go.ChangeShapes Go.WideShapes Go.ChangeAt Go.RowKit Go.Joins
set_option maxRecDepth 10000
/-- A sponge. -/
structure SpD where
  l : List Nat
  h : List Nat
  n : Nat
noncomputable def SpD.cells (s : SpD) : List VV := words s.l ++ (bts s.h ++ [nI .i64 (s.n : Int)])
noncomputable def SpD.v (s : SpD) : VV := .agg s.cells
def B8 (l : List Nat) (n : Nat) : Prop := l.length = n ∧ ∀ x ∈ l, x < 256
structure SpOk (s : SpD) : Prop where
  l : L64 s.l 25
  h : B8 s.h 136
  n : s.n < 136
  z : ∀ i, s.n ≤ i → i < 136 → s.h.getD i 0 = 0
theorem SpD.noHs (s : SpD) : Go.Proofs.YtidkdlaihmpjfaaDoor.noHs s.cells = true := noHs_app (words_noHs _) (noHs_app (bts_noHs _) rfl)
theorem SpD.len {s : SpD} (h : SpOk s) : s.cells.length = 162 := by
  unfold SpD.cells
  rw [List.length_append, List.length_append, words_length, bts_length, h.l.1, h.h.1]; rfl
theorem app_l {cs ds : List VV} {i : Nat} (h : i < cs.length) : (cs ++ ds)[i]? = cs[i]? := List.getElem?_append_left h
theorem app_r {cs ds : List VV} {i j : Nat} (h : j = cs.length + i) : (cs ++ ds)[j]? = ds[i]? := by
  subst h; rw [List.getElem?_append_right (by omega)]; congr 1; omega
theorem set_l {cs ds : List VV} {i : Nat} {x : VV} (h : i < cs.length) : (cs ++ ds).set i x = cs.set i x ++ ds := List.set_append_left _ _ h
theorem set_r {cs ds : List VV} {i j : Nat} {x : VV} (h : j = cs.length + i) : (cs ++ ds).set j x = cs ++ ds.set i x := by
  subst h; rw [List.set_append_right _ _ (by omega)]; congr 2; omega
theorem held_ix {l h : List Nat} {r : List VV} {i j : Nat} (hl : l.length = 25) (hj : j = 25 + i) (hi : i < h.length) : (words l ++ (bts h ++ r))[j]? = some (nI .u8 ((h.getD i 0 : Nat) : Int)) := by
  rw [app_r (cs := words l) (i := i) (by rw [words_length, hl]; exact hj), app_l (by rw [bts_length]; exact hi)]
  exact bts_ix rfl hi
theorem lane_ix {l : List Nat} {r : List VV} {i j : Nat} (hj : j = i) (hi : i < l.length) : (words l ++ r)[j]? = some (nI .u64 ((l.getD i 0 : Nat) : Int)) := by
  subst hj
  rw [app_l (by rw [words_length]; exact hi)]
  exact words_ix rfl hi
theorem getD_b {l : List Nat} {n : Nat} (h : B8 l n) (i : Nat) : l.getD i 0 < 256 := getD_lt (by decide) h.2 i
theorem B8_set {l : List Nat} {n : Nat} (h : B8 l n) (i : Nat) {x : Nat} (hx : x < 256) : B8 (l.set i x) n := by
  refine ⟨by rw [List.length_set]; exact h.1, fun y hy => ?_⟩
  rcases List.mem_or_eq_of_mem_set hy with h1 | h1
  · exact h.2 y h1
  · rw [h1]; exact hx
theorem n_ix {l h : List Nat} {x : VV} {j : Nat} (hl : l.length = 25) (hh : h.length = 136) (hj : j = 161) : (words l ++ (bts h ++ [x]))[j]? = some x := by
  rw [app_r (cs := words l) (i := 136) (by rw [words_length, hl]; exact hj), app_r (cs := bts h) (i := 0) (by rw [bts_length, hh])]
  rfl
theorem load_sub {t : TypeId} {r : TR} {cs ds : List VV} {off : Nat} (hr : Γ t = some r) (ha : r.d.agg = true) (hl : off + r.size ≤ cs.length) (hd : (cs.drop off).take r.size = ds) : vload Γ t cs off = some (.agg ds) := by
  unfold vload
  rw [hr]
  simp only [ha]
  split
  · rename_i hw
    have := whole_of hw
    rw [← this.1] at hd
    rw [hd]
  · rw [show Nat.ble (off + r.size) cs.length = true from by simpa using hl]
    simp only []
    rw [hd]
theorem held_mid {l h : List Nat} {r : List VV} {n m : Nat} (hl : l.length = n) (hh : h.length = m) : ((words l ++ (bts h ++ r)).drop n).take m = bts h := by
  subst hl hh
  rw [List.drop_left' (words_length l), List.take_left' (bts_length h)]
theorem lane_mid {l : List Nat} {r : List VV} {m : Nat} (hl : l.length = m) : ((words l ++ r).drop 0).take m = words l := by
  subst hl
  rw [List.drop_zero, List.take_left' (words_length l)]
theorem conv_slE {ren : List (Nat × Option Nat)} {lkF : Nat → Option (List VV)} {h h' off off' n n' wd wd' : Nat} (hr : lkr ren h' = some (some h)) (e1 : off = off') (e2 : n = n') (e3 : wd = wd') : Conv ren lkF (.sl h off n wd) (.sl h' off' n' wd') := by subst e1 e2 e3; exact .sl hr
theorem lane_set {L : List Nat} {r : List VV} {i j x : Nat} (hj : j = i) (hi : i < L.length) : (words L ++ r).set j (VV.v (.int .u64 (x : Int))) = words (L.set i x) ++ r := by
  subst hj
  rw [set_l (by rw [words_length]; exact hi), splice_words rfl hi]
theorem held_set {l h : List Nat} {r : List VV} {i j x : Nat} (hl : l.length = 25) (hj : j = 25 + i) (hi : i < h.length) : (words l ++ (bts h ++ r)).set j (VV.v (.int .u8 (x : Int))) = words l ++ (bts (h.set i x) ++ r) := by
  rw [set_r (cs := words l) (i := i) (by rw [words_length, hl]; exact hj), set_l (by rw [bts_length]; exact hi), splice_bts rfl hi]
theorem vpure_build1 {t : TypeId} {x : Operand} {ev : Operand → VV} {r : TR} {fs : List (Nat × TypeId)} {pl : List (Nat × Nat)} {n : Nat} {new z0 rest : List VV} (ht : Γ t = some r) (hd : r.d = .struct fs) (hp : vplaces Γ fs = some pl) (h0 : pl[0]? = some (0, n))
    (hx : ev x = .agg new) (hn : new.length = n) (hz : r.zero = z0 ++ rest) (hz0 : z0.length = n) : vpure Γ (.build t #[(0, x)]) ev = some (.agg (new ++ rest)) := by
  show vbuild Γ t [(0, ev x)] = _
  unfold vbuild
  simp only [ht, hd, hp, hx, vfill, h0, cellsOf]
  rw [if_pos ⟨hn, by rw [hz, List.length_append]; omega⟩]
  simp only [splice, List.take_zero, List.nil_append, Nat.zero_add, hz]
  rw [List.drop_left' (by omega)]
theorem check_fn {s : SpD} (h : SpOk s) : FnV Tryd.prog G0 43 [s.v] (nI .i64 0) := by
  have hl := s.len h
  obtain ⟨h1, h2, h3, h4⟩ := h
  unfold SpD.v SpD.cells at *
  refine fn_of_vwp Γok Tryd.func43 (by kernel_rfl) rfl (by simp [Tryd.ntmps43]) (wpv_ok Γok (by kernel_rfl) _ _ _ ?_); conv => whnf
  refine bindP_intro (n_ix h1.1 h2.1 (by rfl)) ?_
  conv => whnf
  try (refine ⟨by kernel_rfl, ?_⟩; conv => whnf)
  rw [decide_eq_false (show ¬ (s.n : Int) < 0 by omega)]
  conv => whnf
  try (refine ⟨by kernel_rfl, ?_⟩; conv => whnf)
  refine bindP_intro (n_ix h1.1 h2.1 (by rfl)) ?_
  conv => whnf
  try (refine ⟨by kernel_rfl, ?_⟩; conv => whnf)
  rw [decide_eq_false (show ¬ (s.n : Int) ≥ 136 by omega)]
  conv => whnf
  try (refine ⟨by kernel_rfl, ?_⟩; conv => whnf)
  refine bindP_intro (n_ix h1.1 h2.1 (by rfl)) ?_
  conv => whnf
  try (refine ⟨by kernel_rfl, ?_⟩; conv => whnf)
  refine onlyIf_intro (by simp [words_length, bts_length, h1.1, h2.1, maxLen] <;> omega) ?_
  conv => whnf
  try (refine ⟨by kernel_rfl, ?_⟩; conv => whnf)
  refine vloop_invK G0ok [(0, some 0)] 1 (X := Nat) (fun j => [(18, nI .i64 j), (17, nI .i64 ((136 - s.n : Nat) : Int)), (16, .sl 0 (25 + s.n) (136 - s.n) 1), (2, nI .i64 0), (1, .ptr 0 0)])
    (fun j => [(0, some (words s.l ++ (bts s.h ++ [nI .i64 (s.n : Int)])))]) (fun j => j ≤ 136 - s.n) (fun j => 136 - s.n - j) 0 rfl ⟨⟨_, rfl, conv_nI (rfl)⟩, ⟨_, rfl, conv_nI (rfl)⟩, ⟨_, rfl, conv_slE rfl (by dsimp only; rw [if_neg (by omega)]; omega) (by dsimp only; omega) rfl⟩, ⟨_, rfl, conv_nI (rfl)⟩, ⟨_, rfl, .ptr rfl⟩, trivial⟩ ⟨.inr ⟨_, _, rfl, rfl, convs_eq rfl (SpD.noHs s)⟩, trivial⟩ (Nat.zero_le _) ?_
  intro j hj
  (try dsimp only at hj); (try dsimp only)
  refine wpv_ok Γok (by kernel_rfl) _ _ _ ?_; conv => whnf
  refine bool_cases (fun hc => ?_) (fun hc => ?_)
  · have hc := of_decide_eq_true hc
    conv => whnf
    try (refine ⟨by kernel_rfl, ?_⟩; conv => whnf)
    refine bindP_intro (if_pos (inB_ok (by omega) (by omega))) ?_; conv => whnf
    refine bindP_intro (held_ix (i := s.n + j) h1.1 (by dsimp only; omega) (by rw [h2.1]; omega)) ?_
    rw [h4 (s.n + j) (by omega) (by omega)]
    conv => whnf
    try (refine ⟨by kernel_rfl, ?_⟩; conv => whnf)
    refine next_round (y := j) G0ok (j + 1) [(0, some 0)] rfl ⟨⟨_, rfl, conv_nI (ws_i64 (by omega) (by omega))⟩, ⟨_, rfl, conv_nI (rfl)⟩, ⟨_, rfl, conv_slE rfl rfl rfl rfl⟩, ⟨_, rfl, conv_nI (rfl)⟩, ⟨_, rfl, .ptr rfl⟩, trivial⟩ ⟨.inr ⟨_, _, rfl, rfl, convs_eq rfl (SpD.noHs s)⟩, trivial⟩ (by omega) (by omega)
  · conv => whnf
    try (refine ⟨by kernel_rfl, ?_⟩; conv => whnf)
    exact ⟨_, rfl, rfl⟩
noncomputable def soTo (l h : List Nat) : Nat → List Nat
  | 0 => l
  | i + 1 => (soTo l h i).set (i / 8) (xo ((soTo l h i).getD (i / 8) 0) (h.getD i 0 * 2 ^ (8 * (i % 8))))
theorem soTo_ok {l h : List Nat} (hl : L64 l 25) (hh : B8 h 136) : ∀ i, L64 (soTo l h i) 25
  | 0 => hl
  | i + 1 => L64_set (soTo_ok hl hh i) _ (xo_lt (L64_get (soTo_ok hl hh i) _) (by
      have h1 := getD_b hh i
      have h2 : 2 ^ (8 * (i % 8)) ≤ 2 ^ 56 := Nat.pow_le_pow_right (by decide) (by omega)
      have h3 : h.getD i 0 * 2 ^ (8 * (i % 8)) ≤ 255 * 2 ^ 56 := Nat.mul_le_mul (by omega) h2
      unfold W64
      omega))
noncomputable def soF (l h : List Nat) : List Nat := hid (soTo l h 136)
theorem soF_ok {l h : List Nat} (hl : L64 l 25) (hh : B8 h 136) : L64 (soF l h) 25 := by unfold soF; rw [hid_eq]; exact soTo_ok hl hh 136
def zB (n : Nat) : List Nat := List.replicate n 0
noncomputable def soakS (l h : List Nat) : SpD := ⟨turnS (soF l h), zB 136, 0⟩
theorem soak_fn {l h : List Nat} {n : Nat} (hl : L64 l 25) (hh : B8 h 136) : FnV Tryd.prog G0 44 [(SpD.mk l h n).v] (soakS l h).v := by
  unfold soakS SpD.v SpD.cells
  dsimp only
  refine fn_of_vwp Γok Tryd.func44 (by kernel_rfl) rfl (by simp [Tryd.ntmps44]) (wpv_ok Γok (by kernel_rfl) _ _ _ ?_); conv => whnf
  refine bindP_intro (load_sub rfl rfl (by rw [List.length_append, List.length_append, words_length, bts_length, hl.1, hh.1]; exact (by decide : 25 + 136 ≤ 25 + (136 + 1))) (held_mid hl.1 hh.1)) ?_
  conv => whnf
  try (refine ⟨by kernel_rfl, ?_⟩; conv => whnf)
  refine vloop_invK G0ok [(0, some 0), (1, some 1)] 2 (X := Nat) (fun j => [(7, nI .i64 j), (6, .agg (bts h)), (2, .ptr 1 0), (1, .ptr 0 0)])
    (fun j => [(0, some (words (soTo l h j) ++ (bts h ++ [nI .i64 (n : Int)]))), (1, some (words (zB 25) ++ (bts (zB 136) ++ [nI .i64 0])))]) (fun j => j ≤ 136) (fun j => 136 - j) 0 rfl ⟨⟨_, rfl, conv_nI (rfl)⟩, ⟨_, rfl, .same (bts_noHs _)⟩, ⟨_, rfl, .ptr rfl⟩, ⟨_, rfl, .ptr rfl⟩, trivial⟩ ⟨.inr ⟨_, _, rfl, rfl, convs_eq rfl (SpD.noHs ⟨l, h, n⟩)⟩, .inr ⟨_, _, rfl, rfl, convs_eq rfl (SpD.noHs ⟨zB 25, zB 136, 0⟩)⟩, trivial⟩ (Nat.zero_le _) ?_
  intro j hj
  (try dsimp only at hj); (try dsimp only)
  have hS := soTo_ok hl hh j
  refine wpv_ok Γok (by kernel_rfl) _ _ _ ?_; conv => whnf
  refine bool_cases (fun hc => ?_) (fun hc => ?_)
  · have hc := of_decide_eq_true hc
    have hc8 := getD_b hh j
    have h2p : 2 ^ (8 * (j % 8)) ≤ 2 ^ 56 := Nat.pow_le_pow_right (by decide) (by omega)
    have h3p : h.getD j 0 * 2 ^ (8 * (j % 8)) ≤ 255 * 2 ^ 56 := Nat.mul_le_mul (by omega) h2p
    have e8 : wS .i64 (8 * (j : Int).tmod 8) = ((8 * (j % 8) : Nat) : Int) := by
      rw [Int.tmod_eq_emod_of_nonneg (by omega), ws_i64 (by omega) (by omega)]; omega
    have es : wS .u64 (((h.getD j 0 : Nat) : Int) * 2 ^ min ((8 * (j % 8) : Nat) : Int).toNat IntKind.u64.bits) = ((h.getD j 0 * 2 ^ (8 * (j % 8)) : Nat) : Int) := by
      rw [shl_val (k := .u64) (n := 8 * (j % 8)) (by simp only [IntKind.bits]; omega), ← Int.natCast_mul]
      exact u64_wrap (by omega)
    conv => whnf
    try (refine ⟨by kernel_rfl, ?_⟩; conv => whnf)
    refine bindP_intro (vpure_index (vindex_at (n := 136) (i := j) rfl rfl rfl rfl (by omega) (bts_ix rfl (by rw [hh.1]; omega)))) ?_
    conv => whnf
    try (refine ⟨by kernel_rfl, ?_⟩; conv => whnf)
    rw [Int.tdiv_eq_ediv_of_nonneg (by omega), ws_i64 (x := (j : Int) / 8) (by omega) (by omega), show (j : Int) / 8 = ((j / 8 : Nat) : Int) from by omega]
    conv => whnf
    try (refine ⟨by kernel_rfl, ?_⟩; conv => whnf)
    refine bindP_intro (if_pos (inB_ok (by omega) (by omega))) ?_; conv => whnf
    refine bindP_intro (lane_ix (i := j / 8) (by dsimp only; omega) (by rw [hS.1]; omega)) ?_
    conv => whnf
    try (refine ⟨by kernel_rfl, ?_⟩; conv => whnf)
    rw [e8, ws_u64n (x := ((h.getD j 0 : Nat) : Int)) (by omega) (by omega)]
    conv => whnf
    try (refine ⟨by kernel_rfl, ?_⟩; conv => whnf)
    rw [es, u64_xor (L64_get hS _) (by omega), ← xo_def]
    conv => whnf
    try (refine ⟨by kernel_rfl, ?_⟩; conv => whnf)
    refine bindP_intro (if_pos (inB_ok (by omega) (by omega))) ?_; conv => whnf
    refine onlyIf_intro (by simp [words_length, bts_length, hS.1, hh.1] <;> omega) ?_
    conv => whnf
    try (refine ⟨by kernel_rfl, ?_⟩; conv => whnf)
    refine next_round (y := j) G0ok (j + 1) [(0, some 0), (1, some 1)] rfl ⟨⟨_, rfl, conv_nI (ws_i64 (by omega) (by omega))⟩, ⟨_, rfl, .same (bts_noHs _)⟩, ⟨_, rfl, .ptr rfl⟩, ⟨_, rfl, .ptr rfl⟩, trivial⟩ ⟨.inr ⟨_, _, rfl, rfl, convs_eq (lane_set (by dsimp only; omega) (by rw [hS.1]; omega)) (SpD.noHs ⟨_, h, n⟩)⟩, .inr ⟨_, _, rfl, rfl, convs_eq rfl (SpD.noHs ⟨zB 25, zB 136, 0⟩)⟩, trivial⟩ (by omega) (by omega)
  · have eS : soTo l h j = soF l h := by unfold soF; rw [hid_eq, show j = 136 by have := of_decide_eq_false hc; omega]
    rw [eS] at hS ⊢
    clear eS hc hj
    refine gen_ex (soF l h) fun L eL => ?_
    rw [← eL] at hS ⊢
    have tf := turn_fn hS
    clear eL
    conv => whnf
    try (refine ⟨by kernel_rfl, ?_⟩; conv => whnf)
    refine bindP_intro (load_sub rfl rfl (by rw [List.length_append, List.length_append, words_length, bts_length, hS.1, hh.1]; exact (by decide : 0 + 25 ≤ 25 + (136 + 1))) (lane_mid hS.1)) ?_
    conv => whnf
    try (refine ⟨by kernel_rfl, ?_⟩; conv => whnf)
    refine ⟨_, ret_of_fn G0ok (tf) (by first | rfl | simp only [noHs, noH, nI, bI, Bool.and_self, Bool.and_true, Bool.true_and, words_noHs]) (by first | rfl | simp only [noHs, noH, nI, bI, Bool.and_self, Bool.and_true, Bool.true_and, words_noHs]), ?_⟩; (conv => whnf); (try (refine ⟨by kernel_rfl, ?_⟩; conv => whnf))
    refine bindP_intro (vpure_build1 (n := 25) (z0 := words (zB 25)) (rest := bts (zB 136) ++ [nI .i64 0]) rfl rfl rfl rfl rfl (by rw [words_length]; exact (turnS_ok hS).1) rfl rfl) ?_
    conv => whnf
    try (refine ⟨by kernel_rfl, ?_⟩; conv => whnf)
    have lT : (words (turnS L) ++ (bts (zB 136) ++ [nI .i64 0])).length = 162 := by rw [List.length_append, List.length_append, words_length, bts_length, (turnS_ok hS).1]; rfl
    refine onlyIf_intro (by rw [lT]; rfl) ?_
    conv => whnf
    try (refine ⟨by kernel_rfl, ?_⟩; conv => whnf)
    exact ⟨_, vres_one rfl (vres_cell rfl rfl (load_agg rfl rfl lT)), deepV_noH _ _ (SpD.noHs ⟨turnS L, zB 136, 0⟩)⟩
end Go.Proofs.YtidkdlaihmpjfaaDoor
