/- sign.secret, Point, KeyOf by the engine. -/
import Derived.Test.YtidkdlaihmpjfaaDoorVSpAdd
import Derived.Test.YtidkdlaihmpjfaaDoorVMult
namespace Go.Proofs.YtidkdlaihmpjfaaDoor
set_option linter.unusedVariables false
set_option linter.unusedSimpArgs false
set_option linter.unusedSectionVars false
open Go.ChangeShapes Go.WideShapes Go.ChangeAt Go.RowKit Go.Joins
set_option maxRecDepth 10000
noncomputable def secB (c : CvD) (d : Nat) : Bool := !decide (d = 0) && decide (d < c.N)
theorem secret_ok {c : CvD} {d : Nat} (hN : c.N < T256) (h0 : 0 < d) (h : d < c.N) : FnV Tryd.prog G0 50 [c.v, uV d] (bI true) := by
  have nz := ne_zero (a := d) (by omega)
  rw [decide_eq_false (show ¬ d = 0 by omega)] at nz
  have c1 := cmp_fn (a := d) (b := c.N) (by omega) hN
  rw [cmpN_lt h] at c1
  unfold CvD.v CvD.cells
  refine fn_of_vwp Γok Tryd.func50 (by kernel_rfl) rfl (by simp [Tryd.ntmps50]) (wpv_ok Γok (by kernel_rfl) _ _ _ ?_); conv => whnf
  refine ⟨_, nz, ?_⟩
  conv => whnf
  try (refine ⟨by kernel_rfl, ?_⟩; conv => whnf)
  refine ⟨_, ret_of_fn G0ok (c1) (by first | rfl | simp only [noHs, noH, nI, bI, Bool.and_self, Bool.and_true, Bool.true_and, ]) (by first | rfl | simp only [noHs, noH, nI, bI, Bool.and_self, Bool.and_true, Bool.true_and, ]), ?_⟩; (conv => whnf); (try (refine ⟨by kernel_rfl, ?_⟩; conv => whnf))
  exact ⟨_, rfl, rfl⟩
theorem spoint_ok {c : CvD} (g : Good c) {d : Nat} (h0 : 0 < d) (h : d < c.N) {e : Nat → PtD} (hb : OnP c c.base) (he : Steps2 c c.base d e) : FnV Tryd.prog G0 25 [c.v, uV d] (.tup [(e d).v, nI .i64 0]) := by
  have k := chk_ok g
  have s := secret_ok g.N h0 h
  have hN := g.N
  have m := mult_ok g hb (k := d) (by omega) he
  unfold CvD.base at m
  unfold CvD.v CvD.cells PtD.v PtD.cells at *
  dsimp only at *
  refine fn_of_vwp Γok Tryd.func25 (by kernel_rfl) rfl (by simp [Tryd.ntmps25]) (wpv_ok Γok (by kernel_rfl) _ _ _ ?_); conv => whnf
  refine ⟨_, ret_of_fn G0ok (k) (by first | rfl | simp only [noHs, noH, nI, bI, Bool.and_self, Bool.and_true, Bool.true_and, ]) (by first | rfl | simp only [noHs, noH, nI, bI, Bool.and_self, Bool.and_true, Bool.true_and, ]), ?_⟩; (conv => whnf); (try (refine ⟨by kernel_rfl, ?_⟩; conv => whnf))
  refine ⟨_, ret_of_fn G0ok (s) (by first | rfl | simp only [noHs, noH, nI, bI, Bool.and_self, Bool.and_true, Bool.true_and, ]) (by first | rfl | simp only [noHs, noH, nI, bI, Bool.and_self, Bool.and_true, Bool.true_and, ]), ?_⟩; (conv => whnf); (try (refine ⟨by kernel_rfl, ?_⟩; conv => whnf))
  refine ⟨_, ret_of_fn G0ok (m) (by first | rfl | simp only [noHs, noH, nI, bI, Bool.and_self, Bool.and_true, Bool.true_and, ]) (by first | rfl | simp only [noHs, noH, nI, bI, Bool.and_self, Bool.and_true, Bool.true_and, ]), ?_⟩; (conv => whnf); (try (refine ⟨by kernel_rfl, ?_⟩; conv => whnf))
  exact ⟨_, rfl, rfl⟩
/-- The bytes of a number, the highest one first. -/
noncomputable def nB (n : Nat) : List Nat := hid (btsTo [lim n 0, lim n 1, lim n 2, lim n 3] 32)
theorem nB_len (n : Nat) : (nB n).length = 32 := by unfold nB; rw [hid_eq, btsTo_length]
theorem nB_lt (n : Nat) : ∀ x ∈ nB n, x < 256 := by
  intro x hx
  unfold nB at hx
  rw [hid_eq] at hx
  obtain ⟨j, _, rfl⟩ := List.mem_map.1 hx
  split
  · unfold bt; omega
  · decide
theorem nbytes_fn (n : Nat) : FnV Tryd.prog G0 52 [uV n] (.agg (bts (nB n))) := by
  have := bytes_fn [lim n 0, lim n 1, lim n 2, lim n 3] rfl (by
    intro x hx
    have h := fun i => lim_lt n i
    rw [B64_eq] at h
    simp only [List.mem_cons, List.not_mem_nil, or_false] at hx
    rcases hx with rfl | rfl | rfl | rfl <;> exact h _)
  unfold nB
  rw [hid_eq]
  exact this
theorem view_sub {lkf : Nat → Option (List VV)} {h off n wd : Nat} {cs ds : List VV} (h1 : lkf h = some cs) (h2 : off + n * wd ≤ cs.length) (h3 : (cs.drop off).take (n * wd) = ds) : view lkf (.sl h off n wd) = some ([h], n, ds) := by
  unfold view
  simp only [h1]
  split
  · rename_i hw
    have := whole_of hw
    rw [← this.1] at h3
    rw [h3]
  · rw [show Nat.ble (off + n * wd) cs.length = true from by simpa using h2]
    simp only []
    rw [h3]
/-- The key of a point. -/
noncomputable def keyB (p : PtD) : List Nat := (kSum (nB p.x ++ nB p.y)).drop 12
theorem kS_len (l : List Nat) : (kSum l).length = 32 := by unfold kSum spEnd; rw [hid_eq, outB_len]
theorem keyB_len (p : PtD) : (keyB p).length = 20 := by unfold keyB; rw [List.length_drop, kS_len]
theorem load_agg' {t : TypeId} {r : TR} {cs ds : List VV} (h : cs = ds) (hr : Γ t = some r) (ha : r.d.agg = true) (hs : ds.length = r.size) : vload Γ t cs 0 = some (.agg ds) := by subst h; exact load_agg hr ha hs
theorem keyOf_fn (p : PtD) : FnV Tryd.prog G0 26 [p.v] (.agg (bts (keyB p))) := by
  have b1 := nbytes_fn p.x
  have b2 := nbytes_fn p.y
  have l1 := nB_len p.x
  have l2 := nB_len p.y
  have s := sum_fn (l := nB p.x ++ nB p.y) (fun x hx => (List.mem_append.1 hx).elim (nB_lt _ x) (nB_lt _ x)) (by rw [List.length_append, l1, l2]; decide) false
  have lK : (bts (kSum (nB p.x ++ nB p.y))).length = 32 := by rw [bts_length, kS_len]
  unfold PtD.v PtD.cells
  refine fn_of_vwp Γok Tryd.func26 (by kernel_rfl) rfl (by simp [Tryd.ntmps26]) (wpv_ok Γok (by kernel_rfl) _ _ _ ?_); conv => whnf
  refine ⟨_, ret_of_fn G0ok (b1) (by first | rfl | simp only [noHs, noH, nI, bI, Bool.and_self, Bool.and_true, Bool.true_and, bts_noHs]) (by first | rfl | simp only [noHs, noH, nI, bI, Bool.and_self, Bool.and_true, Bool.true_and, bts_noHs]), ?_⟩; (conv => whnf); (try (refine ⟨by kernel_rfl, ?_⟩; conv => whnf))
  refine ⟨_, ret_of_fn G0ok (b2) (by first | rfl | simp only [noHs, noH, nI, bI, Bool.and_self, Bool.and_true, Bool.true_and, bts_noHs]) (by first | rfl | simp only [noHs, noH, nI, bI, Bool.and_self, Bool.and_true, Bool.true_and, bts_noHs]), ?_⟩; (conv => whnf); (try (refine ⟨by kernel_rfl, ?_⟩; conv => whnf))
  have m1 : (bts (nB p.x)).length = 32 := by rw [bts_length, l1]
  have m2 : (bts (nB p.y)).length = 32 := by rw [bts_length, l2]
  refine onlyIf_intro (by rw [m1]; rfl) ?_
  conv => whnf
  try (refine ⟨by kernel_rfl, ?_⟩; conv => whnf)
  refine onlyIf_intro (by rw [m2]; rfl) ?_
  conv => whnf
  try (refine ⟨by kernel_rfl, ?_⟩; conv => whnf)
  refine onlyIf_intro (by simp [m1, maxLen]) ?_
  conv => whnf
  try (refine ⟨by kernel_rfl, ?_⟩; conv => whnf)
  refine onlyIf_intro (by simp [m2, maxLen]) ?_
  conv => whnf
  try (refine ⟨by kernel_rfl, ?_⟩; conv => whnf)
  refine bindP_intro (view_whole rfl (by rw [m2]; rfl)) ?_
  conv => whnf
  try (refine ⟨by kernel_rfl, ?_⟩; conv => whnf)
  refine onlyIf_intro (by rw [m2]; rfl) ?_
  conv => whnf
  try (refine ⟨by kernel_rfl, ?_⟩; conv => whnf)
  refine onlyIf_intro (by rw [m1]; rfl) ?_
  refine .read (nB p.x ++ nB p.y).length (bts (nB p.x ++ nB p.y)) (by rw [List.length_append, l1, l2]; rfl) (by simp [bts]) (by rw [bts_length]; exact (Nat.mul_one _).symm) (bts_noHs _) ?_
  conv => whnf
  try (refine ⟨by kernel_rfl, ?_⟩; conv => whnf)
  refine ⟨_, ret_of_fn G0ok (s) (by first | rfl | simp only [noHs, noH, nI, bI, Bool.and_self, Bool.and_true, Bool.true_and, bts_noHs]) (by first | rfl | simp only [noHs, noH, nI, bI, Bool.and_self, Bool.and_true, Bool.true_and, bts_noHs]), ?_⟩; (conv => whnf); (try (refine ⟨by kernel_rfl, ?_⟩; conv => whnf))
  refine onlyIf_intro (by rw [lK]; rfl) ?_
  conv => whnf
  try (refine ⟨by kernel_rfl, ?_⟩; conv => whnf)
  refine onlyIf_intro (by simp [lK, maxLen]) ?_
  conv => whnf
  try (refine ⟨by kernel_rfl, ?_⟩; conv => whnf)
  have hk : ((bts (kSum (nB p.x ++ nB p.y))).drop 12).take (20 * 1) = bts (keyB p) := by
    unfold keyB bts
    rw [← List.map_drop, ← List.map_take, List.take_of_length_le (by rw [List.length_drop, kS_len]; decide)]
  refine bindP_intro (view_sub rfl (by rw [lK]; decide) hk) ?_
  conv => whnf
  try (refine ⟨by kernel_rfl, ?_⟩; conv => whnf)
  have lk : (bts (keyB p)).length = 20 := by rw [bts_length, keyB_len]
  refine onlyIf_intro (by rw [lk]; rfl) ?_
  conv => whnf
  try (refine ⟨by kernel_rfl, ?_⟩; conv => whnf)
  have hs : splice (List.replicate 20 (nI .u8 0)) 0 ((bts (keyB p)).take 20) = bts (keyB p) := by
    rw [List.take_of_length_le (by omega)]
    exact splice_whole (by rw [lk]; rfl)
  refine bindP_intro (load_agg' hs rfl rfl lk) ?_
  conv => whnf
  try (refine ⟨by kernel_rfl, ?_⟩; conv => whnf)
  refine onlyIf_intro (by rw [lk]; rfl) ?_
  conv => whnf
  try (refine ⟨by kernel_rfl, ?_⟩; conv => whnf)
  exact ⟨_, vres_one rfl (vres_cell rfl rfl (load_agg rfl rfl lk)), deepV_noH _ _ (bts_noHs _)⟩
end Go.Proofs.YtidkdlaihmpjfaaDoor
