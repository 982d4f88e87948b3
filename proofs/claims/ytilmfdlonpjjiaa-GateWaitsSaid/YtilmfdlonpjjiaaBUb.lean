/- load.same of two loads alike, by the engine. -/
import Derived.Test.YtilmfdlonpjjiaaBUa
import Derived.Test.YtilmfdlonpjjiaaVLaw
namespace Go.Proofs.Ytilmfdlonpjjiaa
set_option linter.unusedVariables false
set_option linter.unusedSimpArgs false
set_option linter.unusedSectionVars false
open Go.ChangeShapes Go.WideShapes Go.ChangeAt Go.RowKit Go.Joins
set_option maxRecDepth 10000
theorem lsame_fn {C D : List VV} {l : LdD} {fd fk gd gk : Bool} (c : LdC C l fd fk) (d : LdC D l gd gk) (h1 : l.amt < T256) (h2 : l.fee < T256) (h3 : l.token.length = 32) (h4 : l.to.length = 32) (h5 : ∀ x ∈ l.data, x < 256) : FnV Try.prog G0 38 [.agg C, .agg D] (bI true) := by
  have e1 := eq_uC (a := l.amt) (b := l.amt) h1 h1
  have e2 := eq_uC (a := l.fee) (b := l.fee) h2 h2
  have e3 := eq_b32 (l := l.token) (m := l.token) h3 h3
  have e4 := eq_b32 (l := l.to) (m := l.to) h4 h4
  rw [decide_eq_true rfl] at e1 e2 e3 e4
  have es := str_eq (l.sym.map fun n => n.toUInt8) (l.sym.map fun n => n.toUInt8)
  rw [decide_eq_true rfl] at es
  have ed := str_eq (l.data.map fun n => n.toUInt8) (l.data.map fun n => n.toUInt8)
  rw [decide_eq_true rfl] at ed
  refine fn_of_vwp Γok Try.func38 (by kernel_rfl) rfl (by simp [Try.ntmps38]) (wpv_ok Γok (by kernel_rfl) _ _ _ ?_); conv => whnf
  refine bindP_intro c.kind ?_
  conv => whnf
  try (refine ⟨by kernel_rfl, ?_⟩; conv => whnf)
  refine bindP_intro d.kind ?_
  conv => whnf
  try (refine ⟨by kernel_rfl, ?_⟩; conv => whnf)
  rw [show (((l.kind : Nat) : Int) == ((l.kind : Nat) : Int)) = true from beq_self_eq_true _]
  conv => whnf
  try (refine ⟨by kernel_rfl, ?_⟩; conv => whnf)
  refine bindP_intro (load_sub (ds := uC l.amt) rfl rfl (by rw [c.len]; decide) c.amt) ?_
  conv => whnf
  try (refine ⟨by kernel_rfl, ?_⟩; conv => whnf)
  refine bindP_intro (load_sub (ds := uC l.amt) rfl rfl (by rw [d.len]; decide) d.amt) ?_
  conv => whnf
  try (refine ⟨by kernel_rfl, ?_⟩; conv => whnf)
  refine ⟨true, e1, ?_⟩
  conv => whnf
  try (refine ⟨by kernel_rfl, ?_⟩; conv => whnf)
  refine bindP_intro (load_sub (ds := uC l.fee) rfl rfl (by rw [c.len]; decide) c.fee) ?_
  conv => whnf
  try (refine ⟨by kernel_rfl, ?_⟩; conv => whnf)
  refine bindP_intro (load_sub (ds := uC l.fee) rfl rfl (by rw [d.len]; decide) d.fee) ?_
  conv => whnf
  try (refine ⟨by kernel_rfl, ?_⟩; conv => whnf)
  refine ⟨true, e2, ?_⟩
  conv => whnf
  try (refine ⟨by kernel_rfl, ?_⟩; conv => whnf)
  refine bindP_intro (load_sub (ds := bts l.token) rfl rfl (by rw [c.len]; decide) c.token) ?_
  conv => whnf
  try (refine ⟨by kernel_rfl, ?_⟩; conv => whnf)
  refine bindP_intro (load_sub (ds := bts l.token) rfl rfl (by rw [d.len]; decide) d.token) ?_
  conv => whnf
  try (refine ⟨by kernel_rfl, ?_⟩; conv => whnf)
  refine ⟨true, e3, ?_⟩
  conv => whnf
  try (refine ⟨by kernel_rfl, ?_⟩; conv => whnf)
  refine bindP_intro c.home ?_
  conv => whnf
  try (refine ⟨by kernel_rfl, ?_⟩; conv => whnf)
  refine bindP_intro d.home ?_
  conv => whnf
  try (refine ⟨by kernel_rfl, ?_⟩; conv => whnf)
  rw [show (((l.home : Nat) : Int) == ((l.home : Nat) : Int)) = true from beq_self_eq_true _]
  conv => whnf
  try (refine ⟨by kernel_rfl, ?_⟩; conv => whnf)
  refine bindP_intro (load_sub (ds := bts l.to) rfl rfl (by rw [c.len]; decide) c.to) ?_
  conv => whnf
  try (refine ⟨by kernel_rfl, ?_⟩; conv => whnf)
  refine bindP_intro (load_sub (ds := bts l.to) rfl rfl (by rw [d.len]; decide) d.to) ?_
  conv => whnf
  try (refine ⟨by kernel_rfl, ?_⟩; conv => whnf)
  refine ⟨true, e4, ?_⟩
  conv => whnf
  try (refine ⟨by kernel_rfl, ?_⟩; conv => whnf)
  refine bindP_intro c.toc ?_
  conv => whnf
  try (refine ⟨by kernel_rfl, ?_⟩; conv => whnf)
  refine bindP_intro d.toc ?_
  conv => whnf
  try (refine ⟨by kernel_rfl, ?_⟩; conv => whnf)
  rw [show (((l.toc : Nat) : Int) == ((l.toc : Nat) : Int)) = true from beq_self_eq_true _]
  conv => whnf
  try (refine ⟨by kernel_rfl, ?_⟩; conv => whnf)
  refine bindP_intro c.dec ?_
  conv => whnf
  try (refine ⟨by kernel_rfl, ?_⟩; conv => whnf)
  refine bindP_intro d.dec ?_
  conv => whnf
  try (refine ⟨by kernel_rfl, ?_⟩; conv => whnf)
  rw [show (((l.dec : Nat) : Int) == ((l.dec : Nat) : Int)) = true from beq_self_eq_true _]
  conv => whnf
  try (refine ⟨by kernel_rfl, ?_⟩; conv => whnf)
  refine bindP_intro c.sym ?_
  conv => whnf
  try (refine ⟨by kernel_rfl, ?_⟩; conv => whnf)
  refine bindP_intro d.sym ?_
  conv => whnf
  try (refine ⟨by kernel_rfl, ?_⟩; conv => whnf)
  rw [es]
  conv => whnf
  try (refine ⟨by kernel_rfl, ?_⟩; conv => whnf)
  refine bindP_intro c.index ?_
  conv => whnf
  try (refine ⟨by kernel_rfl, ?_⟩; conv => whnf)
  refine bindP_intro d.index ?_
  conv => whnf
  try (refine ⟨by kernel_rfl, ?_⟩; conv => whnf)
  rw [show (((l.index : Nat) : Int) == ((l.index : Nat) : Int)) = true from beq_self_eq_true _]
  conv => whnf
  try (refine ⟨by kernel_rfl, ?_⟩; conv => whnf)
  refine bindP_intro c.data ?_
  conv => whnf
  try (refine ⟨by kernel_rfl, ?_⟩; conv => whnf)
  refine ⟨l.data.map fun n => n.toUInt8, (sym_cells h5).symm, (List.length_map _).symm, ?_⟩
  conv => whnf
  try (refine ⟨by kernel_rfl, ?_⟩; conv => whnf)
  refine bindP_intro d.data ?_
  conv => whnf
  try (refine ⟨by kernel_rfl, ?_⟩; conv => whnf)
  refine ⟨l.data.map fun n => n.toUInt8, (sym_cells h5).symm, (List.length_map _).symm, ?_⟩
  conv => whnf
  try (refine ⟨by kernel_rfl, ?_⟩; conv => whnf)
  rw [ed]
  conv => whnf
  try (refine ⟨by kernel_rfl, ?_⟩; conv => whnf)
  refine bindP_intro c.keys ?_
  conv => whnf
  try (refine ⟨by kernel_rfl, ?_⟩; conv => whnf)
  refine bindP_intro d.keys ?_
  conv => whnf
  try (refine ⟨by kernel_rfl, ?_⟩; conv => whnf)
  rw [show (((l.keys.length : Nat) : Int) == ((l.keys.length : Nat) : Int)) = true from beq_self_eq_true _]
  conv => whnf
  try (refine ⟨by kernel_rfl, ?_⟩; conv => whnf)
  exact ⟨_, rfl, rfl⟩
end Go.Proofs.Ytilmfdlonpjjiaa
namespace Go.Proofs.Ytilmfdlonpjjiaa
set_option linter.unusedVariables false
set_option linter.unusedSimpArgs false
set_option linter.unusedSectionVars false
open Go.ChangeShapes Go.WideShapes Go.ChangeAt Go.RowKit Go.Joins
set_option maxRecDepth 10000
noncomputable def ldT (fd fk : Bool) (l : LdD) : List VV := [nI .i64 l.toc, nI .i64 l.dec, .v (.string ⟨(l.sym.map fun n => n.toUInt8).toArray⟩), .ds fd l.data.length (bts l.data), nI .i64 l.index, .ds fk l.keys.length (rows bts l.keys)]
/-- The cells of a load, one behind the other. -/
noncomputable def ldC (fd fk : Bool) (l : LdD) : List VV := (nI .i64 l.kind :: (uC l.amt ++ uC l.fee)) ++ (bts l.token ++ (nI .i64 l.home :: (bts l.to ++ ldT fd fk l)))
theorem ldC_noHs (fd fk : Bool) (l : LdD) : noHs (ldC fd fk l) = true := by
  unfold ldC ldT
  simp only [noHs_append, noHs, noH, nI, bts_noHs, rows_noHs bts_noHs, Bool.and_self, Bool.and_true, Bool.true_and, List.cons_append]
  rfl
theorem ldC_ok {fd fk : Bool} {l : LdD} (h1 : l.token.length = 32) (h2 : l.to.length = 32) : LdC (ldC fd fk l) l fd fk := by
  have t1 : (bts l.token).length = 32 := by rw [bts_length, h1]
  have t2 : (bts l.to).length = 32 := by rw [bts_length, h2]
  have a9 : (nI .i64 l.kind :: (uC l.amt ++ uC l.fee)).length = 9 := rfl
  have e41 : ∀ i, (ldC fd fk l)[41 + i]? = (nI .i64 l.home :: (bts l.to ++ ldT fd fk l))[i]? := fun i => by
    unfold ldC
    rw [List.getElem?_append_right (by rw [a9]; omega), a9, List.getElem?_append_right (by rw [t1]; omega), t1]
    congr 1
    omega
  have e74 : ∀ i, (ldC fd fk l)[74 + i]? = (ldT fd fk l)[i]? := fun i => by
    rw [show 74 + i = 41 + (33 + i) by omega, e41, show 33 + i = (32 + i) + 1 by omega, List.getElem?_cons_succ, List.getElem?_append_right (by rw [t2]; omega), t2]
    congr 1
    omega
  have d9 : (ldC fd fk l).drop 9 = bts l.token ++ (nI .i64 l.home :: (bts l.to ++ ldT fd fk l)) := by
    unfold ldC
    rw [List.drop_append, a9]
    rfl
  refine ⟨?_, ldC_noHs _ _ _, rfl, rfl, rfl, ?_, e41 0, ?_, e74 0, e74 1, e74 2, e74 3, e74 4, e74 5⟩
  · unfold ldC ldT
    simp only [List.length_append, List.length_cons, t1, t2, List.length_nil]
    rfl
  · rw [d9, List.take_append_of_le_length (by omega), List.take_of_length_le (by omega)]
  · rw [show (ldC fd fk l).drop 42 = ((ldC fd fk l).drop 9).drop 33 by rw [List.drop_drop], d9, List.drop_append, List.drop_eq_nil_of_le (by omega), List.nil_append, t1]
    show ((bts l.to ++ ldT fd fk l)).take 32 = _
    rw [List.take_append_of_le_length (by omega), List.take_of_length_le (by omega)]
theorem fill_next {place : Nat → Option (Nat × Nat)} {A z cs r : List VV} {i off n g : Nat} {v : VV} {rest : List (Nat × VV)} (h1 : place i = some (off, n)) (h2 : cellsOf v = some cs) (h3 : cs.length = n) (h4 : off = A.length + g) (h5 : g + n ≤ z.length)
    (h6 : vfill place (((A ++ z.take g) ++ cs) ++ z.drop (g + n)) rest = some r) : vfill place (A ++ z) ((i, v) :: rest) = some r := by
  unfold vfill
  simp only [h1, h2]
  have e : splice (A ++ z) off cs = ((A ++ z.take g) ++ cs) ++ z.drop (g + n) := by
    unfold splice
    rw [h4, List.take_length_add_append, h3, show A.length + g + n = A.length + (g + n) by omega, List.drop_length_add_append]
    simp only [List.append_assoc]
  rw [if_pos ⟨h3, by rw [List.length_append]; omega⟩, e]
  exact h6
theorem fill_z {place : Nat → Option (Nat × Nat)} {Z R : List VV} {L : List (Nat × VV)} (h : ∀ Z' : List VV, Z'.length = 80 → (Z'.drop 75).take 2 = [nI .i64 0, .v (.string ByteArray.empty)] → Z'.drop 78 = [nI .i64 0, .ds true 0 []] → vfill place ([] ++ Z') L = some R) (h1 : Z.length = 80) (h2 : (Z.drop 75).take 2 = [nI .i64 0, .v (.string ByteArray.empty)]) (h3 : Z.drop 78 = [nI .i64 0, .ds true 0 []]) : vfill place Z L = some R := h Z h1 h2 h3
theorem vpure_build {t : TypeId} {ps : Array (Nat × Operand)} {ev : Operand → VV} {r : TR} {fs : List (Nat × TypeId)} {pl : List (Nat × Nat)} {L : List (Nat × VV)} {R : List VV} (ht : Γ t = some r) (hd : r.d = .struct fs) (hp : vplaces Γ fs = some pl) (hL : ps.toList.map (fun (i, x) => (i, ev x)) = L) (h : vfill (fun i => pl[i]?) r.zero L = some R) : vpure Γ (.build t ps) ev = some (.agg R) := by
  show vbuild Γ t (ps.toList.map fun (i, x) => (i, ev x)) = _
  rw [hL]
  unfold vbuild
  simp only [ht, hd, hp, h]
theorem tbare_fn {C : List VV} {l : LdD} {fd fk p : Bool} (c : LdC C l fd fk) (h1 : l.token.length = 32) (h2 : l.to.length = 32) (r : l.dec = 0 ∧ l.sym = [] ∧ l.index = 0 ∧ l.keys = []) : FnV Try.prog G0 98 [.agg [bI p], .agg C] (.agg (ldC fd true l)) := by
  refine fn_of_vwp Γok Try.func98 (by kernel_rfl) rfl (by simp [Try.ntmps98]) (wpv_ok Γok (by kernel_rfl) _ _ _ ?_); conv => whnf
  refine bindP_intro c.kind ?_
  conv => whnf
  try (refine ⟨by kernel_rfl, ?_⟩; conv => whnf)
  refine bindP_intro (load_sub (ds := uC l.amt) rfl rfl (by rw [c.len]; decide) c.amt) ?_
  conv => whnf
  try (refine ⟨by kernel_rfl, ?_⟩; conv => whnf)
  refine bindP_intro (load_sub (ds := uC l.fee) rfl rfl (by rw [c.len]; decide) c.fee) ?_
  conv => whnf
  try (refine ⟨by kernel_rfl, ?_⟩; conv => whnf)
  refine bindP_intro (load_sub (ds := bts l.token) rfl rfl (by rw [c.len]; decide) c.token) ?_
  conv => whnf
  try (refine ⟨by kernel_rfl, ?_⟩; conv => whnf)
  refine bindP_intro c.home ?_
  conv => whnf
  try (refine ⟨by kernel_rfl, ?_⟩; conv => whnf)
  refine bindP_intro (load_sub (ds := bts l.to) rfl rfl (by rw [c.len]; decide) c.to) ?_
  conv => whnf
  try (refine ⟨by kernel_rfl, ?_⟩; conv => whnf)
  refine bindP_intro c.toc ?_
  conv => whnf
  try (refine ⟨by kernel_rfl, ?_⟩; conv => whnf)
  refine bindP_intro c.data ?_
  conv => whnf
  try (refine ⟨by kernel_rfl, ?_⟩; conv => whnf)
  have t1 : (bts l.token).length = 32 := by rw [bts_length, h1]
  have t2 : (bts l.to).length = 32 := by rw [bts_length, h2]
  refine bindP_intro (vpure_build (R := ldC fd true l) rfl rfl rfl rfl ?_) ?_
  · refine fill_z (Z := _) (R := ldC fd true l) (fun Z hl z1 z2 => ?_) rfl rfl rfl
    have ul : ∀ n, (uC n).length = 4 := fun n => rfl
    refine fill_next (A := []) (z := Z) (g := 0) rfl rfl rfl rfl (by simp [hl]) ?_
    refine fill_next (g := 0) rfl rfl rfl (by simp) (by simp [hl]) ?_
    refine fill_next (g := 0) rfl rfl rfl (by simp [ul]) (by simp [hl]) ?_
    refine fill_next (g := 0) rfl rfl t1 (by simp [ul]) (by simp [hl]) ?_
    refine fill_next (g := 0) rfl rfl rfl (by simp [ul, t1]) (by simp [hl]) ?_
    refine fill_next (g := 0) rfl rfl t2 (by simp [ul, t1]) (by simp [hl]) ?_
    refine fill_next (g := 0) rfl rfl rfl (by simp [ul, t1, t2]) (by simp [hl]) ?_
    refine fill_next (g := 2) rfl rfl rfl (by simp [ul, t1, t2]) (by simp [hl]) ?_
    refine congrArg some ?_
    refine Eq.trans (b := [nI .i64 l.kind] ++ (uC l.amt ++ (uC l.fee ++ (bts l.token ++ ([nI .i64 l.home] ++ (bts l.to ++ ([nI .i64 l.toc] ++ ((Z.drop 75).take 2 ++ ([.ds fd l.data.length (bts l.data)] ++ Z.drop 78))))))))) (by simp [List.append_assoc, List.drop_drop, nI] <;> rfl) ?_
    rw [z1, z2]
    obtain ⟨r1, r2, r3, r4⟩ := r
    unfold ldC ldT
    rw [r1, r2, r3, r4]
    rfl
  · have cl := (ldC_ok (fd := fd) (fk := true) h1 h2).len
    conv => whnf
    try (refine ⟨by kernel_rfl, ?_⟩; conv => whnf)
    refine onlyIf_intro (by simp [words_length, *, cl]) ?_; rw [splice_all (by simp [words_length, *, cl])]; conv => whnf
    exact ⟨_, vres_one rfl (vres_cell rfl rfl (load_agg rfl rfl cl)), deepV_noH _ _ (ldC_noHs _ _ _)⟩
theorem fill_zz {place : Nat → Option (Nat × Nat)} {Z R W : List VV} {L : List (Nat × VV)} (h : ∀ Z' : List VV, Z'.length = 80 → Z' = W → vfill place ([] ++ Z') L = some R) (h1 : Z.length = 80) (h2 : Z = W) : vfill place Z L = some R := h Z h1 h2
theorem mbare_fn {C : List VV} {l : LdD} {fd fk : Bool} (c : LdC C l fd fk) (h1 : l.token.length = 32) (r : l.amt = 0 ∧ l.fee = 0 ∧ l.to = z32 ∧ l.toc = 0 ∧ l.data = [] ∧ l.index = 0 ∧ l.keys = []) : FnV Try.prog G0 107 [.agg [], .agg C] (.agg (ldC true true l)) := by
  have h2 : l.to.length = 32 := by rw [r.2.2.1]; rfl
  refine fn_of_vwp Γok Try.func107 (by kernel_rfl) rfl (by simp [Try.ntmps107]) (wpv_ok Γok (by kernel_rfl) _ _ _ ?_); conv => whnf
  refine bindP_intro c.kind ?_
  conv => whnf
  try (refine ⟨by kernel_rfl, ?_⟩; conv => whnf)
  refine bindP_intro (load_sub (ds := bts l.token) rfl rfl (by rw [c.len]; decide) c.token) ?_
  conv => whnf
  try (refine ⟨by kernel_rfl, ?_⟩; conv => whnf)
  refine bindP_intro c.home ?_
  conv => whnf
  try (refine ⟨by kernel_rfl, ?_⟩; conv => whnf)
  refine bindP_intro c.dec ?_
  conv => whnf
  try (refine ⟨by kernel_rfl, ?_⟩; conv => whnf)
  refine bindP_intro c.sym ?_
  conv => whnf
  try (refine ⟨by kernel_rfl, ?_⟩; conv => whnf)
  have t1 : (bts l.token).length = 32 := by rw [bts_length, h1]
  refine bindP_intro (vpure_build (R := ldC true true l) rfl rfl rfl rfl ?_) ?_
  · refine fill_zz (Z := _) (R := ldC true true l) (fun Z hl hz => ?_) rfl rfl
    refine fill_next (A := []) (z := Z) (g := 0) rfl rfl rfl rfl (by simp [hl]) ?_
    refine fill_next (g := 8) rfl rfl t1 (by simp [hl]) (by simp [hl]) ?_
    refine fill_next (g := 0) rfl rfl rfl (by simp [hl, t1]) (by simp [hl]) ?_
    refine fill_next (g := 33) rfl rfl rfl (by simp [hl, t1]) (by simp [hl]) ?_
    refine fill_next (g := 0) rfl rfl rfl (by simp [hl, t1]) (by simp [hl]) ?_
    refine congrArg some ?_
    refine Eq.trans (b := [nI .i64 l.kind] ++ ((Z.drop 1).take 8 ++ (bts l.token ++ ([nI .i64 l.home] ++ ((Z.drop 42).take 33 ++ ([nI .i64 l.dec] ++ ([.v (.string ⟨(l.sym.map fun n => n.toUInt8).toArray⟩)] ++ Z.drop 77))))))) (by simp [List.append_assoc, List.drop_drop, nI] <;> rfl) ?_
    obtain ⟨r1, r2, r3, r4, r5, r6, r7⟩ := r
    unfold ldC ldT
    rw [r1, r2, r3, r4, r5, r6, r7, uC_lit (n := 0) (by decide), hz]
    rfl
  · have cl := (ldC_ok (fd := true) (fk := true) h1 h2).len
    conv => whnf
    try (refine ⟨by kernel_rfl, ?_⟩; conv => whnf)
    refine onlyIf_intro (by simp [words_length, *, cl]) ?_; rw [splice_all (by simp [words_length, *, cl])]; conv => whnf
    exact ⟨_, vres_one rfl (vres_cell rfl rfl (load_agg rfl rfl cl)), deepV_noH _ _ (ldC_noHs _ _ _)⟩
theorem kbare_fn {C : List VV} {l : LdD} {fd fk : Bool} (c : LdC C l fd fk) (r : l.amt = 0 ∧ l.fee = 0 ∧ l.token = z32 ∧ l.home = 0 ∧ l.to = z32 ∧ l.toc = 0 ∧ l.dec = 0 ∧ l.sym = [] ∧ l.data = []) : FnV Try.prog G0 111 [.agg [], .agg C] (.agg (ldC true fk l)) := by
  have h1 : l.token.length = 32 := by rw [r.2.2.1]; rfl
  have h2 : l.to.length = 32 := by rw [r.2.2.2.2.1]; rfl
  refine fn_of_vwp Γok Try.func111 (by kernel_rfl) rfl (by simp [Try.ntmps111]) (wpv_ok Γok (by kernel_rfl) _ _ _ ?_); conv => whnf
  refine bindP_intro c.kind ?_
  conv => whnf
  try (refine ⟨by kernel_rfl, ?_⟩; conv => whnf)
  refine bindP_intro c.index ?_
  conv => whnf
  try (refine ⟨by kernel_rfl, ?_⟩; conv => whnf)
  refine bindP_intro c.keys ?_
  conv => whnf
  try (refine ⟨by kernel_rfl, ?_⟩; conv => whnf)
  refine ⟨.agg (ldC true fk l), ?_, deepV_noH _ _ (ldC_noHs _ _ _)⟩
  obtain ⟨r1, r2, r3, r4, r5, r6, r7, r8, r9⟩ := r
  unfold ldC ldT
  rw [r1, r2, r3, r4, r5, r6, r7, r8, r9, uC_lit (n := 0) (by decide)]
  rfl
end Go.Proofs.Ytilmfdlonpjjiaa
namespace Go.Proofs.Ytilmfdlonpjjiaa
set_option linter.unusedVariables false
set_option linter.unusedSimpArgs false
set_option linter.unusedSectionVars false
open Go.ChangeShapes Go.WideShapes Go.ChangeAt Go.RowKit Go.Joins
set_option maxRecDepth 10000
theorem OkT.chk {l : LdD} (k : OkT l) : chkT (decide (l.kind = 3)) l = true := by
  have h1 := k.home
  have h2 := k.toc
  unfold chkT
  rw [decide_eq_true (show l.home ≤ 65535 by omega), decide_eq_true (show l.toc ≤ 65535 by omega), decide_eq_true k.fee]
  rcases k.kind with h | h
  · rw [decide_eq_false (show ¬ l.kind = 3 by omega), k.plain h]
    rfl
  · rw [decide_eq_true h]
    show decide _ = true
    exact decide_eq_true k.len
theorem lcheck_t {C : List VV} {l : LdD} {fd fk : Bool} (c : LdC C l fd fk) (k : OkT l) : FnV Try.prog G0 15 [.agg C] (nI .i64 0) := by
  have kd := kind_t (k := l.kind) k.kind
  have ck := tcheck_fn (p := decide (l.kind = 3)) c k.amt (Nat.lt_of_le_of_lt k.fee k.amt)
  rw [k.chk] at ck
  have br := tbare_fn (p := decide (l.kind = 3)) c k.token k.to k.rest
  have sm := lsame_fn c (ldC_ok (fd := fd) (fk := true) k.token k.to) k.amt (Nat.lt_of_le_of_lt k.fee k.amt) k.token k.to k.datab
  have nC := c.noHs
  have nD := ldC_noHs fd true l
  refine gen_ex (ldC fd true l) fun D eD => ?_
  rw [← eD] at br sm nD
  refine gen_ex (decide (l.kind = 3)) fun p ep => ?_
  rw [← ep] at kd ck br
  refine fn_of_vwp Γok Try.func15 (by kernel_rfl) rfl (by simp [Try.ntmps15]) (wpv_ok Γok (by kernel_rfl) _ _ _ ?_); conv => whnf
  refine bindP_intro c.kind ?_
  conv => whnf
  try (refine ⟨by kernel_rfl, ?_⟩; conv => whnf)
  refine ⟨_, ret_of_fn G0ok (kd) (by first | rfl | simp only [noHs, noH, nI, bI, Bool.and_self, Bool.and_true, Bool.true_and, ]) (by first | rfl | simp only [noHs, noH, nI, bI, Bool.and_self, Bool.and_true, Bool.true_and, ]), ?_⟩; (conv => whnf); (try (refine ⟨by kernel_rfl, ?_⟩; conv => whnf))
  refine bindP_intro (load_agg rfl rfl c.len) ?_
  conv => whnf
  try (refine ⟨by kernel_rfl, ?_⟩; conv => whnf)
  refine ⟨_, m_tcheck, _, ret_of_fn G0ok (ck) (by simp only [noHs, noH, bI, nC, Bool.and_self]) (rfl), ?_⟩
  conv => whnf
  try (refine ⟨by kernel_rfl, ?_⟩; conv => whnf)
  refine bindP_intro (load_agg rfl rfl c.len) ?_
  conv => whnf
  try (refine ⟨by kernel_rfl, ?_⟩; conv => whnf)
  refine bindP_intro (load_agg rfl rfl c.len) ?_
  conv => whnf
  try (refine ⟨by kernel_rfl, ?_⟩; conv => whnf)
  refine ⟨_, m_tbare, _, ret_of_fn G0ok (br) (by simp only [noHs, noH, bI, nC, Bool.and_self]) (nD), ?_⟩
  conv => whnf
  try (refine ⟨by kernel_rfl, ?_⟩; conv => whnf)
  refine ⟨_, ret_of_fn G0ok (sm) (by first | rfl | simp only [noHs, noH, nI, bI, Bool.and_self, Bool.and_true, Bool.true_and, nC, nD]) (by first | rfl | simp only [noHs, noH, nI, bI, Bool.and_self, Bool.and_true, Bool.true_and, nC, nD]), ?_⟩; (conv => whnf); (try (refine ⟨by kernel_rfl, ?_⟩; conv => whnf))
  exact ⟨_, rfl, rfl⟩
theorem OkM.chk {l : LdD} (k : OkM l) : chkM l = true := by
  have h1 := k.home
  have nz : ∀ i, i ≤ l.sym.length → nzs l.sym i = true := fun i => by
    induction i with
    | zero => exact fun _ => rfl
    | succ i ih =>
      intro h
      have hx := (k.symb _ (List.getElem_mem (show i < l.sym.length from h))).1
      rw [nzs, ih (by omega), List.getD_eq_getElem?_getD, List.getElem?_eq_getElem (show i < l.sym.length from h), Option.getD_some, decide_eq_false (by omega)]
      rfl
  unfold chkM
  rw [decide_eq_true (show l.home ≤ 65535 by omega), decide_eq_true k.dec, decide_eq_true k.len, nz _ (Nat.le_refl _)]
  rfl
theorem lcheck_m {C : List VV} {l : LdD} {fd fk : Bool} (c : LdC C l fd fk) (k : OkM l) : FnV Try.prog G0 15 [.agg C] (nI .i64 0) := by
  obtain ⟨r1, r2, r3, r4, r5, r6, r7⟩ := k.rest
  have t2 : l.to.length = 32 := by rw [r3]; rfl
  have kl := k.len
  have kd := kind_m
  rw [show nI .i64 2 = nI .i64 l.kind from by rw [k.kind]; rfl] at kd
  have ck := mcheck_fn c (fun x hx => (k.symb x hx).2) (by omega)
  rw [k.chk] at ck
  have br := mbare_fn c k.token k.rest
  have sm := lsame_fn c (ldC_ok (fd := true) (fk := true) k.token t2) (by rw [r1]; decide) (by rw [r2]; decide) k.token t2 (by rw [r5]; simp)
  have nC := c.noHs
  have nD := ldC_noHs true true l
  refine gen_ex (ldC true true l) fun D eD => ?_
  rw [← eD] at br sm nD
  refine fn_of_vwp Γok Try.func15 (by kernel_rfl) rfl (by simp [Try.ntmps15]) (wpv_ok Γok (by kernel_rfl) _ _ _ ?_); conv => whnf
  refine bindP_intro c.kind ?_
  conv => whnf
  try (refine ⟨by kernel_rfl, ?_⟩; conv => whnf)
  refine ⟨_, ret_of_fn G0ok (kd) (by first | rfl | simp only [noHs, noH, nI, bI, Bool.and_self, Bool.and_true, Bool.true_and, ]) (by first | rfl | simp only [noHs, noH, nI, bI, Bool.and_self, Bool.and_true, Bool.true_and, ]), ?_⟩; (conv => whnf); (try (refine ⟨by kernel_rfl, ?_⟩; conv => whnf))
  refine bindP_intro (load_agg rfl rfl c.len) ?_
  conv => whnf
  try (refine ⟨by kernel_rfl, ?_⟩; conv => whnf)
  refine ⟨_, m_mcheck, _, ret_of_fn G0ok (ck) (by simp only [noHs, noH, bI, nC, Bool.and_self]) (rfl), ?_⟩
  conv => whnf
  try (refine ⟨by kernel_rfl, ?_⟩; conv => whnf)
  refine bindP_intro (load_agg rfl rfl c.len) ?_
  conv => whnf
  try (refine ⟨by kernel_rfl, ?_⟩; conv => whnf)
  refine bindP_intro (load_agg rfl rfl c.len) ?_
  conv => whnf
  try (refine ⟨by kernel_rfl, ?_⟩; conv => whnf)
  refine ⟨_, m_mbare, _, ret_of_fn G0ok (br) (by simp only [noHs, noH, bI, nC, Bool.and_self]) (nD), ?_⟩
  conv => whnf
  try (refine ⟨by kernel_rfl, ?_⟩; conv => whnf)
  refine ⟨_, ret_of_fn G0ok (sm) (by first | rfl | simp only [noHs, noH, nI, bI, Bool.and_self, Bool.and_true, Bool.true_and, nC, nD]) (by first | rfl | simp only [noHs, noH, nI, bI, Bool.and_self, Bool.and_true, Bool.true_and, nC, nD]), ?_⟩; (conv => whnf); (try (refine ⟨by kernel_rfl, ?_⟩; conv => whnf))
  exact ⟨_, rfl, rfl⟩
theorem OkK.chk {l : LdD} (k : OkK l) : chkK l = true := by
  have h1 := k.index
  unfold chkK
  rw [decide_eq_true (show l.index ≤ 4294967295 by omega), decide_eq_true k.some, decide_eq_true k.most]
  rfl
theorem lcheck_k {C : List VV} {l : LdD} {fd fk : Bool} (c : LdC C l fd fk) (k : OkK l) : FnV Try.prog G0 15 [.agg C] (nI .i64 0) := by
  obtain ⟨r1, r2, r3, r4, r5, r6, r7, r8, r9⟩ := k.rest
  have t1 : l.token.length = 32 := by rw [r3]; rfl
  have t2 : l.to.length = 32 := by rw [r5]; rfl
  have kd := kind_k
  rw [show nI .i64 4 = nI .i64 l.kind from by rw [k.kind]; rfl] at kd
  have ck := kcheck_fn c
  rw [k.chk] at ck
  have br := kbare_fn c k.rest
  have sm := lsame_fn c (ldC_ok (fd := true) (fk := fk) t1 t2) (by rw [r1]; decide) (by rw [r2]; decide) t1 t2 (by rw [r9]; simp)
  have nC := c.noHs
  have nD := ldC_noHs true fk l
  refine gen_ex (ldC true fk l) fun D eD => ?_
  rw [← eD] at br sm nD
  refine fn_of_vwp Γok Try.func15 (by kernel_rfl) rfl (by simp [Try.ntmps15]) (wpv_ok Γok (by kernel_rfl) _ _ _ ?_); conv => whnf
  refine bindP_intro c.kind ?_
  conv => whnf
  try (refine ⟨by kernel_rfl, ?_⟩; conv => whnf)
  refine ⟨_, ret_of_fn G0ok (kd) (by first | rfl | simp only [noHs, noH, nI, bI, Bool.and_self, Bool.and_true, Bool.true_and, ]) (by first | rfl | simp only [noHs, noH, nI, bI, Bool.and_self, Bool.and_true, Bool.true_and, ]), ?_⟩; (conv => whnf); (try (refine ⟨by kernel_rfl, ?_⟩; conv => whnf))
  refine bindP_intro (load_agg rfl rfl c.len) ?_
  conv => whnf
  try (refine ⟨by kernel_rfl, ?_⟩; conv => whnf)
  refine ⟨_, m_kcheck, _, ret_of_fn G0ok (ck) (by simp only [noHs, noH, bI, nC, Bool.and_self]) (rfl), ?_⟩
  conv => whnf
  try (refine ⟨by kernel_rfl, ?_⟩; conv => whnf)
  refine bindP_intro (load_agg rfl rfl c.len) ?_
  conv => whnf
  try (refine ⟨by kernel_rfl, ?_⟩; conv => whnf)
  refine bindP_intro (load_agg rfl rfl c.len) ?_
  conv => whnf
  try (refine ⟨by kernel_rfl, ?_⟩; conv => whnf)
  refine ⟨_, m_kbare, _, ret_of_fn G0ok (br) (by simp only [noHs, noH, bI, nC, Bool.and_self]) (nD), ?_⟩
  conv => whnf
  try (refine ⟨by kernel_rfl, ?_⟩; conv => whnf)
  refine ⟨_, ret_of_fn G0ok (sm) (by first | rfl | simp only [noHs, noH, nI, bI, Bool.and_self, Bool.and_true, Bool.true_and, nC, nD]) (by first | rfl | simp only [noHs, noH, nI, bI, Bool.and_self, Bool.and_true, Bool.true_and, nC, nD]), ?_⟩; (conv => whnf); (try (refine ⟨by kernel_rfl, ?_⟩; conv => whnf))
  exact ⟨_, rfl, rfl⟩
end Go.Proofs.Ytilmfdlonpjjiaa
namespace Go.Proofs.Ytilmfdlonpjjiaa
set_option linter.unusedVariables false
set_option linter.unusedSimpArgs false
set_option linter.unusedSectionVars false
open Go.ChangeShapes Go.WideShapes Go.ChangeAt Go.RowKit Go.Joins
set_option maxRecDepth 10000
theorem lenc_t {C : List VV} {l : LdD} {fd fk : Bool} (c : LdC C l fd fk) (k : OkT l) : FnV Try.prog G0 12 [.agg C] (.tup [.ds false (l.kind :: ldPutT l).length (bts (l.kind :: ldPutT l)), nI .i64 0]) := by
  have kk := k.kind
  have ck := lcheck_t c k
  have kd := kind_t (k := l.kind) k.kind
  have pt := tput_fn (p := decide (l.kind = 3)) c k.token k.to k.home k.toc k.len
  have pl := ldPutT_len k.token k.to
  have dl := k.len
  have nC := c.noHs
  refine gen_ex (ldPutT l) fun B eB => ?_
  rw [← eB] at pt pl ⊢
  refine gen_ex (decide (l.kind = 3)) fun p ep => ?_
  rw [← ep] at kd pt
  have bl : (bts B).length = B.length := bts_length _
  have k8 : wS .u8 (l.kind : Int) = ((l.kind : Nat) : Int) := by rw [ws_u8]; omega
  refine fn_of_vwp Γok Try.func12 (by kernel_rfl) rfl (by simp [Try.ntmps12]) (wpv_ok Γok (by kernel_rfl) _ _ _ ?_); conv => whnf
  refine bindP_intro (load_agg rfl rfl c.len) ?_
  conv => whnf
  try (refine ⟨by kernel_rfl, ?_⟩; conv => whnf)
  refine ⟨_, ret_of_fn G0ok (ck) (by first | rfl | simp only [noHs, noH, nI, bI, Bool.and_self, Bool.and_true, Bool.true_and, nC]) (by first | rfl | simp only [noHs, noH, nI, bI, Bool.and_self, Bool.and_true, Bool.true_and, nC]), ?_⟩; (conv => whnf); (try (refine ⟨by kernel_rfl, ?_⟩; conv => whnf))
  refine bindP_intro c.kind ?_
  conv => whnf
  try (refine ⟨by kernel_rfl, ?_⟩; conv => whnf)
  refine ⟨_, ret_of_fn G0ok (kd) (by first | rfl | simp only [noHs, noH, nI, bI, Bool.and_self, Bool.and_true, Bool.true_and, ]) (by first | rfl | simp only [noHs, noH, nI, bI, Bool.and_self, Bool.and_true, Bool.true_and, ]), ?_⟩; (conv => whnf); (try (refine ⟨by kernel_rfl, ?_⟩; conv => whnf))
  refine bindP_intro c.kind ?_
  conv => whnf
  try (refine ⟨by kernel_rfl, ?_⟩; conv => whnf)
  rw [k8]
  refine .ownAs 1 (bts [l.kind]) rfl rfl ?_
  conv => whnf
  try (refine ⟨by kernel_rfl, ?_⟩; conv => whnf)
  refine bindP_intro (load_agg rfl rfl c.len) ?_
  conv => whnf
  try (refine ⟨by kernel_rfl, ?_⟩; conv => whnf)
  refine ⟨_, m_tput, _, ret_of_fn G0ok pt (by simp only [noHs, noH, bI, nC, Bool.and_self]) (bts_noHs _), ?_⟩
  conv => whnf
  try (refine ⟨by kernel_rfl, ?_⟩; conv => whnf)
  refine onlyIf_intro (by simp [maxLen, bl]) ?_
  conv => whnf
  try (refine ⟨by kernel_rfl, ?_⟩; conv => whnf)
  refine onlyIf_intro (by simp [maxLen, bl, bts]; omega) ?_
  refine .read (l.kind :: B).length (bts (l.kind :: B)) (by show 1 + B.length = (l.kind :: B).length; rw [List.length_cons]; omega) (by simp [bts]) (by rw [bts_length, Nat.mul_one]) (bts_noHs _) ?_
  conv => whnf
  try (refine ⟨by kernel_rfl, ?_⟩; conv => whnf)
  exact ⟨_, rfl, deepV_noH _ _ (by simp only [noHs, noH, nI, bts_noHs, Bool.and_self])⟩
theorem lenc_m {C : List VV} {l : LdD} {fd fk : Bool} (c : LdC C l fd fk) (k : OkM l) : FnV Try.prog G0 12 [.agg C] (.tup [.ds false (l.kind :: ldPutM l).length (bts (l.kind :: ldPutM l)), nI .i64 0]) := by
  have kk := k.kind
  have ck := lcheck_m c k
  have kd := kind_m
  rw [show nI .i64 2 = nI .i64 l.kind from by rw [k.kind]; rfl] at kd
  have dc := k.dec
  have pt := mput_fn c k.token k.home (by omega) k.len (fun x hx => (k.symb x hx).2)
  have pl := (ldGetM_put k).2
  have nC := c.noHs
  refine gen_ex (ldPutM l) fun B eB => ?_
  rw [← eB] at pt pl ⊢
  have bl : (bts B).length = B.length := bts_length _
  have k8 : wS .u8 (l.kind : Int) = ((l.kind : Nat) : Int) := by rw [ws_u8]; omega
  refine fn_of_vwp Γok Try.func12 (by kernel_rfl) rfl (by simp [Try.ntmps12]) (wpv_ok Γok (by kernel_rfl) _ _ _ ?_); conv => whnf
  refine bindP_intro (load_agg rfl rfl c.len) ?_
  conv => whnf
  try (refine ⟨by kernel_rfl, ?_⟩; conv => whnf)
  refine ⟨_, ret_of_fn G0ok (ck) (by first | rfl | simp only [noHs, noH, nI, bI, Bool.and_self, Bool.and_true, Bool.true_and, nC]) (by first | rfl | simp only [noHs, noH, nI, bI, Bool.and_self, Bool.and_true, Bool.true_and, nC]), ?_⟩; (conv => whnf); (try (refine ⟨by kernel_rfl, ?_⟩; conv => whnf))
  refine bindP_intro c.kind ?_
  conv => whnf
  try (refine ⟨by kernel_rfl, ?_⟩; conv => whnf)
  refine ⟨_, ret_of_fn G0ok (kd) (by first | rfl | simp only [noHs, noH, nI, bI, Bool.and_self, Bool.and_true, Bool.true_and, ]) (by first | rfl | simp only [noHs, noH, nI, bI, Bool.and_self, Bool.and_true, Bool.true_and, ]), ?_⟩; (conv => whnf); (try (refine ⟨by kernel_rfl, ?_⟩; conv => whnf))
  refine bindP_intro c.kind ?_
  conv => whnf
  try (refine ⟨by kernel_rfl, ?_⟩; conv => whnf)
  rw [k8]
  refine .ownAs 1 (bts [l.kind]) rfl rfl ?_
  conv => whnf
  try (refine ⟨by kernel_rfl, ?_⟩; conv => whnf)
  refine bindP_intro (load_agg rfl rfl c.len) ?_
  conv => whnf
  try (refine ⟨by kernel_rfl, ?_⟩; conv => whnf)
  refine ⟨_, m_mput, _, ret_of_fn G0ok pt (by simp only [noHs, noH, bI, nC, Bool.and_self]) (bts_noHs _), ?_⟩
  conv => whnf
  try (refine ⟨by kernel_rfl, ?_⟩; conv => whnf)
  refine onlyIf_intro (by simp [maxLen, bl]) ?_
  conv => whnf
  try (refine ⟨by kernel_rfl, ?_⟩; conv => whnf)
  refine onlyIf_intro (by simp [maxLen, bl, bts]; omega) ?_
  refine .read (l.kind :: B).length (bts (l.kind :: B)) (by show 1 + B.length = (l.kind :: B).length; rw [List.length_cons]; omega) (by simp [bts]) (by rw [bts_length, Nat.mul_one]) (bts_noHs _) ?_
  conv => whnf
  try (refine ⟨by kernel_rfl, ?_⟩; conv => whnf)
  exact ⟨_, rfl, deepV_noH _ _ (by simp only [noHs, noH, nI, bts_noHs, Bool.and_self])⟩
theorem lenc_k {C : List VV} {l : LdD} {fd fk : Bool} (c : LdC C l fd fk) (k : OkK l) : FnV Try.prog G0 12 [.agg C] (.tup [.ds false (l.kind :: ldPutK l).length (bts (l.kind :: ldPutK l)), nI .i64 0]) := by
  have kk := k.kind
  have ck := lcheck_k c k
  have kd := kind_k
  rw [show nI .i64 4 = nI .i64 l.kind from by rw [k.kind]; rfl] at kd
  have km := k.most
  have pt := kput_fn c k.index (by omega) k.len
  have pl := (ldGetK_put k).2.1
  have nC := c.noHs
  refine gen_ex (ldPutK l) fun B eB => ?_
  rw [← eB] at pt pl ⊢
  have bl : (bts B).length = B.length := bts_length _
  have k8 : wS .u8 (l.kind : Int) = ((l.kind : Nat) : Int) := by rw [ws_u8]; omega
  refine fn_of_vwp Γok Try.func12 (by kernel_rfl) rfl (by simp [Try.ntmps12]) (wpv_ok Γok (by kernel_rfl) _ _ _ ?_); conv => whnf
  refine bindP_intro (load_agg rfl rfl c.len) ?_
  conv => whnf
  try (refine ⟨by kernel_rfl, ?_⟩; conv => whnf)
  refine ⟨_, ret_of_fn G0ok (ck) (by first | rfl | simp only [noHs, noH, nI, bI, Bool.and_self, Bool.and_true, Bool.true_and, nC]) (by first | rfl | simp only [noHs, noH, nI, bI, Bool.and_self, Bool.and_true, Bool.true_and, nC]), ?_⟩; (conv => whnf); (try (refine ⟨by kernel_rfl, ?_⟩; conv => whnf))
  refine bindP_intro c.kind ?_
  conv => whnf
  try (refine ⟨by kernel_rfl, ?_⟩; conv => whnf)
  refine ⟨_, ret_of_fn G0ok (kd) (by first | rfl | simp only [noHs, noH, nI, bI, Bool.and_self, Bool.and_true, Bool.true_and, ]) (by first | rfl | simp only [noHs, noH, nI, bI, Bool.and_self, Bool.and_true, Bool.true_and, ]), ?_⟩; (conv => whnf); (try (refine ⟨by kernel_rfl, ?_⟩; conv => whnf))
  refine bindP_intro c.kind ?_
  conv => whnf
  try (refine ⟨by kernel_rfl, ?_⟩; conv => whnf)
  rw [k8]
  refine .ownAs 1 (bts [l.kind]) rfl rfl ?_
  conv => whnf
  try (refine ⟨by kernel_rfl, ?_⟩; conv => whnf)
  refine bindP_intro (load_agg rfl rfl c.len) ?_
  conv => whnf
  try (refine ⟨by kernel_rfl, ?_⟩; conv => whnf)
  refine ⟨_, m_kput, _, ret_of_fn G0ok pt (by simp only [noHs, noH, bI, nC, Bool.and_self]) (bts_noHs _), ?_⟩
  conv => whnf
  try (refine ⟨by kernel_rfl, ?_⟩; conv => whnf)
  refine onlyIf_intro (by simp [maxLen, bl]) ?_
  conv => whnf
  try (refine ⟨by kernel_rfl, ?_⟩; conv => whnf)
  refine onlyIf_intro (by simp [maxLen, bl, bts]; omega) ?_
  refine .read (l.kind :: B).length (bts (l.kind :: B)) (by show 1 + B.length = (l.kind :: B).length; rw [List.length_cons]; omega) (by simp [bts]) (by rw [bts_length, Nat.mul_one]) (bts_noHs _) ?_
  conv => whnf
  try (refine ⟨by kernel_rfl, ?_⟩; conv => whnf)
  exact ⟨_, rfl, deepV_noH _ _ (by simp only [noHs, noH, nI, bts_noHs, Bool.and_self])⟩
end Go.Proofs.Ytilmfdlonpjjiaa
namespace Go.Proofs.Ytilmfdlonpjjiaa
set_option linter.unusedVariables false
set_option linter.unusedSimpArgs false
set_option linter.unusedSectionVars false
open Go.ChangeShapes Go.WideShapes Go.ChangeAt Go.RowKit Go.Joins
set_option maxRecDepth 10000
/-- A number's bytes, the highest one first. -/
def be (n : Nat) : Nat → List Nat
  | 0 => []
  | s + 1 => n / 2 ^ (8 * s) % 256 :: be n s
theorem be_len (n : Nat) : ∀ s, (be n s).length = s
  | 0 => rfl
  | s + 1 => by rw [be, List.length_cons, be_len n s]
theorem be_at (n : Nat) : ∀ (s j : Nat) (h : j < (be n s).length), (be n s)[j] = n / 2 ^ (8 * (s - 1 - j)) % 256
  | 0, j, h => by cases h
  | s + 1, 0, h => by simp [be]
  | s + 1, j + 1, h => by
    have := be_at n s j (by rw [be_len] at h ⊢; omega)
    simp only [be, List.getElem_cons_succ]
    rw [this, show s + 1 - 1 - (j + 1) = s - 1 - j by omega]
/-- The first bytes, but the last j. -/
def beTo (n s j : Nat) : List Nat := (be n s).take (s - j)
theorem beTo_step {n s j : Nat} (h : j < s) : beTo n s j = beTo n s (j + 1) ++ [n / 2 ^ (8 * j) % 256] := by
  unfold beTo
  rw [show s - j = (s - (j + 1)) + 1 by omega, List.take_add_one, List.getElem?_eq_getElem (by rw [be_len]; omega), be_at]
  rw [show s - 1 - (s - (j + 1)) = j by omega]
  rfl
theorem beTo_all (n s : Nat) : beTo n s s = [] := by unfold beTo; rw [Nat.sub_self, List.take_zero]
theorem beTo_zero (n s : Nat) : beTo n s 0 = be n s := by unfold beTo; rw [Nat.sub_zero, List.take_of_length_le (by rw [be_len]; exact Nat.le_refl _)]
theorem pen_byte {n i : Nat} (hi : i ≤ 7) : nI .u8 (wS .u8 ((n : Int).fdiv (2 ^ min ((8 * i : Nat) : Int).toNat IntKind.i64.bits))) = nI .u8 ((n / 2 ^ (8 * i) % 256 : Nat) : Int) := by
  rw [shr_val (k := .i64) (x := n) (n := 8 * i) (by simp only [IntKind.bits]; omega), ws_u8]
  congr 1
theorem number_fnH {l : List Nat} {n s : Nat} (hs : s < 8) (hl : l.length ≤ 100000) : FnH Try.prog G0 80 [.ptr 0 0, nI .i64 n, nI .i64 (s + 1 : Nat)] [(0, some [.sl 1 0 l.length 1]), (1, some (bts l))] 2 (.tup []) [(0, some [.sl 2 0 (l ++ be n (s + 1)).length 1]), (2, some (bts (l ++ be n (s + 1))))] 1 := by
  have l1 : (bts l).length = l.length := bts_length l
  refine fnH_of_vwp Γok G0ok Try.func80 (by kernel_rfl) rfl (by simp [Try.ntmps80]) (wpv_ok Γok (by kernel_rfl) _ _ _ ?_); conv => whnf
  rw [ws_i64 (x := ((s + 1 : Nat) : Int) - 1) (by omega) (by omega), show ((s + 1 : Nat) : Int) - 1 = (s : Int) from by omega]
  refine vloop_unroll ?_
  refine wpv_ok Γok (by kernel_rfl) _ _ _ ?_; conv => whnf
  rw [decide_eq_true (show (s : Int) ≥ 0 by omega)]
  conv => whnf
  try (refine ⟨by kernel_rfl, ?_⟩; conv => whnf)
  rw [ws_i64 (x := 8 * (s : Int)) (by omega) (by omega), show 8 * (s : Int) = ((8 * s : Nat) : Int) from by omega]
  conv => whnf
  try (refine ⟨by kernel_rfl, ?_⟩; conv => whnf)
  refine .ownAs 1 (bts [n / 2 ^ (8 * s) % 256]) rfl (congrArg (fun v => [v]) (pen_byte (by omega))) ?_
  conv => whnf
  try (refine ⟨by kernel_rfl, ?_⟩; conv => whnf)
  refine onlyIf_intro (by show (Nat.beq (bts l).length _ && _) = true; rw [l1]; simp [maxLen]; omega) ?_
  have e1 : l ++ [n / 2 ^ (8 * s) % 256] = l ++ beTo n (s + 1) s := by rw [beTo_step (by omega), beTo_all]; rfl
  refine .ownAs (l ++ beTo n (s + 1) s).length (bts (l ++ beTo n (s + 1) s)) (by rw [← e1, List.length_append]; rfl) (by rw [← e1]; simp [bts]) ?_
  conv => whnf
  try (refine ⟨by kernel_rfl, ?_⟩; conv => whnf)
  refine vloop_invK G0ok [(0, some 0), (1, some 1), (2, some 3)] 3 (X := Nat) (fun j => [(6, nI .i64 ((j : Int) - 1)), (1, nI .i64 n), (0, .ptr 0 0)])
    (fun j => [(0, some [.sl 2 0 (l ++ beTo n (s + 1) j).length 1]), (2, some (bts (l ++ beTo n (s + 1) j)))]) (fun j => j ≤ s) (fun j => j) s rfl ⟨⟨_, rfl, conv_nI (ws_i64 (by omega) (by omega))⟩, ⟨_, rfl, conv_nI (rfl)⟩, ⟨_, rfl, .ptr rfl⟩, trivial⟩ ⟨.inr ⟨_, _, rfl, rfl, .cons (.sl rfl) .nil⟩, .inr ⟨_, _, rfl, rfl, .same (bts_noHs _)⟩, trivial⟩ (Nat.le_refl _) ?_
  intro j hj
  try dsimp only at hj
  try dsimp only
  refine wpv_ok Γok (by kernel_rfl) _ _ _ ?_; conv => whnf
  by_cases hc : j = 0
  · subst hc
    conv => whnf
    try (refine ⟨by kernel_rfl, ?_⟩; conv => whnf)
    rw [beTo_zero]
    exact ⟨_, rfl, [(0, some 0), (1, some 1), (2, some 2)], rfl, rfl, .same rfl, ⟨.inr ⟨_, _, rfl, rfl, .cons (.sl rfl) .nil⟩, .inr ⟨_, _, rfl, rfl, .same (bts_noHs _)⟩, trivial⟩⟩
  · obtain ⟨i, rfl⟩ : ∃ i, j = i + 1 := ⟨j - 1, by omega⟩
    rw [show ((i + 1 : Nat) : Int) - 1 = (i : Int) from by omega, decide_eq_true (show (i : Int) ≥ 0 by omega)]
    have l3 : (l ++ beTo n (s + 1) (i + 1)).length ≤ l.length + 8 := by unfold beTo; rw [List.length_append, List.length_take, be_len]; omega
    have e1 : (l ++ beTo n (s + 1) (i + 1)) ++ [n / 2 ^ (8 * i) % 256] = l ++ beTo n (s + 1) i := by rw [beTo_step (j := i) (by omega), List.append_assoc]
    refine gen_ex (l ++ beTo n (s + 1) (i + 1)) fun L eL => ?_
    rw [← eL] at l3 e1 ⊢
    clear eL
    have l2 : (bts L).length = L.length := bts_length _
    conv => whnf
    try (refine ⟨by kernel_rfl, ?_⟩; conv => whnf)
    rw [ws_i64 (x := 8 * (i : Int)) (by omega) (by omega), show 8 * (i : Int) = ((8 * i : Nat) : Int) from by omega]
    conv => whnf
    try (refine ⟨by kernel_rfl, ?_⟩; conv => whnf)
    refine .ownAs 1 (bts [n / 2 ^ (8 * i) % 256]) rfl (congrArg (fun v => [v]) (pen_byte (by omega))) ?_
    conv => whnf
    try (refine ⟨by kernel_rfl, ?_⟩; conv => whnf)
    refine onlyIf_intro (by show (Nat.beq (bts L).length _ && _) = true; rw [l2]; simp [maxLen]; omega) ?_
    refine .ownAs (l ++ beTo n (s + 1) i).length (bts (l ++ beTo n (s + 1) i)) (by rw [← e1, List.length_append]; rfl) (by rw [← e1]; simp [bts]) ?_
    conv => whnf
    try (refine ⟨by kernel_rfl, ?_⟩; conv => whnf)
    refine next_round (y := i + 1) G0ok i [(0, some 0), (1, some 1), (2, some 4)] rfl ⟨⟨_, rfl, conv_nI (ws_i64 (by omega) (by omega))⟩, ⟨_, rfl, conv_nI (rfl)⟩, ⟨_, rfl, .ptr rfl⟩, trivial⟩ ⟨.inr ⟨_, _, rfl, rfl, .cons (.sl rfl) .nil⟩, .inr ⟨_, _, rfl, rfl, .same (bts_noHs _)⟩, trivial⟩ (by omega) (by omega)
theorem number_nil {n s : Nat} (hs : s < 8) : FnH Try.prog G0 80 [.ptr 0 0, nI .i64 n, nI .i64 (s + 1 : Nat)] [(0, some [.ds true 0 []])] 1 (.tup []) [(0, some [.sl 1 0 (be n (s + 1)).length 1]), (1, some (bts (be n (s + 1))))] 1 := by
  refine fnH_of_vwp Γok G0ok Try.func80 (by kernel_rfl) rfl (by simp [Try.ntmps80]) (wpv_ok Γok (by kernel_rfl) _ _ _ ?_); conv => whnf
  rw [ws_i64 (x := ((s + 1 : Nat) : Int) - 1) (by omega) (by omega), show ((s + 1 : Nat) : Int) - 1 = (s : Int) from by omega]
  refine vloop_unroll ?_
  refine wpv_ok Γok (by kernel_rfl) _ _ _ ?_; conv => whnf
  rw [decide_eq_true (show (s : Int) ≥ 0 by omega)]
  conv => whnf
  try (refine ⟨by kernel_rfl, ?_⟩; conv => whnf)
  rw [ws_i64 (x := 8 * (s : Int)) (by omega) (by omega), show 8 * (s : Int) = ((8 * s : Nat) : Int) from by omega]
  conv => whnf
  try (refine ⟨by kernel_rfl, ?_⟩; conv => whnf)
  refine .ownAs 1 (bts [n / 2 ^ (8 * s) % 256]) rfl (congrArg (fun v => [v]) (pen_byte (by omega))) ?_
  conv => whnf
  try (refine ⟨by kernel_rfl, ?_⟩; conv => whnf)
  have e1 : [n / 2 ^ (8 * s) % 256] = beTo n (s + 1) s := by rw [beTo_step (by omega), beTo_all]; rfl
  refine .ownAs (beTo n (s + 1) s).length (bts (beTo n (s + 1) s)) (by rw [← e1]; rfl) (by rw [← e1]; simp [bts]) ?_
  conv => whnf
  try (refine ⟨by kernel_rfl, ?_⟩; conv => whnf)
  refine vloop_invK G0ok [(0, some 0), (1, some 2)] 2 (X := Nat) (fun j => [(6, nI .i64 ((j : Int) - 1)), (1, nI .i64 n), (0, .ptr 0 0)])
    (fun j => [(0, some [.sl 1 0 (beTo n (s + 1) j).length 1]), (1, some (bts (beTo n (s + 1) j)))]) (fun j => j ≤ s) (fun j => j) s rfl ⟨⟨_, rfl, conv_nI (ws_i64 (by omega) (by omega))⟩, ⟨_, rfl, conv_nI (rfl)⟩, ⟨_, rfl, .ptr rfl⟩, trivial⟩ ⟨.inr ⟨_, _, rfl, rfl, .cons (.sl rfl) .nil⟩, .inr ⟨_, _, rfl, rfl, .same (bts_noHs _)⟩, trivial⟩ (Nat.le_refl _) ?_
  intro j hj
  try dsimp only at hj
  try dsimp only
  refine wpv_ok Γok (by kernel_rfl) _ _ _ ?_; conv => whnf
  by_cases hc : j = 0
  · subst hc
    conv => whnf
    try (refine ⟨by kernel_rfl, ?_⟩; conv => whnf)
    rw [beTo_zero]
    exact ⟨_, rfl, [(0, some 0), (1, some 1)], rfl, rfl, .same rfl, ⟨.inr ⟨_, _, rfl, rfl, .cons (.sl rfl) .nil⟩, .inr ⟨_, _, rfl, rfl, .same (bts_noHs _)⟩, trivial⟩⟩
  · obtain ⟨i, rfl⟩ : ∃ i, j = i + 1 := ⟨j - 1, by omega⟩
    rw [show ((i + 1 : Nat) : Int) - 1 = (i : Int) from by omega, decide_eq_true (show (i : Int) ≥ 0 by omega)]
    have l3 : (beTo n (s + 1) (i + 1)).length ≤ 8 := by unfold beTo; rw [List.length_take, be_len]; omega
    have e1 : (beTo n (s + 1) (i + 1)) ++ [n / 2 ^ (8 * i) % 256] = beTo n (s + 1) i := by rw [beTo_step (j := i) (by omega)]
    refine gen_ex (beTo n (s + 1) (i + 1)) fun L eL => ?_
    rw [← eL] at l3 e1 ⊢
    clear eL
    have l2 : (bts L).length = L.length := bts_length _
    conv => whnf
    try (refine ⟨by kernel_rfl, ?_⟩; conv => whnf)
    rw [ws_i64 (x := 8 * (i : Int)) (by omega) (by omega), show 8 * (i : Int) = ((8 * i : Nat) : Int) from by omega]
    conv => whnf
    try (refine ⟨by kernel_rfl, ?_⟩; conv => whnf)
    refine .ownAs 1 (bts [n / 2 ^ (8 * i) % 256]) rfl (congrArg (fun v => [v]) (pen_byte (by omega))) ?_
    conv => whnf
    try (refine ⟨by kernel_rfl, ?_⟩; conv => whnf)
    refine onlyIf_intro (by show (Nat.beq (bts L).length _ && _) = true; rw [l2]; simp [maxLen]; omega) ?_
    refine .ownAs (beTo n (s + 1) i).length (bts (beTo n (s + 1) i)) (by rw [← e1, List.length_append]; rfl) (by rw [← e1]; simp [bts]) ?_
    conv => whnf
    try (refine ⟨by kernel_rfl, ?_⟩; conv => whnf)
    refine next_round (y := i + 1) G0ok i [(0, some 0), (1, some 3)] rfl ⟨⟨_, rfl, conv_nI (ws_i64 (by omega) (by omega))⟩, ⟨_, rfl, conv_nI (rfl)⟩, ⟨_, rfl, .ptr rfl⟩, trivial⟩ ⟨.inr ⟨_, _, rfl, rfl, .cons (.sl rfl) .nil⟩, .inr ⟨_, _, rfl, rfl, .same (bts_noHs _)⟩, trivial⟩ (by omega) (by omega)
theorem bytes_ds {l r : List Nat} (f : Bool) (hl : l.length ≤ 100000) (hr : r.length ≤ 100000) : FnH Try.prog G0 81 [.ptr 0 0, .ds f r.length (bts r)] [(0, some [.sl 1 0 l.length 1]), (1, some (bts l))] 2 (.tup []) [(0, some [.sl 2 0 (l ++ r).length 1]), (2, some (bts (l ++ r)))] 1 := by
  have l1 : (bts l).length = l.length := bts_length l
  have l2 : (bts r).length = r.length := bts_length r
  refine fnH_of_vwp Γok G0ok Try.func81 (by kernel_rfl) rfl (by simp [Try.ntmps81]) (wpv_ok Γok (by kernel_rfl) _ _ _ ?_); conv => whnf
  refine onlyIf_intro (by show (_ && (_ && Nat.beq (bts r).length _)) = true; rw [l2]; simp) ?_
  conv => whnf
  try (refine ⟨by kernel_rfl, ?_⟩; conv => whnf)
  refine onlyIf_intro (by show (Nat.beq (bts l).length _ && _) = true; rw [l1]; simp [maxLen]; omega) ?_
  refine .ownAs (l ++ r).length (bts (l ++ r)) (by rw [List.length_append]) (by simp [bts]) ?_
  conv => whnf
  try (refine ⟨by kernel_rfl, ?_⟩; conv => whnf)
  exact ⟨_, rfl, [(0, some 0), (1, some 1), (2, some 2)], rfl, rfl, .same rfl, ⟨.inr ⟨_, _, rfl, rfl, .cons (.sl rfl) .nil⟩, .inr ⟨_, _, rfl, rfl, .same (bts_noHs _)⟩, trivial⟩⟩
theorem bytes_own {l r : List Nat} {cs : List VV} {off : Nat} (hv : (cs.drop off).take (r.length * 1) = bts r) (ho : off + r.length * 1 ≤ cs.length) (nc : noHs cs = true) (hl : l.length ≤ 100000) (hr : r.length ≤ 100000) : FnH Try.prog G0 81 [.ptr 0 0, .sl 2 off r.length 1] [(0, some [.sl 1 0 l.length 1]), (1, some (bts l)), (2, some cs)] 3 (.tup []) [(0, some [.sl 3 0 (l ++ r).length 1]), (2, some cs), (3, some (bts (l ++ r)))] 1 := by
  have l1 : (bts l).length = l.length := bts_length l
  have l2 : (bts r).length = r.length := bts_length r
  refine fnH_of_vwp Γok G0ok Try.func81 (by kernel_rfl) rfl (by simp [Try.ntmps81]) (wpv_ok Γok (by kernel_rfl) _ _ _ ?_); conv => whnf
  refine bindP_intro (view_sub rfl ho hv) ?_
  conv => whnf
  try (refine ⟨by kernel_rfl, ?_⟩; conv => whnf)
  refine onlyIf_intro (by show (_ && (_ && Nat.beq (bts r).length _)) = true; rw [l2]; simp) ?_
  conv => whnf
  try (refine ⟨by kernel_rfl, ?_⟩; conv => whnf)
  refine onlyIf_intro (by show (Nat.beq (bts l).length _ && _) = true; rw [l1]; simp [maxLen]; omega) ?_
  refine .ownAs (l ++ r).length (bts (l ++ r)) (by rw [List.length_append]) (by simp [bts]) ?_
  conv => whnf
  try (refine ⟨by kernel_rfl, ?_⟩; conv => whnf)
  exact ⟨_, rfl, [(0, some 0), (1, some 1), (2, some 2), (3, some 3)], rfl, rfl, .same rfl, ⟨.inr ⟨_, _, rfl, rfl, .cons (.sl rfl) .nil⟩, .inr ⟨_, _, rfl, rfl, .same (nc)⟩, .inr ⟨_, _, rfl, rfl, .same (bts_noHs _)⟩, trivial⟩⟩
end Go.Proofs.Ytilmfdlonpjjiaa
namespace Go.Proofs.Ytilmfdlonpjjiaa
set_option linter.unusedVariables false
set_option linter.unusedSimpArgs false
set_option linter.unusedSectionVars false
open Go.ChangeShapes Go.WideShapes Go.ChangeAt Go.RowKit Go.Joins
set_option maxRecDepth 10000
/-- The number that bytes are, the highest one first. -/
def beV (t : List Nat) : Nat := t.foldl (fun v c => v * 256 + c) 0
theorem beV_snoc (t : List Nat) (c : Nat) : beV (t ++ [c]) = beV t * 256 + c := by unfold beV; rw [List.foldl_append]; rfl
theorem beV_lt : ∀ (k : Nat) (t : List Nat), t.length = k → (∀ x ∈ t, x < 256) → beV t < 2 ^ (8 * k)
  | 0, t, h, _ => by
    rw [List.eq_nil_of_length_eq_zero h]
    decide
  | k + 1, t, h, hb => by
    obtain ⟨u, c, rfl⟩ : ∃ u c, t = u ++ [c] := ⟨t.dropLast, t.getLast (by intro e; rw [e] at h; cases h), (List.dropLast_concat_getLast _).symm⟩
    rw [List.length_append, List.length_singleton] at h
    have h1 := beV_lt k u (by omega) fun x hx => hb x (List.mem_append.2 (.inl hx))
    have h2 := hb c (List.mem_append.2 (.inr (List.mem_singleton.2 rfl)))
    rw [beV_snoc, show 8 * (k + 1) = 8 * k + 8 by omega, Nat.pow_add, show 2 ^ 8 = 256 from rfl]
    omega
theorem be_snoc (n c : Nat) (hc : c < 256) : ∀ s, be (n * 256 + c) (s + 1) = be n s ++ [c]
  | 0 => by
    show [(n * 256 + c) / 2 ^ (8 * 0) % 256] = [c]
    rw [Nat.mul_zero, Nat.pow_zero, Nat.div_one]
    congr 1
    omega
  | s + 1 => by
    have ih := be_snoc n c hc s
    show (n * 256 + c) / 2 ^ (8 * (s + 1)) % 256 :: be (n * 256 + c) (s + 1) = (n / 2 ^ (8 * s) % 256 :: be n s) ++ [c]
    rw [ih, List.cons_append, show 8 * (s + 1) = 8 + 8 * s by omega, Nat.pow_add, ← Nat.div_div_eq_div_mul, show (n * 256 + c) / 2 ^ 8 = n by rw [show 2 ^ 8 = 256 from rfl]; omega]
theorem be_beV : ∀ (k : Nat) (t : List Nat), t.length = k → (∀ x ∈ t, x < 256) → be (beV t) k = t
  | 0, t, h, _ => by rw [List.eq_nil_of_length_eq_zero h]; rfl
  | k + 1, t, h, hb => by
    obtain ⟨u, c, rfl⟩ : ∃ u c, t = u ++ [c] := ⟨t.dropLast, t.getLast (by intro e; rw [e] at h; cases h), (List.dropLast_concat_getLast _).symm⟩
    rw [List.length_append, List.length_singleton] at h
    have h2 := hb c (List.mem_append.2 (.inr (List.mem_singleton.2 rfl)))
    rw [beV_snoc, be_snoc _ _ h2, be_beV k u (by omega) fun x hx => hb x (List.mem_append.2 (.inl hx))]
theorem be_mod {n m : Nat} : ∀ {s : Nat}, be n s = be m s → n % 2 ^ (8 * s) = m % 2 ^ (8 * s)
  | 0, _ => by rw [Nat.mul_zero, Nat.pow_zero, Nat.mod_one, Nat.mod_one]
  | s + 1, h => by
    have h1 : n / 2 ^ (8 * s) % 256 = m / 2 ^ (8 * s) % 256 := (List.cons.inj h).1
    have h2 := be_mod (s := s) (List.cons.inj h).2
    rw [show 8 * (s + 1) = 8 * s + 8 by omega, Nat.pow_add, show 2 ^ 8 = 256 from rfl, Nat.mod_mul, Nat.mod_mul, h1, h2]
theorem be_inj {n m s : Nat} (hn : n < 2 ^ (8 * s)) (hm : m < 2 ^ (8 * s)) (h : be n s = be m s) : n = m := by
  have := be_mod h
  rwa [Nat.mod_eq_of_lt hn, Nat.mod_eq_of_lt hm] at this
theorem be_lt (n : Nat) : ∀ (s : Nat), ∀ x ∈ be n s, x < 256
  | 0, x, h => by cases h
  | s + 1, x, h => by
    rcases List.mem_cons.1 h with rfl | h
    · exact Nat.mod_lt _ (by decide)
    · exact be_lt n s x h
theorem beV_be {n s : Nat} (hn : n < 2 ^ (8 * s)) : beV (be n s) = n :=
  be_inj (beV_lt s _ (be_len n s) (be_lt n s)) hn (be_beV s _ (be_len n s) (be_lt n s))
/-- What an eye has before it; whether there was as much as it wanted. -/
structure EyS where
  l : List Nat
  ok : Bool
def EyS.take (s : EyS) (n : Nat) : List Nat × EyS := if s.l.length < n then (List.replicate n 0, ⟨[], false⟩) else (s.l.take n, ⟨s.l.drop n, s.ok⟩)
theorem EyS.take_len (s : EyS) (n : Nat) : (s.take n).1.length = n := by
  unfold EyS.take
  split
  · exact List.length_replicate
  · rw [List.length_take]; omega
theorem EyS.take_lt {s : EyS} (h : ∀ x ∈ s.l, x < 256) (n : Nat) : (∀ x ∈ (s.take n).1, x < 256) ∧ ∀ x ∈ (s.take n).2.l, x < 256 := by
  unfold EyS.take
  split
  · exact ⟨fun x hx => by rw [List.eq_of_mem_replicate hx]; decide, fun x hx => by cases hx⟩
  · exact ⟨fun x hx => h x (List.mem_of_mem_take hx), fun x hx => h x (List.mem_of_mem_drop hx)⟩
/-- Where all went well. -/
theorem EyS.take_true {s : EyS} {n : Nat} (h : (s.take n).2.ok = true) : s.ok = true ∧ s.l = (s.take n).1 ++ (s.take n).2.l := by
  unfold EyS.take at *
  split at h
  · cases h
  · rename_i hn
    rw [if_neg hn]
    exact ⟨h, (List.take_append_drop n s.l).symm⟩
/-- As it was written. -/
theorem EyS.take_app {t r : List Nat} {n : Nat} (h : t.length = n) (b : Bool) : EyS.take ⟨t ++ r, b⟩ n = (t, ⟨r, b⟩) := by
  unfold EyS.take
  rw [if_neg (by rw [List.length_append]; omega)]
  dsimp only
  rw [List.take_left' h, List.drop_left' h]
/-- Too short: nothing is right any more. -/
theorem EyS.take_bad {s : EyS} {n : Nat} (h : s.ok = false) : (s.take n).2.ok = false := by
  unfold EyS.take
  split
  · rfl
  · exact h
end Go.Proofs.Ytilmfdlonpjjiaa
namespace Go.Proofs.Ytilmfdlonpjjiaa
set_option linter.unusedVariables false
set_option linter.unusedSimpArgs false
set_option linter.unusedSectionVars false
open Go.ChangeShapes Go.WideShapes Go.ChangeAt Go.RowKit Go.Joins
theorem ret_fnH {P : Program} {G : Globs} (hG : GOk G) {g : FuncId} {vargs vargs' : List VV} {H : HL} {k : Nat} {res res' : VV} {H' upd : HL} {m : Nat} (h : FnH P G g vargs H k res H' m) (σl : List Nat) {lkf : Nat → Option (List VV)} {n : Nat}
    (hlen : σl.length = k) (hnd : noDup σl = true) (hHk : (H.all fun p => Nat.blt p.1 k) = true) (hv : lowVs k vargs = true) (hr : lowV (k + m) res = true)
    (hin : inH lkf (hmap σl k n) k H k) (hout : outH (k + m) H' (k + m)) (e1 : rnVs (hmap σl k n) vargs = vargs') (e2 : rnV (hmap σl k n) res = res') (e3 : updH (hmap σl k n) H' (k + m) = upd) :
    Ret P G g vargs' lkf n ⟨res', σl, upd, m⟩ := by
  subst e1 e2 e3
  exact ret_of_fnH hG h σl hlen hnd hHk hv hr hin hout
end Go.Proofs.Ytilmfdlonpjjiaa
namespace Go.Proofs.Ytilmfdlonpjjiaa
set_option linter.unusedVariables false
set_option linter.unusedSimpArgs false
set_option linter.unusedSectionVars false
open Go.ChangeShapes Go.WideShapes Go.ChangeAt Go.RowKit Go.Joins
set_option maxRecDepth 10000
mutual
theorem rnV_no (f : Nat → Nat) : ∀ (v : VV), noH v = true → rnV f v = v
  | .v x, _ => rfl
  | .agg cs, h => congrArg VV.agg (rnVs_no f cs h)
  | .tup cs, h => congrArg VV.tup (rnVs_no f cs h)
  | .ptr _ _, h => (by simp [noH] at h)
  | .sl _ _ _ _, h => (by simp [noH] at h)
  | .ds _ _ _, _ => rfl
  | .dp _ _, _ => rfl
  | .fn g caps, h => congrArg (VV.fn g) (rnVs_no f caps h)
  | .ifc t x, h => congrArg (VV.ifc t) (rnV_no f x h)
  | .any, _ => rfl
theorem rnVs_no (f : Nat → Nat) : ∀ (cs : List VV), noHs cs = true → rnVs f cs = cs
  | [], _ => rfl
  | c :: cs, h => by
    simp only [noHs, Bool.and_eq_true] at h
    simp only [rnVs, rnV_no f c h.1, rnVs_no f cs h.2]
end
theorem ret_pen1 {g : FuncId} {args : List VV} {b n p : Nat} {r : List VV} {lkf : Nat → Option (List VV)}
    (h : FnH Try.prog G0 g (.ptr 0 0 :: args) [(0, some [.ds true 0 []])] 1 (.tup []) [(0, some [.sl 1 0 b 1]), (1, some r)] 1) (na : noHs args = true) (nr : noHs r = true) (h0 : lkf p = some [.ds true 0 []]) :
    Ret Try.prog G0 g (.ptr p 0 :: args) lkf n ⟨.tup [], [p], [(p, some [.sl n 0 b 1]), (n, some r)], 1⟩ :=
  ret_fnH G0ok h [p] rfl rfl rfl (by simp only [lowVs, lowV, lowVs_noHs na]; rfl) rfl ⟨trivial, _, rfl, rfl, h0⟩ ⟨⟨trivial, fun cs e => (Option.some.inj (show some [VV.sl 1 0 b 1] = some cs from e)) ▸ rfl⟩, fun cs e => (Option.some.inj (show some r = some cs from e)) ▸ lowVs_noHs nr⟩
    (by show VV.ptr p 0 :: rnVs _ args = _; rw [rnVs_no _ _ na]) rfl (by show [(p, some [VV.sl n 0 b 1]), (n, some (rnVs _ r))] = _; rw [rnVs_no _ _ nr])
theorem ret_pen2 {g : FuncId} {args : List VV} {a b n p q : Nat} {l r : List VV} {lkf : Nat → Option (List VV)}
    (h : FnH Try.prog G0 g (.ptr 0 0 :: args) [(0, some [.sl 1 0 a 1]), (1, some l)] 2 (.tup []) [(0, some [.sl 2 0 b 1]), (2, some r)] 1) (hpq : noDup [p, q] = true) (na : noHs args = true) (nl : noHs l = true) (nr : noHs r = true) (h0 : lkf p = some [.sl q 0 a 1]) (h1 : lkf q = some l) :
    Ret Try.prog G0 g (.ptr p 0 :: args) lkf n ⟨.tup [], [p, q], [(p, some [.sl n 0 b 1]), (q, none), (n, some r)], 1⟩ :=
  ret_fnH G0ok h [p, q] rfl hpq rfl (by simp only [lowVs, lowV, lowVs_noHs na]; rfl) rfl ⟨⟨trivial, _, rfl, rfl, h0⟩, _, rfl, lowVs_noHs nl, by rw [rnVs_no _ _ nl]; exact h1⟩
    ⟨⟨⟨trivial, fun cs e => (Option.some.inj (show some [VV.sl 2 0 b 1] = some cs from e)) ▸ rfl⟩, fun cs e => by cases (show none = some cs from e)⟩, fun cs e => (Option.some.inj (show some r = some cs from e)) ▸ lowVs_noHs nr⟩
    (by show VV.ptr p 0 :: rnVs _ args = _; rw [rnVs_no _ _ na]) rfl (by show [(p, some [VV.sl n 0 b 1]), (q, none), (n, some (rnVs _ r))] = _; rw [rnVs_no _ _ nr])
theorem ret_pen3 {g : FuncId} {a b n p q u o m w : Nat} {l r cs : List VV} {lkf : Nat → Option (List VV)}
    (h : FnH Try.prog G0 g [.ptr 0 0, .sl 2 o m w] [(0, some [.sl 1 0 a 1]), (1, some l), (2, some cs)] 3 (.tup []) [(0, some [.sl 3 0 b 1]), (2, some cs), (3, some r)] 1) (hpq : noDup [p, q, u] = true) (nl : noHs l = true) (nc : noHs cs = true) (nr : noHs r = true) (h0 : lkf p = some [.sl q 0 a 1]) (h1 : lkf q = some l) (h2 : lkf u = some cs) :
    Ret Try.prog G0 g [.ptr p 0, .sl u o m w] lkf n ⟨.tup [], [p, q, u], [(p, some [.sl n 0 b 1]), (q, none), (u, some cs), (n, some r)], 1⟩ :=
  ret_fnH G0ok h [p, q, u] rfl hpq rfl rfl rfl ⟨⟨⟨trivial, _, rfl, rfl, h0⟩, _, rfl, lowVs_noHs nl, by rw [rnVs_no _ _ nl]; exact h1⟩, _, rfl, lowVs_noHs nc, by rw [rnVs_no _ _ nc]; exact h2⟩
    ⟨⟨⟨⟨trivial, fun cs e => (Option.some.inj (show some [VV.sl 3 0 b 1] = some cs from e)) ▸ rfl⟩, fun cs e => by cases (show none = some cs from e)⟩, fun ds e => (Option.some.inj (show some cs = some ds from e)) ▸ lowVs_noHs nc⟩, fun cs e => (Option.some.inj (show some r = some cs from e)) ▸ lowVs_noHs nr⟩
    rfl rfl (by show [(p, some [VV.sl n 0 b 1]), (q, none), (u, some (rnVs _ cs)), (n, some (rnVs _ r))] = _; rw [rnVs_no _ _ nr, rnVs_no _ _ nc])
end Go.Proofs.Ytilmfdlonpjjiaa
namespace Go.Proofs.Ytilmfdlonpjjiaa
set_option linter.unusedVariables false
set_option linter.unusedSimpArgs false
set_option linter.unusedSectionVars false
open Go.ChangeShapes Go.WideShapes Go.ChangeAt Go.RowKit Go.Joins
set_option maxRecDepth 10000
theorem vslice_bts {t e : TypeId} {r : TR} (ht : sliceOf Γ t = some (e, r)) (hr : r.size = 1) {f : Bool} {n : Nat} {l : List Nat} {lo hi : Option VV} {a b : Nat} (hn : n = l.length) (b1 : vb lo 0 = some a) (b2 : vb hi n = some b) (c1 : a ≤ b) (c2 : b ≤ n) :
    vslice Γ t (.ds f n (bts l)) lo hi none = some (.ds (f && decide (b = n)) ((l.drop a).take (b - a)).length (bts ((l.drop a).take (b - a)))) := by
  subst hn
  rw [vslice_ds ht b1 b2 c1 c2, hr, Nat.mul_one, Nat.mul_one]
  unfold bts
  rw [← List.map_drop, ← List.map_take]
  rw [show ((l.drop a).take (b - a)).length = b - a by simp; omega]
theorem vslice_btsm {t e : TypeId} {r : TR} (ht : sliceOf Γ t = some (e, r)) (hr : r.size = 1) {f : Bool} {n : Nat} {l : List Nat} {lo : Option VV} {hi mx : VV} {a b : Nat} (hn : n = l.length) (b1 : vb lo 0 = some a) (b2 : vb (some hi) n = some b) (b3 : vb (some mx) n = some b) (c1 : a ≤ b) (c2 : b ≤ n) :
    vslice Γ t (.ds f n (bts l)) lo (some hi) (some mx) = some (.ds (fullOf (some mx) f b b n) ((l.drop a).take (b - a)).length (bts ((l.drop a).take (b - a)))) := by
  subst hn
  unfold vslice
  rw [ht]
  simp only [b1, b2, b3]
  rw [if_pos ⟨c1, Nat.le_refl _, c2, by simp⟩, hr, Nat.mul_one, Nat.mul_one]
  unfold bts
  rw [← List.map_drop, ← List.map_take]
  rw [show ((l.drop a).take (b - a)).length = b - a by simp; omega]
theorem zero_bytes (n : Nat) : List.map (fun i => [VV.v (Value.int IntKind.u8 0)][i % 1]?.getD VV.any) (List.range n) = List.replicate n (nI .u8 0) := by
  rw [List.eq_replicate_iff]
  refine ⟨by simp, fun b hb => ?_⟩
  obtain ⟨i, _, rfl⟩ := List.mem_map.1 hb
  rw [Nat.mod_one]
  rfl
def eyeC (f : Bool) (s : EyS) : List VV := [.ds f s.l.length (bts s.l), bI s.ok]
theorem take_ok {f : Bool} {s : EyS} {n : Nat} (hn : n ≤ s.l.length) (hm : n ≤ 1000) (hl : s.l.length ≤ maxLen) : ∃ g g', FnH Try.prog G0 76 [.ptr 0 0, nI .i64 n] [(0, some (eyeC f s))] 1 (.ds g (s.l.take n).length (bts (s.l.take n))) [(0, some (eyeC g' ⟨s.l.drop n, s.ok⟩))] 0 := by
  refine ⟨fullOf (some (nI .i64 n)) f n n s.l.length, f && decide (s.l.length = s.l.length), ?_⟩
  unfold eyeC
  refine fnH_of_vwp Γok G0ok Try.func76 (by kernel_rfl) rfl (by simp [Try.ntmps76]) (wpv_ok Γok (by kernel_rfl) _ _ _ ?_); conv => whnf
  rw [decide_eq_false (show ¬ (s.l.length : Int) < (n : Int) by omega)]
  conv => whnf
  try (refine ⟨by kernel_rfl, ?_⟩; conv => whnf)
  refine bindP_intro (vpure_slice (vslice_btsm rfl rfl rfl (by rfl) vb_nat vb_nat (Nat.zero_le _) hn)) ?_
  conv => whnf
  try (refine ⟨by kernel_rfl, ?_⟩; conv => whnf)
  refine bindP_intro (vpure_slice (vslice_bts rfl rfl rfl vb_nat (by rfl) hn (Nat.le_refl _))) ?_
  conv => whnf
  try (refine ⟨by kernel_rfl, ?_⟩; conv => whnf)
  exact ⟨_, rfl, [(0, some 0)], rfl, rfl, conv_eq rfl (bts_noHs _), ⟨.inr ⟨_, _, rfl, rfl, convs_eq (by rw [List.take_of_length_le (l := s.l.drop n) (by rw [List.length_drop]; exact Nat.le_refl _)]; rfl) (by simp only [noHs, noH, bts_noHs, bI, Bool.and_self])⟩, trivial⟩⟩
theorem take_short {f : Bool} {s : EyS} {n : Nat} (hn : s.l.length < n) (hm : n ≤ 1000) : FnH Try.prog G0 76 [.ptr 0 0, nI .i64 n] [(0, some (eyeC f s))] 1 (.ds false n (bts (List.replicate n 0))) [(0, some (eyeC true ⟨[], false⟩))] 0 := by
  unfold eyeC
  refine fnH_of_vwp Γok G0ok Try.func76 (by kernel_rfl) rfl (by simp [Try.ntmps76]) (wpv_ok Γok (by kernel_rfl) _ _ _ ?_); conv => whnf
  rw [decide_eq_true (show (s.l.length : Int) < (n : Int) by omega)]
  conv => whnf
  try (refine ⟨by kernel_rfl, ?_⟩; conv => whnf)
  refine onlyIf_intro (by simp [maxLen]; omega) ?_
  refine .read n (bts (List.replicate n 0)) (by rfl) (by simp [vzeros, bts]; exact zero_bytes n) (by rw [bts_length, List.length_replicate]; exact (Nat.mul_one _).symm) (bts_noHs _) ?_
  conv => whnf
  try (refine ⟨by kernel_rfl, ?_⟩; conv => whnf)
  exact ⟨_, rfl, [(0, some 0)], rfl, rfl, conv_eq rfl (bts_noHs _), ⟨.inr ⟨_, _, rfl, rfl, .same rfl⟩, trivial⟩⟩
theorem p64 : (2 : Int) ^ 64 = 18446744073709551616 := by decide
theorem n64 : ((2 ^ 64 : Nat) : Int) = 18446744073709551616 := by decide
theorem ws_i64_hi {V : Nat} (h1 : 9223372036854775808 ≤ V) (h2 : V < 18446744073709551616) : wS .i64 (V : Int) = (V : Int) - 18446744073709551616 := by
  rw [wS_eq]
  simp [IntKind.wrap, IntKind.signed, IntKind.bits]
  omega
theorem ofInt_ws {V : Nat} (h : V < 18446744073709551616) : (BitVec.ofInt 64 (wS .i64 (V : Int))).toNat = V := by
  rw [BitVec.toNat_ofInt, n64]
  rcases Nat.lt_or_ge V 9223372036854775808 with h1 | h1
  · rw [ws_i64 (by omega) (by omega)]
    omega
  · rw [ws_i64_hi h1 h]
    omega
theorem or_step {v c : Nat} (hv : v < 72057594037927936) (hc : c < 256) : bitS .or .i64 (wS .i64 ((v : Int) * 2 ^ min (Int.toNat 8) IntKind.i64.bits)) (c : Int) = wS .i64 ((v * 256 + c : Nat) : Int) := by
  rw [show ((v : Int) * 2 ^ min (Int.toNat 8) IntKind.i64.bits) = ((v * 256 : Nat) : Int) from by rw [show ((2 : Int) ^ min (Int.toNat 8) IntKind.i64.bits) = 256 from by decide]; push_cast; rfl]
  rw [bitS_eq]
  unfold bitI
  simp only [BitVec.toNat_or]
  rw [show (BitVec.ofInt IntKind.i64.bits (wS .i64 ((v * 256 : Nat) : Int))).toNat = v * 256 from ofInt_ws (by omega), bv_toNat_ofNat (show c < 2 ^ IntKind.i64.bits by simp only [IntKind.bits]; omega)]
  rw [← wS_eq, show v * 256 ||| c = v * 256 + c from by rw [Nat.mul_comm]; exact (Nat.two_pow_add_eq_or_of_lt (i := 8) hc v).symm]
theorem take_fn {f : Bool} (s : EyS) {n : Nat} (hm : n ≤ 1000) (hl : s.l.length ≤ maxLen) : ∃ g g', FnH Try.prog G0 76 [.ptr 0 0, nI .i64 n] [(0, some (eyeC f s))] 1 (.ds g n (bts (s.take n).1)) [(0, some (eyeC g' (s.take n).2))] 0 := by
  rcases Nat.lt_or_ge s.l.length n with h | h
  · refine ⟨false, true, ?_⟩
    have := take_short (f := f) h hm
    unfold EyS.take
    rw [if_pos h]
    exact this
  · obtain ⟨g, g', t⟩ := take_ok (f := f) h hm hl
    refine ⟨g, g', ?_⟩
    unfold EyS.take
    rw [if_neg (by omega)]
    rw [List.length_take, Nat.min_eq_left h] at t
    exact t
theorem ret_eye {g : FuncId} {args : List VV} {n p : Nat} {cs ds : List VV} {res : VV} {lkf : Nat → Option (List VV)}
    (h : FnH Try.prog G0 g (.ptr 0 0 :: args) [(0, some cs)] 1 res [(0, some ds)] 0) (na : noHs args = true) (nr : noH res = true) (nc : noHs cs = true) (nd : noHs ds = true) (h0 : lkf p = some cs) :
    Ret Try.prog G0 g (.ptr p 0 :: args) lkf n ⟨res, [p], [(p, some ds)], 0⟩ :=
  ret_fnH G0ok h [p] rfl rfl rfl (by simp only [lowVs, lowV, lowVs_noHs na]; rfl) (lowV_noH nr) ⟨trivial, _, rfl, lowVs_noHs nc, by rw [rnVs_no _ _ nc]; exact h0⟩ ⟨trivial, fun cs e => (Option.some.inj (show some ds = some cs from e)) ▸ lowVs_noHs nd⟩
    (by show VV.ptr p 0 :: rnVs _ args = _; rw [rnVs_no _ _ na]) (rnV_no _ _ nr) (by show [(p, some (rnVs _ ds))] = _; rw [rnVs_no _ _ nd])
theorem eyeC_noHs (f : Bool) (s : EyS) : noHs (eyeC f s) = true := by
  unfold eyeC
  simp only [noHs, noH, bts_noHs, bI, Bool.and_self]
theorem rnum_fn {f : Bool} (s : EyS) {n : Nat} (hm : n ≤ 8) (hl : s.l.length ≤ maxLen) (hb : ∀ x ∈ s.l, x < 256) : ∃ g', FnH Try.prog G0 67 [.ptr 0 0, nI .i64 n] [(0, some (eyeC f s))] 1 (nI .i64 (wS .i64 (beV (s.take n).1 : Nat))) [(0, some (eyeC g' (s.take n).2))] 0 := by
  obtain ⟨g, g', t⟩ := take_fn (f := f) s (n := n) (by omega) hl
  refine ⟨g', ?_⟩
  have tl := s.take_len n
  have tb := (EyS.take_lt hb n).1
  refine gen_ex (s.take n).2 fun s2 e2 => ?_
  rw [← e2] at t ⊢
  clear e2
  refine gen_ex (s.take n).1 fun L eL => ?_
  rw [← eL] at t tl tb ⊢
  clear eL
  subst tl
  refine fnH_of_vwp Γok G0ok Try.func67 (by kernel_rfl) rfl (by simp [Try.ntmps67]) (wpv_ok Γok (by kernel_rfl) _ _ _ ?_); conv => whnf
  refine ⟨_, ret_eye t rfl (show noH (.ds g L.length (bts L)) = true from bts_noHs _) (eyeC_noHs _ _) (eyeC_noHs _ _) rfl, ?_⟩
  conv => whnf
  try (refine ⟨by kernel_rfl, ?_⟩; conv => whnf)
  refine vloop_invK G0ok [(0, some 0)] 1 (X := Nat) (fun j => [(12, nI .i64 j), (11, nI .i64 L.length), (10, .ds g L.length (bts L)), (5, nI .i64 (wS .i64 (beV (L.take j) : Nat))), (4, nI .i64 0)])
    (fun _ => [(0, some (eyeC g' s2))]) (fun j => j ≤ L.length) (fun j => L.length - j) 0 rfl ⟨⟨_, rfl, conv_nI (rfl)⟩, ⟨_, rfl, conv_nI (rfl)⟩, ⟨_, rfl, conv_eq rfl (bts_noHs _)⟩, ⟨_, rfl, conv_nI ((ws_i64 (x := 0) (by decide) (by decide)).symm)⟩, ⟨_, rfl, conv_nI (rfl)⟩, trivial⟩ ⟨.inr ⟨_, _, rfl, rfl, convs_eq rfl (eyeC_noHs _ _)⟩, trivial⟩ (Nat.zero_le _) ?_
  intro j hj
  try dsimp only at hj
  try dsimp only
  refine wpv_ok Γok (by kernel_rfl) _ _ _ ?_; conv => whnf
  refine bool_cases (fun hc => ?_) (fun hc => ?_)
  · have hc := of_decide_eq_true hc
    have cj := getD_lt (by decide) tb j
    have ve := beV_lt j (L.take j) (by rw [List.length_take]; omega) fun x hx => tb x (List.mem_of_mem_take hx)
    have p8 : 2 ^ (8 * j) ≤ 2 ^ 56 := Nat.pow_le_pow_right (by decide) (by omega)
    have v56 : beV (L.take j) < 72057594037927936 := by omega
    have hs : beV (L.take (j + 1)) = beV (L.take j) * 256 + L.getD j 0 := by
      rw [List.take_add_one, List.getElem?_eq_getElem (by omega), List.getD_eq_getElem?_getD, List.getElem?_eq_getElem (by omega)]
      exact beV_snoc _ _
    refine gen_ex (beV (L.take j)) fun v ev => ?_
    rw [← ev] at hs v56 ⊢
    clear ev ve p8
    refine gen_ex (L.getD j 0) fun c ec => ?_
    rw [← ec] at cj hs
    conv => whnf
    try (refine ⟨by kernel_rfl, ?_⟩; conv => whnf)
    refine bindP_intro (if_pos (inB_ok (by omega) (by omega))) ?_; conv => whnf
    refine bindP_intro (bts_ix (i := j) (by dsimp only; omega) (by omega)) ?_
    rw [← ec]
    conv => whnf
    try (refine ⟨by kernel_rfl, ?_⟩; conv => whnf)
    rw [ws_i64 (x := (v : Int)) (by omega) (by omega), ws_i64 (x := (c : Int)) (by omega) (by omega)]
    refine next_round (y := j) G0ok (j + 1) [(0, some 0)] rfl ⟨⟨_, rfl, conv_nI (ws_i64 (by omega) (by omega))⟩, ⟨_, rfl, conv_nI (rfl)⟩, ⟨_, rfl, conv_eq rfl (bts_noHs _)⟩, ⟨_, rfl, conv_nI ((or_step v56 cj).trans (by rw [hs]))⟩, ⟨_, rfl, conv_nI (rfl)⟩, trivial⟩ ⟨.inr ⟨_, _, rfl, rfl, convs_eq rfl (eyeC_noHs _ _)⟩, trivial⟩ (by omega) (by omega)
  · have hc := of_decide_eq_false hc
    have e : j = L.length := by omega
    subst e
    rw [List.take_length]
    conv => whnf
    try (refine ⟨by kernel_rfl, ?_⟩; conv => whnf)
    exact ⟨_, rfl, [(0, some 0)], rfl, rfl, .same rfl, ⟨.inr ⟨_, _, rfl, rfl, convs_eq rfl (eyeC_noHs _ _)⟩, trivial⟩⟩
theorem rword_fn {f : Bool} (s : EyS) (hl : s.l.length ≤ maxLen) : ∃ g', FnH Try.prog G0 69 [.ptr 0 0] [(0, some (eyeC f s))] 1 (.agg (bts (s.take 32).1)) [(0, some (eyeC g' (s.take 32).2))] 0 := by
  obtain ⟨g, g', t⟩ := take_fn (f := f) s (n := 32) (by decide) hl
  refine ⟨g', ?_⟩
  have tl := s.take_len 32
  refine gen_ex (s.take 32).2 fun s2 e2 => ?_
  rw [← e2] at t ⊢
  clear e2
  refine gen_ex (s.take 32).1 fun L eL => ?_
  rw [← eL] at t tl ⊢
  clear eL
  have lB : (bts L).length = 32 := by rw [bts_length, tl]
  refine fnH_of_vwp Γok G0ok Try.func69 (by kernel_rfl) rfl (by simp [Try.ntmps69]) (wpv_ok Γok (by kernel_rfl) _ _ _ ?_); conv => whnf
  refine ⟨_, ret_eye t rfl (show noH (.ds g 32 (bts L)) = true from bts_noHs _) (eyeC_noHs _ _) (eyeC_noHs _ _) rfl, ?_⟩
  conv => whnf
  try (refine ⟨by kernel_rfl, ?_⟩; conv => whnf)
  refine onlyIf_intro (by rw [lB]; rfl) ?_
  conv => whnf
  try (refine ⟨by kernel_rfl, ?_⟩; conv => whnf)
  have hs : splice (List.replicate 32 (nI .u8 0)) 0 ((bts L).take 32) = bts L := by
    rw [List.take_of_length_le (by omega)]
    exact splice_whole (by rw [lB]; rfl)
  refine bindP_intro (load_agg' hs rfl rfl lB) ?_
  conv => whnf
  try (refine ⟨by kernel_rfl, ?_⟩; conv => whnf)
  refine onlyIf_intro (by rw [lB]; rfl) ?_
  rw [splice_all (new := bts L) (by rw [lB]; rfl)]
  conv => whnf
  try (refine ⟨by kernel_rfl, ?_⟩; conv => whnf)
  exact ⟨_, vres_one rfl (vres_cell rfl rfl (load_agg rfl rfl lB)), [(0, some 0)], rfl, rfl, conv_eq rfl (bts_noHs _), ⟨.inr ⟨_, _, rfl, rfl, convs_eq rfl (eyeC_noHs _ _)⟩, trivial⟩⟩
end Go.Proofs.Ytilmfdlonpjjiaa
namespace Go.Proofs.Ytilmfdlonpjjiaa
set_option linter.unusedVariables false
set_option linter.unusedSimpArgs false
set_option linter.unusedSectionVars false
open Go.ChangeShapes Go.WideShapes Go.ChangeAt Go.RowKit Go.Joins
set_option maxRecDepth 10000
theorem lor8 {v c : Nat} (hv : v < 256) (hc : c < 256) : bitS .or .i64 (wS .i64 ((v : Int) * 2 ^ min (Int.toNat 8) IntKind.i64.bits)) (c : Int) = ((v * 256 + c : Nat) : Int) := by
  rw [or_step (by omega) hc, ws_i64 (by omega) (by omega)]
theorem padB_32 {b : List Nat} (h : b.length = 32) : padB b = b := by
  unfold padB
  rw [List.take_of_length_le (by omega), h]
  exact List.append_nil _
theorem fill_at {place : Nat → Option (Nat × Nat)} {X A B Z cs r : List VV} {i off n : Nat} {v : VV} {rest : List (Nat × VV)} (h1 : place i = some (off, n)) (h2 : cellsOf v = some cs) (h3 : cs.length = n) (e : X = A ++ (B ++ Z)) (hA : A.length = off) (hB : B.length = n)
    (h6 : vfill place (A ++ (cs ++ Z)) rest = some r) : vfill place X ((i, v) :: rest) = some r := by
  subst e hA
  unfold vfill
  simp only [h1, h2]
  have e : splice (A ++ (B ++ Z)) A.length cs = A ++ (cs ++ Z) := by
    unfold splice
    rw [List.take_left, h3, List.drop_length_add_append, List.drop_append_of_le_length (by omega), List.drop_of_length_le (by omega), List.nil_append]
  rw [if_pos ⟨h3, by rw [List.length_append, List.length_append]; omega⟩, e]
  exact h6
theorem tget_fn {f p : Bool} {b : List Nat} (hb : ∀ x ∈ b, x < 256) (h : 132 ≤ b.length) (hm : b.length ≤ 140737488355328) : FnV Try.prog G0 100 [.agg [bI p], .ds f b.length (bts b)] (.tup [.agg (ldC false true (ldGetT 0 b)), nI .i64 0]) := by
  have wd : ∀ (g : Bool) (i : Nat), i + 32 ≤ b.length → FnV Try.prog G0 103 [.ds g (seg b i 32).length (bts (seg b i 32))] (.agg (bts (seg b i 32))) := fun g i hi => by
    have l32 := seg_len hi
    have := lword_fn (f := g) (b := seg b i 32) (by omega)
    rwa [padB_32 l32] at this
  have fr : ∀ (i : Nat), i + 32 ≤ b.length → FnV Try.prog G0 68 [.agg (bts (seg b i 32))] (uV (fromV (seg b i 32) 32)) := fun i hi => from_fn _ (seg_len hi) fun x hx => hb x (seg_mem hx)
  have g64 := lgetD_lt hb 64
  have g65 := lgetD_lt hb 65
  have g98 := lgetD_lt hb 98
  have g99 := lgetD_lt hb 99
  refine fn_of_vwp Γok Try.func100 (by kernel_rfl) rfl (by simp [Try.ntmps100]) (wpv_ok Γok (by kernel_rfl) _ _ _ ?_); conv => whnf
  rw [decide_eq_false (show ¬ ((b.length : Nat) : Int) < 132 by omega)]
  conv => whnf
  try (refine ⟨by kernel_rfl, ?_⟩; conv => whnf)
  refine bindP_intro (vpure_slice (vslice_bts rfl rfl rfl (by rfl) (by rfl) (by decide) (by omega))) ?_
  conv => whnf
  try (refine ⟨by kernel_rfl, ?_⟩; conv => whnf)
  refine ⟨_, ret_of_fn G0ok (wd (f && decide (Int.toNat 32 = b.length)) 0 (by omega)) (by first | rfl | simp only [noHs, noH, nI, bI, Bool.and_self, Bool.and_true, Bool.true_and, bts_noHs]) (by first | rfl | simp only [noHs, noH, nI, bI, Bool.and_self, Bool.and_true, Bool.true_and, bts_noHs]), ?_⟩; (conv => whnf); (try (refine ⟨by kernel_rfl, ?_⟩; conv => whnf))
  refine ⟨_, ret_of_fn G0ok (fr 0 (by omega)) (by first | rfl | simp only [noHs, noH, nI, bI, Bool.and_self, Bool.and_true, Bool.true_and, bts_noHs]) (by first | rfl | simp only [noHs, noH, nI, bI, Bool.and_self, Bool.and_true, Bool.true_and, bts_noHs]), ?_⟩; (conv => whnf); (try (refine ⟨by kernel_rfl, ?_⟩; conv => whnf))
  refine bindP_intro (vpure_slice (vslice_bts rfl rfl rfl (by rfl) (by rfl) (by decide) (by omega))) ?_
  conv => whnf
  try (refine ⟨by kernel_rfl, ?_⟩; conv => whnf)
  refine ⟨_, ret_of_fn G0ok (wd (f && decide (Int.toNat 64 = b.length)) 32 (by omega)) (by first | rfl | simp only [noHs, noH, nI, bI, Bool.and_self, Bool.and_true, Bool.true_and, bts_noHs]) (by first | rfl | simp only [noHs, noH, nI, bI, Bool.and_self, Bool.and_true, Bool.true_and, bts_noHs]), ?_⟩; (conv => whnf); (try (refine ⟨by kernel_rfl, ?_⟩; conv => whnf))
  refine bindP_intro (if_pos (inB_ok (by omega) (by omega))) ?_; conv => whnf
  refine bindP_intro (bts_ix (i := 64) rfl (by omega)) ?_
  conv => whnf
  try (refine ⟨by kernel_rfl, ?_⟩; conv => whnf)
  refine bindP_intro (if_pos (inB_ok (by omega) (by omega))) ?_; conv => whnf
  refine bindP_intro (bts_ix (i := 65) rfl (by omega)) ?_
  conv => whnf
  try (refine ⟨by kernel_rfl, ?_⟩; conv => whnf)
  rw [ws_i64 (x := ((b.getD 64 0 : Nat) : Int)) (by omega) (by omega), ws_i64 (x := ((b.getD 65 0 : Nat) : Int)) (by omega) (by omega), lor8 g64 g65, show b.getD 64 0 * 256 + b.getD 65 0 = at2 b 64 from rfl]
  refine bindP_intro (vpure_slice (vslice_bts rfl rfl rfl (by rfl) (by rfl) (by decide) (by omega))) ?_
  conv => whnf
  try (refine ⟨by kernel_rfl, ?_⟩; conv => whnf)
  refine ⟨_, ret_of_fn G0ok (wd (f && decide (Int.toNat 98 = b.length)) 66 (by omega)) (by first | rfl | simp only [noHs, noH, nI, bI, Bool.and_self, Bool.and_true, Bool.true_and, bts_noHs]) (by first | rfl | simp only [noHs, noH, nI, bI, Bool.and_self, Bool.and_true, Bool.true_and, bts_noHs]), ?_⟩; (conv => whnf); (try (refine ⟨by kernel_rfl, ?_⟩; conv => whnf))
  refine bindP_intro (if_pos (inB_ok (by omega) (by omega))) ?_; conv => whnf
  refine bindP_intro (bts_ix (i := 98) rfl (by omega)) ?_
  conv => whnf
  try (refine ⟨by kernel_rfl, ?_⟩; conv => whnf)
  refine bindP_intro (if_pos (inB_ok (by omega) (by omega))) ?_; conv => whnf
  refine bindP_intro (bts_ix (i := 99) rfl (by omega)) ?_
  conv => whnf
  try (refine ⟨by kernel_rfl, ?_⟩; conv => whnf)
  rw [ws_i64 (x := ((b.getD 98 0 : Nat) : Int)) (by omega) (by omega), ws_i64 (x := ((b.getD 99 0 : Nat) : Int)) (by omega) (by omega), lor8 g98 g99, show b.getD 98 0 * 256 + b.getD 99 0 = at2 b 98 from rfl]
  refine bindP_intro (vpure_slice (vslice_bts rfl rfl rfl (by rfl) (by rfl) (by decide) (by omega))) ?_
  conv => whnf
  try (refine ⟨by kernel_rfl, ?_⟩; conv => whnf)
  refine ⟨_, ret_of_fn G0ok (wd (f && decide (Int.toNat 132 = b.length)) 100 (by omega)) (by first | rfl | simp only [noHs, noH, nI, bI, Bool.and_self, Bool.and_true, Bool.true_and, bts_noHs]) (by first | rfl | simp only [noHs, noH, nI, bI, Bool.and_self, Bool.and_true, Bool.true_and, bts_noHs]), ?_⟩; (conv => whnf); (try (refine ⟨by kernel_rfl, ?_⟩; conv => whnf))
  refine ⟨_, ret_of_fn G0ok (fr 100 (by omega)) (by first | rfl | simp only [noHs, noH, nI, bI, Bool.and_self, Bool.and_true, Bool.true_and, bts_noHs]) (by first | rfl | simp only [noHs, noH, nI, bI, Bool.and_self, Bool.and_true, Bool.true_and, bts_noHs]), ?_⟩; (conv => whnf); (try (refine ⟨by kernel_rfl, ?_⟩; conv => whnf))
  refine .ownAs 0 [] rfl rfl ?_
  conv => whnf
  try (refine ⟨by kernel_rfl, ?_⟩; conv => whnf)
  refine bindP_intro (vpure_slice (vslice_bts rfl rfl rfl (by rfl) (by rfl) (show 132 ≤ b.length by omega) (Nat.le_refl _))) ?_
  have ed : (b.drop (Int.toNat 132)).take (b.length - Int.toNat 132) = b.drop 132 := List.take_of_length_le (by rw [List.length_drop]; exact Nat.le_refl _)
  have dl : (b.drop 132).length = b.length - 132 := List.length_drop
  conv => whnf
  try (refine ⟨by kernel_rfl, ?_⟩; conv => whnf)
  refine onlyIf_intro (by simp [maxLen, bts_length]) ?_
  conv => whnf
  try (refine ⟨by kernel_rfl, ?_⟩; conv => whnf)
  refine onlyIf_intro (by simp [maxLen, bts_length]; omega) ?_
  refine .read (b.drop 132).length (bts (b.drop 132)) ((Nat.zero_add _).trans (congrArg List.length ed)) (congrArg bts ed) (by rw [bts_length, Nat.mul_one]) (bts_noHs _) ?_
  conv => whnf
  try (refine ⟨by kernel_rfl, ?_⟩; conv => whnf)
  have t1 : (bts (seg b 32 32)).length = 32 := by rw [bts_length, seg_len (by omega)]
  have t2 : (bts (seg b 66 32)).length = 32 := by rw [bts_length, seg_len (by omega)]
  refine bindP_intro (vpure_build (R := ldC false true (ldGetT 0 b)) rfl rfl rfl rfl ?_) ?_
  · refine fill_zz (Z := _) (R := ldC false true (ldGetT 0 b)) (fun Z hl hz => ?_) rfl rfl
    have zz : Z.drop 75 = (Z.drop 75).take 2 ++ ((Z.drop 77).take 1 ++ Z.drop 78) := by rw [hz]; rfl
    refine fill_next (A := []) (z := Z) (g := 1) rfl rfl rfl rfl (by simp [hl]) ?_
    refine fill_next (g := 4) rfl rfl t1 (by simp [hl, words_length]) (by simp [hl]) ?_
    refine fill_next (g := 0) rfl rfl rfl (by simp [hl, t1, words_length]) (by simp [hl]) ?_
    refine fill_next (g := 0) rfl rfl t2 (by simp [hl, t1, words_length]) (by simp [hl]) ?_
    refine fill_next (g := 0) rfl rfl rfl (by simp [hl, t1, t2, words_length]) (by simp [hl]) ?_
    refine fill_at (A := Z.take 1 ++ uC (fromV (seg b 0 32) 32)) (B := (Z.drop 5).take 4) (Z := bts (seg b 32 32) ++ ([nI .i64 (at2 b 64)] ++ (bts (seg b 66 32) ++ ([nI .i64 (at2 b 98)] ++ ((Z.drop 75).take 2 ++ ((Z.drop 77).take 1 ++ Z.drop 78)))))) rfl rfl rfl (by rw [← zz]; simp [List.append_assoc, List.drop_drop, nI, uC] <;> rfl) (by simp [hl, uC, words_length]) (by simp [hl]) ?_
    refine fill_at (A := Z.take 1 ++ (uC (fromV (seg b 0 32) 32) ++ (uC (fromV (seg b 100 32) 32) ++ (bts (seg b 32 32) ++ ([nI .i64 (at2 b 64)] ++ (bts (seg b 66 32) ++ ([nI .i64 (at2 b 98)] ++ (Z.drop 75).take 2))))))) (B := (Z.drop 77).take 1) (Z := Z.drop 78) rfl rfl rfl (by simp [List.append_assoc, uC]) (by simp [hl, t1, t2, uC, words_length]) (by simp [hl]) ?_
    refine congrArg some ?_
    rw [hz]
    simp only [List.append_assoc]
    rfl
  · have cl := (ldC_ok (fd := false) (fk := true) (l := ldGetT 0 b) (seg_len (by omega)) (seg_len (by omega))).len
    conv => whnf
    try (refine ⟨by kernel_rfl, ?_⟩; conv => whnf)
    refine onlyIf_intro (by simp [words_length, *, cl]) ?_; rw [splice_all (by simp [words_length, *, cl])]; conv => whnf
    conv => whnf
    try (refine ⟨by kernel_rfl, ?_⟩; conv => whnf)
    exact ⟨_, vres_two rfl (vres_cell rfl rfl (load_agg rfl rfl cl)) rfl, deepV_noH _ _ (by simp only [noHs, noH, nI, ldC_noHs, Bool.and_self])⟩
end Go.Proofs.Ytilmfdlonpjjiaa
namespace Go.Proofs.Ytilmfdlonpjjiaa
set_option linter.unusedVariables false
set_option linter.unusedSimpArgs false
set_option linter.unusedSectionVars false
open Go.ChangeShapes Go.WideShapes Go.ChangeAt Go.RowKit Go.Joins
set_option maxRecDepth 10000
/-- No load. -/
def ld0 : LdD := ⟨0, 0, 0, z32, 0, z32, 0, 0, [], [], 0, []⟩
theorem tget_short {f p : Bool} {b : List Nat} (h : b.length < 132) : FnV Try.prog G0 100 [.agg [bI p], .ds f b.length (bts b)] (.tup [.agg (ldC true true ld0), nI .i64 4]) := by
  have e : (VV.tup [.agg (ldC true true ld0), nI .i64 4]) = .tup [.agg ((nI .i64 0 :: (words [0, 0, 0, 0] ++ words [0, 0, 0, 0])) ++ (bts z32 ++ (nI .i64 0 :: (bts z32 ++ ldT true true ld0)))), nI .i64 4] := by
    unfold ldC
    rw [show uC ld0.amt = words [0, 0, 0, 0] from uC_lit (n := 0) (by decide), show uC ld0.fee = words [0, 0, 0, 0] from uC_lit (n := 0) (by decide)]
    rfl
  rw [e]
  refine fn_of_vwp Γok Try.func100 (by kernel_rfl) rfl (by simp [Try.ntmps100]) (wpv_ok Γok (by kernel_rfl) _ _ _ ?_); conv => whnf
  rw [decide_eq_true (show ((b.length : Nat) : Int) < 132 by omega)]
  conv => whnf
  try (refine ⟨by kernel_rfl, ?_⟩; conv => whnf)
  exact ⟨_, rfl, rfl⟩
theorem mget_short {f : Bool} {b : List Nat} (h : b.length < 67) : FnV Try.prog G0 109 [.agg [], .ds f b.length (bts b)] (.tup [.agg (ldC true true ld0), nI .i64 4]) := by
  have e : (VV.tup [.agg (ldC true true ld0), nI .i64 4]) = .tup [.agg ((nI .i64 0 :: (words [0, 0, 0, 0] ++ words [0, 0, 0, 0])) ++ (bts z32 ++ (nI .i64 0 :: (bts z32 ++ ldT true true ld0)))), nI .i64 4] := by
    unfold ldC
    rw [show uC ld0.amt = words [0, 0, 0, 0] from uC_lit (n := 0) (by decide), show uC ld0.fee = words [0, 0, 0, 0] from uC_lit (n := 0) (by decide)]
    rfl
  rw [e]
  refine fn_of_vwp Γok Try.func109 (by kernel_rfl) rfl (by simp [Try.ntmps109]) (wpv_ok Γok (by kernel_rfl) _ _ _ ?_); conv => whnf
  rw [decide_eq_true (show ((b.length : Nat) : Int) < 67 by omega)]
  conv => whnf
  try (refine ⟨by kernel_rfl, ?_⟩; conv => whnf)
  exact ⟨_, rfl, rfl⟩
theorem mget_form {f : Bool} {b : List Nat} (h : 67 < b.length) : FnV Try.prog G0 109 [.agg [], .ds f b.length (bts b)] (.tup [.agg (ldC true true ld0), nI .i64 3]) := by
  have e : (VV.tup [.agg (ldC true true ld0), nI .i64 3]) = .tup [.agg ((nI .i64 0 :: (words [0, 0, 0, 0] ++ words [0, 0, 0, 0])) ++ (bts z32 ++ (nI .i64 0 :: (bts z32 ++ ldT true true ld0)))), nI .i64 3] := by
    unfold ldC
    rw [show uC ld0.amt = words [0, 0, 0, 0] from uC_lit (n := 0) (by decide), show uC ld0.fee = words [0, 0, 0, 0] from uC_lit (n := 0) (by decide)]
    rfl
  rw [e]
  refine fn_of_vwp Γok Try.func109 (by kernel_rfl) rfl (by simp [Try.ntmps109]) (wpv_ok Γok (by kernel_rfl) _ _ _ ?_); conv => whnf
  rw [decide_eq_false (show ¬ ((b.length : Nat) : Int) < 67 by omega)]
  conv => whnf
  try (refine ⟨by kernel_rfl, ?_⟩; conv => whnf)
  rw [decide_eq_true (show ((b.length : Nat) : Int) > 67 by omega)]
  conv => whnf
  try (refine ⟨by kernel_rfl, ?_⟩; conv => whnf)
  exact ⟨_, rfl, rfl⟩
end Go.Proofs.Ytilmfdlonpjjiaa
namespace Go.Proofs.Ytilmfdlonpjjiaa
set_option linter.unusedVariables false
set_option linter.unusedSimpArgs false
set_option linter.unusedSectionVars false
open Go.ChangeShapes Go.WideShapes Go.ChangeAt Go.RowKit Go.Joins
set_option maxRecDepth 10000
/-- The cells of a load as yet unwritten. -/
noncomputable def zLd : List VV := match Γ 32 with | some r => r.zero | none => []
theorem mget_fn {f : Bool} {b : List Nat} (hb : ∀ x ∈ b, x < 256) (h : b.length = 67) : FnV Try.prog G0 109 [.agg [], .ds f b.length (bts b)] (.tup [.agg (ldC true true { ldGetM b with kind := 0 }), nI .i64 0]) := by
  have wd : ∀ (g : Bool) (i : Nat), i + 32 ≤ b.length → FnV Try.prog G0 103 [.ds g (seg b i 32).length (bts (seg b i 32))] (.agg (bts (seg b i 32))) := fun g i hi => by
    have l32 := seg_len hi
    have := lword_fn (f := g) (b := seg b i 32) (by omega)
    rwa [padB_32 l32] at this
  have g32 := lgetD_lt hb 32
  have g33 := lgetD_lt hb 33
  have g34 := lgetD_lt hb 34
  have zl : zLd.length = 80 := rfl
  have nb : noHs (bts b) = true := bts_noHs b
  refine fn_of_vwp Γok Try.func109 (by kernel_rfl) rfl (by simp [Try.ntmps109]) (wpv_ok Γok (by kernel_rfl) _ _ _ ?_); conv => whnf
  rw [decide_eq_false (show ¬ ((b.length : Nat) : Int) < 67 by omega)]
  conv => whnf
  try (refine ⟨by kernel_rfl, ?_⟩; conv => whnf)
  rw [decide_eq_false (show ¬ ((b.length : Nat) : Int) > 67 by omega)]
  conv => whnf
  try (refine ⟨by kernel_rfl, ?_⟩; conv => whnf)
  refine vloop_invK G0ok [(0, some 1)] 1 (X := Nat) (fun i => [(6, nI .i64 ((35 + i : Nat) : Int)), (4, .ptr 0 0), (1, .ds f b.length (bts b))]) (fun _ => [(0, some zLd)]) (fun i => i ≤ 32 ∧ endM b i = endM b 32) (fun i => i) 32 rfl
    ⟨⟨_, rfl, conv_nI (rfl)⟩, ⟨_, rfl, .ptr rfl⟩, ⟨_, rfl, conv_eq rfl (nb)⟩, trivial⟩ ⟨.inr ⟨_, _, rfl, rfl, .same rfl⟩, trivial⟩ ⟨Nat.le_refl _, rfl⟩ ?_
  intro i hi
  try dsimp only at hi ⊢
  obtain ⟨hi, he⟩ := hi
  refine wpv_ok Γok (by kernel_rfl) _ _ _ ?_; conv => whnf
  by_cases hc : ((35 + i : Nat) : Int) > 35
  · rw [decide_eq_true hc]
    obtain ⟨j, rfl⟩ : ∃ j, i = j + 1 := ⟨i - 1, by omega⟩
    have gj := lgetD_lt hb (35 + j)
    conv => whnf
    try (refine ⟨by kernel_rfl, ?_⟩; conv => whnf)
    rw [ws_i64 (x := ((35 + (j + 1) : Nat) : Int) - 1) (by omega) (by omega)]
    refine bindP_intro (if_pos (inB_ok (by omega) (by omega))) ?_; conv => whnf
    refine bindP_intro (bts_ix (i := 35 + j) (by dsimp only; omega) (by omega)) ?_
    conv => whnf
    try (refine ⟨by kernel_rfl, ?_⟩; conv => whnf)
    rw [show (((b.getD (35 + j) 0 : Nat) : Int) == 0) = decide (b.getD (35 + j) 0 = 0) from beq_lit _ 0]
    by_cases z : b.getD (35 + j) 0 = 0
    · rw [decide_eq_true z]
      have e2 : endM b (j + 1) = endM b j := by show (if b.getD (35 + j) 0 = 0 then _ else _) = _; rw [if_pos z]
      conv => whnf
      try (refine ⟨by kernel_rfl, ?_⟩; conv => whnf)
      refine next_round (y := j + 1) G0ok j [(0, some 0)] rfl ⟨⟨_, rfl, conv_nI ((ws_i64 (by omega) (by omega)).trans (by omega))⟩, ⟨_, rfl, .ptr rfl⟩, ⟨_, rfl, conv_eq rfl (nb)⟩, trivial⟩ ⟨.inr ⟨_, _, rfl, rfl, .same rfl⟩, trivial⟩ ⟨by omega, e2.symm.trans he⟩ (by omega)
    · rw [decide_eq_false z]
      have e2 : endM b 32 = 35 + (j + 1) := by rw [← he]; show (if b.getD (35 + j) 0 = 0 then _ else _) = _; rw [if_neg z]; omega
      conv => whnf
      try (refine ⟨by kernel_rfl, ?_⟩; conv => whnf)
      refine bindP_intro (vpure_slice (vslice_bts rfl rfl rfl (by rfl) (by rfl) (by decide) (by omega))) ?_
      conv => whnf
      try (refine ⟨by kernel_rfl, ?_⟩; conv => whnf)
      refine ⟨_, ret_of_fn G0ok (wd (f && decide (Int.toNat 32 = b.length)) 0 (by omega)) (by first | rfl | simp only [noHs, noH, nI, bI, Bool.and_self, Bool.and_true, Bool.true_and, bts_noHs]) (by first | rfl | simp only [noHs, noH, nI, bI, Bool.and_self, Bool.and_true, Bool.true_and, bts_noHs]), ?_⟩; (conv => whnf); (try (refine ⟨by kernel_rfl, ?_⟩; conv => whnf))
      refine bindP_intro (if_pos (inB_ok (by omega) (by omega))) ?_; conv => whnf
      refine bindP_intro (bts_ix (i := 32) rfl (by omega)) ?_
      conv => whnf
      try (refine ⟨by kernel_rfl, ?_⟩; conv => whnf)
      refine bindP_intro (if_pos (inB_ok (by omega) (by omega))) ?_; conv => whnf
      refine bindP_intro (bts_ix (i := 33) rfl (by omega)) ?_
      conv => whnf
      try (refine ⟨by kernel_rfl, ?_⟩; conv => whnf)
      rw [ws_i64 (x := ((b.getD 32 0 : Nat) : Int)) (by omega) (by omega), ws_i64 (x := ((b.getD 33 0 : Nat) : Int)) (by omega) (by omega), lor8 g32 g33, show b.getD 32 0 * 256 + b.getD 33 0 = at2 b 32 from rfl]
      refine bindP_intro (if_pos (inB_ok (by omega) (by omega))) ?_; conv => whnf
      refine bindP_intro (bts_ix (i := 34) rfl (by omega)) ?_
      conv => whnf
      try (refine ⟨by kernel_rfl, ?_⟩; conv => whnf)
      rw [ws_i64 (x := ((b.getD 34 0 : Nat) : Int)) (by omega) (by omega)]
      refine bindP_intro (vpure_slice (vslice_bts rfl rfl rfl (by rfl) (by rfl) (by omega) (by omega))) ?_
      conv => whnf
      try (refine ⟨by kernel_rfl, ?_⟩; conv => whnf)
      have sl : (seg b 35 ((35 + (j + 1)) - 35)).length = (35 + (j + 1)) - 35 := seg_len (by omega)
      have es : (b.drop (Int.toNat 35)).take ((((35 + (j + 1) : Nat) : Int)).toNat - Int.toNat 35) = seg b 35 ((35 + (j + 1)) - 35) := rfl
      refine ⟨(seg b 35 ((35 + (j + 1)) - 35)).map fun n => n.toUInt8, (congrArg bts es).trans (sym_cells fun x hx => hb x (seg_mem hx)).symm, (congrArg List.length es).trans (List.length_map _).symm, ?_⟩
      conv => whnf
      try (refine ⟨by kernel_rfl, ?_⟩; conv => whnf)
      have t1 : (bts (seg b 0 32)).length = 32 := by rw [bts_length, seg_len (by omega)]
      have me : { ldGetM b with kind := 0 } = (⟨0, 0, 0, seg b 0 32, at2 b 32, z32, 0, b.getD 34 0, seg b 35 ((35 + (j + 1)) - 35), [], 0, []⟩ : LdD) := by unfold ldGetM; rw [e2]
      rw [me]
      refine bindP_intro (vpure_build (R := ldC true true ⟨0, 0, 0, seg b 0 32, at2 b 32, z32, 0, b.getD 34 0, seg b 35 ((35 + (j + 1)) - 35), [], 0, []⟩) rfl rfl rfl rfl ?_) ?_
      · refine fill_zz (Z := _) (R := ldC true true ⟨0, 0, 0, seg b 0 32, at2 b 32, z32, 0, b.getD 34 0, seg b 35 ((35 + (j + 1)) - 35), [], 0, []⟩) (fun Z hl hz => ?_) rfl rfl
        refine fill_next (A := []) (z := Z) (g := 9) rfl rfl t1 rfl (by simp [hl]) ?_
        refine fill_next (g := 0) rfl rfl rfl (by simp [hl, t1]) (by simp [hl]) ?_
        refine fill_next (g := 33) rfl rfl rfl (by simp [hl, t1]) (by simp [hl]) ?_
        refine fill_next (g := 0) rfl rfl rfl (by simp [hl, t1]) (by simp [hl]) ?_
        refine congrArg some ?_
        refine Eq.trans (b := Z.take 9 ++ (bts (seg b 0 32) ++ ([nI .i64 (at2 b 32)] ++ ((Z.drop 42).take 33 ++ ([nI .i64 (b.getD 34 0)] ++ ([.v (.string ⟨((seg b 35 ((35 + (j + 1)) - 35)).map fun n => n.toUInt8).toArray⟩)] ++ Z.drop 77)))))) (by simp [List.append_assoc, List.drop_drop, nI] <;> rfl) ?_
        unfold ldC ldT
        rw [uC_lit (n := 0) (by decide), hz]
        rfl
      · have cl := (ldC_ok (fd := true) (fk := true) (l := ⟨0, 0, 0, seg b 0 32, at2 b 32, z32, 0, b.getD 34 0, seg b 35 ((35 + (j + 1)) - 35), [], 0, []⟩) (seg_len (by omega)) rfl).len
        conv => whnf
        try (refine ⟨by kernel_rfl, ?_⟩; conv => whnf)
        refine onlyIf_intro (by rw [cl]; rfl) ?_
        rw [splice_all (cl.trans zl.symm)]
        conv => whnf
        try (refine ⟨by kernel_rfl, ?_⟩; conv => whnf)
        exact ⟨_, vres_two rfl (vres_cell rfl rfl (load_agg rfl rfl cl)) rfl, deepV_noH _ _ (by simp only [noHs, noH, nI, ldC_noHs, Bool.and_self])⟩

  · rw [decide_eq_false hc]
    have i0 : i = 0 := by omega
    subst i0
    have e2 : endM b 32 = 35 + 0 := by rw [← he]; rfl
    conv => whnf
    try (refine ⟨by kernel_rfl, ?_⟩; conv => whnf)
    refine bindP_intro (vpure_slice (vslice_bts rfl rfl rfl (by rfl) (by rfl) (by decide) (by omega))) ?_
    conv => whnf
    try (refine ⟨by kernel_rfl, ?_⟩; conv => whnf)
    refine ⟨_, ret_of_fn G0ok (wd (f && decide (Int.toNat 32 = b.length)) 0 (by omega)) (by first | rfl | simp only [noHs, noH, nI, bI, Bool.and_self, Bool.and_true, Bool.true_and, bts_noHs]) (by first | rfl | simp only [noHs, noH, nI, bI, Bool.and_self, Bool.and_true, Bool.true_and, bts_noHs]), ?_⟩; (conv => whnf); (try (refine ⟨by kernel_rfl, ?_⟩; conv => whnf))
    refine bindP_intro (if_pos (inB_ok (by omega) (by omega))) ?_; conv => whnf
    refine bindP_intro (bts_ix (i := 32) rfl (by omega)) ?_
    conv => whnf
    try (refine ⟨by kernel_rfl, ?_⟩; conv => whnf)
    refine bindP_intro (if_pos (inB_ok (by omega) (by omega))) ?_; conv => whnf
    refine bindP_intro (bts_ix (i := 33) rfl (by omega)) ?_
    conv => whnf
    try (refine ⟨by kernel_rfl, ?_⟩; conv => whnf)
    rw [ws_i64 (x := ((b.getD 32 0 : Nat) : Int)) (by omega) (by omega), ws_i64 (x := ((b.getD 33 0 : Nat) : Int)) (by omega) (by omega), lor8 g32 g33, show b.getD 32 0 * 256 + b.getD 33 0 = at2 b 32 from rfl]
    refine bindP_intro (if_pos (inB_ok (by omega) (by omega))) ?_; conv => whnf
    refine bindP_intro (bts_ix (i := 34) rfl (by omega)) ?_
    conv => whnf
    try (refine ⟨by kernel_rfl, ?_⟩; conv => whnf)
    rw [ws_i64 (x := ((b.getD 34 0 : Nat) : Int)) (by omega) (by omega)]
    refine bindP_intro (vpure_slice (vslice_bts rfl rfl rfl (by rfl) (by rfl) (by omega) (by omega))) ?_
    conv => whnf
    try (refine ⟨by kernel_rfl, ?_⟩; conv => whnf)
    have sl : (seg b 35 ((35 + 0) - 35)).length = (35 + 0) - 35 := seg_len (by omega)
    have es : (b.drop (Int.toNat 35)).take ((((35 + 0 : Nat) : Int)).toNat - Int.toNat 35) = seg b 35 ((35 + 0) - 35) := rfl
    refine ⟨(seg b 35 ((35 + 0) - 35)).map fun n => n.toUInt8, (congrArg bts es).trans (sym_cells fun x hx => hb x (seg_mem hx)).symm, (congrArg List.length es).trans (List.length_map _).symm, ?_⟩
    conv => whnf
    try (refine ⟨by kernel_rfl, ?_⟩; conv => whnf)
    have t1 : (bts (seg b 0 32)).length = 32 := by rw [bts_length, seg_len (by omega)]
    have me : { ldGetM b with kind := 0 } = (⟨0, 0, 0, seg b 0 32, at2 b 32, z32, 0, b.getD 34 0, seg b 35 ((35 + 0) - 35), [], 0, []⟩ : LdD) := by unfold ldGetM; rw [e2]
    rw [me]
    refine bindP_intro (vpure_build (R := ldC true true ⟨0, 0, 0, seg b 0 32, at2 b 32, z32, 0, b.getD 34 0, seg b 35 ((35 + 0) - 35), [], 0, []⟩) rfl rfl rfl rfl ?_) ?_
    · refine fill_zz (Z := _) (R := ldC true true ⟨0, 0, 0, seg b 0 32, at2 b 32, z32, 0, b.getD 34 0, seg b 35 ((35 + 0) - 35), [], 0, []⟩) (fun Z hl hz => ?_) rfl rfl
      refine fill_next (A := []) (z := Z) (g := 9) rfl rfl t1 rfl (by simp [hl]) ?_
      refine fill_next (g := 0) rfl rfl rfl (by simp [hl, t1]) (by simp [hl]) ?_
      refine fill_next (g := 33) rfl rfl rfl (by simp [hl, t1]) (by simp [hl]) ?_
      refine fill_next (g := 0) rfl rfl rfl (by simp [hl, t1]) (by simp [hl]) ?_
      refine congrArg some ?_
      refine Eq.trans (b := Z.take 9 ++ (bts (seg b 0 32) ++ ([nI .i64 (at2 b 32)] ++ ((Z.drop 42).take 33 ++ ([nI .i64 (b.getD 34 0)] ++ ([.v (.string ⟨((seg b 35 ((35 + 0) - 35)).map fun n => n.toUInt8).toArray⟩)] ++ Z.drop 77)))))) (by simp [List.append_assoc, List.drop_drop, nI] <;> rfl) ?_
      unfold ldC ldT
      rw [uC_lit (n := 0) (by decide), hz]
      rfl
    · have cl := (ldC_ok (fd := true) (fk := true) (l := ⟨0, 0, 0, seg b 0 32, at2 b 32, z32, 0, b.getD 34 0, seg b 35 ((35 + 0) - 35), [], 0, []⟩) (seg_len (by omega)) rfl).len
      conv => whnf
      try (refine ⟨by kernel_rfl, ?_⟩; conv => whnf)
      refine onlyIf_intro (by rw [cl]; rfl) ?_
      rw [splice_all (cl.trans zl.symm)]
      conv => whnf
      try (refine ⟨by kernel_rfl, ?_⟩; conv => whnf)
      exact ⟨_, vres_two rfl (vres_cell rfl rfl (load_agg rfl rfl cl)) rfl, deepV_noH _ _ (by simp only [noHs, noH, nI, ldC_noHs, Bool.and_self])⟩
end Go.Proofs.Ytilmfdlonpjjiaa
namespace Go.Proofs.Ytilmfdlonpjjiaa
set_option linter.unusedVariables false
set_option linter.unusedSimpArgs false
set_option linter.unusedSectionVars false
open Go.ChangeShapes Go.WideShapes Go.ChangeAt Go.RowKit Go.Joins
set_option maxRecDepth 10000
theorem kget_short {f : Bool} {b : List Nat} (h : b.length < 5) : FnV Try.prog G0 113 [.agg [], .ds f b.length (bts b)] (.tup [.agg (ldC true true ld0), nI .i64 4]) := by
  have e : (VV.tup [.agg (ldC true true ld0), nI .i64 4]) = .tup [.agg ((nI .i64 0 :: (words [0, 0, 0, 0] ++ words [0, 0, 0, 0])) ++ (bts z32 ++ (nI .i64 0 :: (bts z32 ++ ldT true true ld0)))), nI .i64 4] := by
    unfold ldC
    rw [show uC ld0.amt = words [0, 0, 0, 0] from uC_lit (n := 0) (by decide), show uC ld0.fee = words [0, 0, 0, 0] from uC_lit (n := 0) (by decide)]
    rfl
  rw [e]
  refine fn_of_vwp Γok Try.func113 (by kernel_rfl) rfl (by simp [Try.ntmps113]) (wpv_ok Γok (by kernel_rfl) _ _ _ ?_); conv => whnf
  rw [decide_eq_true (show ((b.length : Nat) : Int) < 5 by omega)]
  conv => whnf
  try (refine ⟨by kernel_rfl, ?_⟩; conv => whnf)
  exact ⟨_, rfl, rfl⟩
theorem kget_cut {f : Bool} {b : List Nat} (hb : ∀ x ∈ b, x < 256) (h5 : 5 ≤ b.length) (h : b.length < 5 + 20 * b.getD 4 0) : FnV Try.prog G0 113 [.agg [], .ds f b.length (bts b)] (.tup [.agg (ldC true true ld0), nI .i64 4]) := by
  have e : (VV.tup [.agg (ldC true true ld0), nI .i64 4]) = .tup [.agg ((nI .i64 0 :: (words [0, 0, 0, 0] ++ words [0, 0, 0, 0])) ++ (bts z32 ++ (nI .i64 0 :: (bts z32 ++ ldT true true ld0)))), nI .i64 4] := by
    unfold ldC
    rw [show uC ld0.amt = words [0, 0, 0, 0] from uC_lit (n := 0) (by decide), show uC ld0.fee = words [0, 0, 0, 0] from uC_lit (n := 0) (by decide)]
    rfl
  rw [e]
  have g4 := lgetD_lt hb 4
  refine fn_of_vwp Γok Try.func113 (by kernel_rfl) rfl (by simp [Try.ntmps113]) (wpv_ok Γok (by kernel_rfl) _ _ _ ?_); conv => whnf
  rw [decide_eq_false (show ¬ ((b.length : Nat) : Int) < 5 by omega)]
  conv => whnf
  try (refine ⟨by kernel_rfl, ?_⟩; conv => whnf)
  refine bindP_intro (if_pos (inB_ok (by omega) (by omega))) ?_; conv => whnf
  refine bindP_intro (bts_ix (i := 4) rfl (by omega)) ?_
  conv => whnf
  try (refine ⟨by kernel_rfl, ?_⟩; conv => whnf)
  rw [ws_i64 (x := ((b.getD 4 0 : Nat) : Int)) (by omega) (by omega)]
  rw [ws_i64 (x := 20 * ((b.getD 4 0 : Nat) : Int)) (by omega) (by omega), ws_i64 (x := 5 + 20 * ((b.getD 4 0 : Nat) : Int)) (by omega) (by omega), decide_eq_true (show ((b.length : Nat) : Int) < 5 + 20 * ((b.getD 4 0 : Nat) : Int) by omega)]
  conv => whnf
  try (refine ⟨by kernel_rfl, ?_⟩; conv => whnf)
  exact ⟨_, rfl, rfl⟩
theorem shl_at {c : Nat} (hc : c < 256) (k m : Nat) (hm : 2 ^ k = m) (h : m ≤ 16777216) (e : min (Int.toNat (k : Int)) IntKind.i64.bits = k) : wS .i64 ((c : Int) * 2 ^ min (Int.toNat (k : Int)) IntKind.i64.bits) = ((c * m : Nat) : Int) := by
  rw [e, show (2 : Int) ^ k = ((2 ^ k : Nat) : Int) by push_cast; rfl, hm, ← Int.natCast_mul]
  have : c * m ≤ 255 * 16777216 := Nat.mul_le_mul (by omega) h
  exact ws_i64 (by omega) (by omega)
theorem or_nat {a b i : Nat} (ha : 2 ^ i * a < 4611686018427387904) (hb : b < 2 ^ i) (hi : i < 62) : bitS .or .i64 ((2 ^ i * a : Nat) : Int) ((b : Nat) : Int) = ((2 ^ i * a + b : Nat) : Int) := by
  have hb' : b < 4611686018427387904 := Nat.lt_of_lt_of_le hb (Nat.le_trans (Nat.pow_le_pow_right (by decide) (Nat.le_of_lt hi)) (by decide))
  rw [bitS_eq]
  unfold bitI
  simp only [BitVec.toNat_or]
  rw [bv_toNat_ofNat (show 2 ^ i * a < 2 ^ IntKind.i64.bits by simp only [IntKind.bits]; omega), bv_toNat_ofNat (show b < 2 ^ IntKind.i64.bits by simp only [IntKind.bits]; omega), ← wS_eq, ← Nat.two_pow_add_eq_or_of_lt hb a]
  have : b < 2 ^ i := hb
  have : 2 ^ i * a + b < 9223372036854775808 := by omega
  exact ws_i64 (by omega) (by omega)
theorem index_val {x y z w : Nat} (hx : x < 256) (hy : y < 256) (hz : z < 256) (hw : w < 256) :
    bitS .or .i64 (bitS .or .i64 (bitS .or .i64 (wS .i64 (wS .i64 (x : Int) * 2 ^ min (Int.toNat 24) IntKind.i64.bits)) (wS .i64 (wS .i64 (y : Int) * 2 ^ min (Int.toNat 16) IntKind.i64.bits))) (wS .i64 (wS .i64 (z : Int) * 2 ^ min (Int.toNat 8) IntKind.i64.bits))) (wS .i64 (w : Int)) = ((x * 16777216 + y * 65536 + z * 256 + w : Nat) : Int) := by
  rw [ws_i64 (x := (x : Int)) (by omega) (by omega), ws_i64 (x := (y : Int)) (by omega) (by omega), ws_i64 (x := (z : Int)) (by omega) (by omega), ws_i64 (x := (w : Int)) (by omega) (by omega)]
  rw [show wS .i64 ((x : Int) * 2 ^ min (Int.toNat 24) IntKind.i64.bits) = ((x * 16777216 : Nat) : Int) from shl_at hx 24 _ rfl (by decide) rfl, show wS .i64 ((y : Int) * 2 ^ min (Int.toNat 16) IntKind.i64.bits) = ((y * 65536 : Nat) : Int) from shl_at hy 16 _ rfl (by decide) rfl, show wS .i64 ((z : Int) * 2 ^ min (Int.toNat 8) IntKind.i64.bits) = ((z * 256 : Nat) : Int) from shl_at hz 8 _ rfl (by decide) rfl]
  rw [show x * 16777216 = 2 ^ 24 * x by omega, or_nat (by omega) (by omega) (by decide), show 2 ^ 24 * x + y * 65536 = 2 ^ 16 * (256 * x + y) by omega, or_nat (by omega) (by omega) (by decide), show 2 ^ 16 * (256 * x + y) + z * 256 = 2 ^ 8 * (65536 * x + 256 * y + z) by omega, or_nat (by omega) (by omega) (by decide)]
theorem kget_form {f : Bool} {b : List Nat} (hb : ∀ x ∈ b, x < 256) (h : 5 + 20 * b.getD 4 0 < b.length) (hm : b.length ≤ 140737488355328) : FnV Try.prog G0 113 [.agg [], .ds f b.length (bts b)] (.tup [.agg (ldC true true ld0), nI .i64 3]) := by
  have e : (VV.tup [.agg (ldC true true ld0), nI .i64 3]) = .tup [.agg ((nI .i64 0 :: (words [0, 0, 0, 0] ++ words [0, 0, 0, 0])) ++ (bts z32 ++ (nI .i64 0 :: (bts z32 ++ ldT true true ld0)))), nI .i64 3] := by
    unfold ldC
    rw [show uC ld0.amt = words [0, 0, 0, 0] from uC_lit (n := 0) (by decide), show uC ld0.fee = words [0, 0, 0, 0] from uC_lit (n := 0) (by decide)]
    rfl
  rw [e]
  have g4 := lgetD_lt hb 4
  refine fn_of_vwp Γok Try.func113 (by kernel_rfl) rfl (by simp [Try.ntmps113]) (wpv_ok Γok (by kernel_rfl) _ _ _ ?_); conv => whnf
  rw [decide_eq_false (show ¬ ((b.length : Nat) : Int) < 5 by omega)]
  conv => whnf
  try (refine ⟨by kernel_rfl, ?_⟩; conv => whnf)
  refine bindP_intro (if_pos (inB_ok (by omega) (by omega))) ?_; conv => whnf
  refine bindP_intro (bts_ix (i := 4) rfl (by omega)) ?_
  conv => whnf
  try (refine ⟨by kernel_rfl, ?_⟩; conv => whnf)
  rw [ws_i64 (x := ((b.getD 4 0 : Nat) : Int)) (by omega) (by omega)]
  rw [ws_i64 (x := 20 * ((b.getD 4 0 : Nat) : Int)) (by omega) (by omega), ws_i64 (x := 5 + 20 * ((b.getD 4 0 : Nat) : Int)) (by omega) (by omega), decide_eq_false (show ¬ ((b.length : Nat) : Int) < 5 + 20 * ((b.getD 4 0 : Nat) : Int) by omega)]
  conv => whnf
  try (refine ⟨by kernel_rfl, ?_⟩; conv => whnf)
  refine bindP_intro (if_pos (inB_ok (by omega) (by omega))) ?_; conv => whnf
  refine bindP_intro (bts_ix (i := 0) rfl (by omega)) ?_
  conv => whnf
  try (refine ⟨by kernel_rfl, ?_⟩; conv => whnf)
  refine bindP_intro (if_pos (inB_ok (by omega) (by omega))) ?_; conv => whnf
  refine bindP_intro (bts_ix (i := 1) rfl (by omega)) ?_
  conv => whnf
  try (refine ⟨by kernel_rfl, ?_⟩; conv => whnf)
  refine bindP_intro (if_pos (inB_ok (by omega) (by omega))) ?_; conv => whnf
  refine bindP_intro (bts_ix (i := 2) rfl (by omega)) ?_
  conv => whnf
  try (refine ⟨by kernel_rfl, ?_⟩; conv => whnf)
  refine bindP_intro (if_pos (inB_ok (by omega) (by omega))) ?_; conv => whnf
  refine bindP_intro (bts_ix (i := 3) rfl (by omega)) ?_
  conv => whnf
  try (refine ⟨by kernel_rfl, ?_⟩; conv => whnf)
  refine bindP_intro (if_pos (inB_ok (by omega) (by omega))) ?_; conv => whnf
  refine bindP_intro (bts_ix (i := 4) rfl (by omega)) ?_
  conv => whnf
  try (refine ⟨by kernel_rfl, ?_⟩; conv => whnf)
  rw [ws_i64 (x := ((b.getD 4 0 : Nat) : Int)) (by omega) (by omega)]
  rw [ws_i64 (x := 20 * ((b.getD 4 0 : Nat) : Int)) (by omega) (by omega), ws_i64 (x := 5 + 20 * ((b.getD 4 0 : Nat) : Int)) (by omega) (by omega), decide_eq_true (show ((b.length : Nat) : Int) > 5 + 20 * ((b.getD 4 0 : Nat) : Int) by omega)]
  conv => whnf
  try (refine ⟨by kernel_rfl, ?_⟩; conv => whnf)
  exact ⟨_, rfl, rfl⟩
theorem convs_app {ren : List (Nat × Option Nat)} {lkF : Nat → Option (List VV)} {B B' : List VV} (h : Convs ren lkF B B') : ∀ {A : List VV}, noHs A = true → Convs ren lkF (A ++ B) (A ++ B')
  | [], _ => h
  | v :: A, hn => by
    have hn : (noH v && noHs A) = true := hn
    rw [Bool.and_eq_true] at hn
    exact .cons (.same hn.1) (convs_app h hn.2)
theorem mapO_app {k : Nat} {lkf : Nat → Option (List VV)} {B B' : List VV} (h : mapO (deepV k lkf) B = some B') : ∀ {A : List VV}, noHs A = true → mapO (deepV k lkf) (A ++ B) = some (A ++ B')
  | [], _ => h
  | v :: A, hn => by
    have hn : (noH v && noHs A) = true := hn
    rw [Bool.and_eq_true] at hn
    exact mapO_cons (deepV_noH _ _ hn.1) (mapO_app h hn.2)
theorem noHs_sl {x : VV} {h o n w : Nat} (A : List VV) : noHs (A ++ [x, .sl h o n w]) = false := by
  rw [noHs_append]
  show (noHs A && (noH x && (false && true))) = false
  simp
theorem convs_set {ren : List (Nat × Option Nat)} {lkF : Nat → Option (List VV)} {A B' : List VV} {x y v : VV} {n : Nat} (h : A.length = n) (hA : noHs A = true) (hB : Convs ren lkF [x, v] B') : Convs ren lkF ((A ++ [x, y]).set (0 + (n + 1)) v) (A ++ B') := by
  subst h
  rw [show (A ++ [x, y]).set (0 + (A.length + 1)) v = A ++ [x, v] from by rw [List.set_append_right _ _ (by omega), show 0 + (A.length + 1) - A.length = 1 by omega]; rfl]
  exact convs_app hB hA
theorem kget_fn {f : Bool} {b : List Nat} (hb : ∀ x ∈ b, x < 256) (h : b.length = 5 + 20 * b.getD 4 0) : FnV Try.prog G0 113 [.agg [], .ds f b.length (bts b)] (.tup [.agg (ldC true false { ldGetK b with kind := 0 }), nI .i64 0]) := by
  have g0 := lgetD_lt hb 0
  have g1 := lgetD_lt hb 1
  have g2 := lgetD_lt hb 2
  have g3 := lgetD_lt hb 3
  have zl : zLd.length = 80 := rfl
  have nb : noHs (bts b) = true := bts_noHs b
  have g4 := lgetD_lt hb 4
  refine fn_of_vwp Γok Try.func113 (by kernel_rfl) rfl (by simp [Try.ntmps113]) (wpv_ok Γok (by kernel_rfl) _ _ _ ?_); conv => whnf
  rw [decide_eq_false (show ¬ ((b.length : Nat) : Int) < 5 by omega)]
  conv => whnf
  try (refine ⟨by kernel_rfl, ?_⟩; conv => whnf)
  refine bindP_intro (if_pos (inB_ok (by omega) (by omega))) ?_; conv => whnf
  refine bindP_intro (bts_ix (i := 4) rfl (by omega)) ?_
  conv => whnf
  try (refine ⟨by kernel_rfl, ?_⟩; conv => whnf)
  rw [ws_i64 (x := ((b.getD 4 0 : Nat) : Int)) (by omega) (by omega)]
  rw [ws_i64 (x := 20 * ((b.getD 4 0 : Nat) : Int)) (by omega) (by omega), ws_i64 (x := 5 + 20 * ((b.getD 4 0 : Nat) : Int)) (by omega) (by omega), decide_eq_false (show ¬ ((b.length : Nat) : Int) < 5 + 20 * ((b.getD 4 0 : Nat) : Int) by omega)]
  conv => whnf
  try (refine ⟨by kernel_rfl, ?_⟩; conv => whnf)
  refine bindP_intro (if_pos (inB_ok (by omega) (by omega))) ?_; conv => whnf
  refine bindP_intro (bts_ix (i := 0) rfl (by omega)) ?_
  conv => whnf
  try (refine ⟨by kernel_rfl, ?_⟩; conv => whnf)
  refine bindP_intro (if_pos (inB_ok (by omega) (by omega))) ?_; conv => whnf
  refine bindP_intro (bts_ix (i := 1) rfl (by omega)) ?_
  conv => whnf
  try (refine ⟨by kernel_rfl, ?_⟩; conv => whnf)
  refine bindP_intro (if_pos (inB_ok (by omega) (by omega))) ?_; conv => whnf
  refine bindP_intro (bts_ix (i := 2) rfl (by omega)) ?_
  conv => whnf
  try (refine ⟨by kernel_rfl, ?_⟩; conv => whnf)
  refine bindP_intro (if_pos (inB_ok (by omega) (by omega))) ?_; conv => whnf
  refine bindP_intro (bts_ix (i := 3) rfl (by omega)) ?_
  conv => whnf
  try (refine ⟨by kernel_rfl, ?_⟩; conv => whnf)
  refine bindP_intro (if_pos (inB_ok (by omega) (by omega))) ?_; conv => whnf
  refine bindP_intro (bts_ix (i := 4) rfl (by omega)) ?_
  conv => whnf
  try (refine ⟨by kernel_rfl, ?_⟩; conv => whnf)
  rw [ws_i64 (x := ((b.getD 4 0 : Nat) : Int)) (by omega) (by omega)]
  rw [ws_i64 (x := 20 * ((b.getD 4 0 : Nat) : Int)) (by omega) (by omega), ws_i64 (x := 5 + 20 * ((b.getD 4 0 : Nat) : Int)) (by omega) (by omega), decide_eq_false (show ¬ ((b.length : Nat) : Int) > 5 + 20 * ((b.getD 4 0 : Nat) : Int) by omega)]
  conv => whnf
  try (refine ⟨by kernel_rfl, ?_⟩; conv => whnf)
  rw [index_val g0 g1 g2 g3]
  refine gen_ex (zLd.take 78) fun A eA => ?_
  have lA : A.length = 78 := by rw [eA]; rfl
  have nA : noHs A = true := by rw [eA]; rfl
  have K20 : ∀ k ∈ keysF b (b.getD 4 0), k.length = 20 := fun k hk => by
    obtain ⟨i, hi, rfl⟩ := List.mem_map.1 hk
    have := List.mem_range.1 hi
    exact seg_len (by omega)
  have Kl : (keysF b (b.getD 4 0)).length = b.getD 4 0 := by unfold keysF; rw [List.length_map, List.length_range]
  have Ki : ∀ i (h : i < (keysF b (b.getD 4 0)).length), (keysF b (b.getD 4 0))[i] = seg b (5 + 20 * i) 20 := fun i h => by simp only [keysF, List.getElem_map, List.getElem_range]
  refine gen_ex (keysF b (b.getD 4 0)) fun K eK => ?_
  rw [← eK] at K20 Kl Ki
  refine gen_ex (b.getD 0 0 * 16777216 + b.getD 1 0 * 65536 + b.getD 2 0 * 256 + b.getD 3 0) fun ix eix => ?_
  rw [← eix]
  refine vloop_invK G0ok [(0, some 1), (1, some 2), (2, none)] 3 (X := Nat) (fun i => [(60, nI .i64 i), (59, nI .i64 (b.getD 4 0)), (6, .ptr 1 0), (4, .ptr 0 0), (1, .ds f b.length (bts b))]) (fun i => [(0, some zLd), (1, some (A ++ [nI .i64 ix, .sl 2 0 i 20])), (2, some (rows bts (K.take i)))]) (fun i => i ≤ K.length) (fun i => K.length - i) 0 rfl
    ⟨⟨_, rfl, conv_nI (rfl)⟩, ⟨_, rfl, conv_nI (rfl)⟩, ⟨_, rfl, .ptr rfl⟩, ⟨_, rfl, .ptr rfl⟩, ⟨_, rfl, conv_eq rfl (nb)⟩, trivial⟩ ⟨.inr ⟨_, _, rfl, rfl, .same rfl⟩, .inr ⟨_, _, rfl, rfl, (show Convs _ _ (zLd.take 78 ++ [nI .i64 ix, .ds true 0 []]) _ from by rw [← eA]; exact convs_app (.cons (.same rfl) (.cons (.null rfl) .nil)) nA)⟩, .inl ⟨rfl, rfl⟩, trivial⟩ (Nat.zero_le _) ?_
  intro i hi
  try dsimp only at hi ⊢
  refine wpv_ok Γok (by kernel_rfl) _ _ _ ?_; conv => whnf
  refine bool_cases (fun hc => ?_) (fun hc => ?_)
  · have hc := of_decide_eq_true hc
    have hc : i < K.length := by omega
    have st : K.take (i + 1) = K.take i ++ [K[i]] := by rw [List.take_add_one, List.getElem?_eq_getElem hc]; rfl
    have ki := Ki i hc
    have rl : (rows bts (K.take i)).length = i * 20 := by rw [rows_length (w := 20) fun a ha => by rw [bts_length, K20 a (List.mem_of_mem_take ha)], List.length_take, Nat.min_eq_left hi]
    conv => whnf
    try (refine ⟨by kernel_rfl, ?_⟩; conv => whnf)
    rw [ws_i64 (x := 20 * (i : Int)) (by omega) (by omega), ws_i64 (x := 5 + 20 * (i : Int)) (by omega) (by omega)]
    refine bindP_intro (vpure_slice (vslice_bts (a := 5 + 20 * i) rfl rfl rfl (by show some _ = _; congr 1) (by rfl) (by omega) (by omega))) ?_
    conv => whnf
    try (refine ⟨by kernel_rfl, ?_⟩; conv => whnf)
    refine onlyIf_intro (by rw [bts_length]; exact Nat.beq_refl _) ?_
    conv => whnf
    try (refine ⟨by kernel_rfl, ?_⟩; conv => whnf)
    have xl : ((b.drop (5 + 20 * i)).take (b.length - (5 + 20 * i))).length = b.length - (5 + 20 * i) := by rw [List.length_take, List.length_drop]; omega
    have xe : ((b.drop (5 + 20 * i)).take (b.length - (5 + 20 * i))) = b.drop (5 + 20 * i) := List.take_of_length_le (by rw [List.length_drop]; exact Nat.le_refl _)
    have e : splice (List.replicate 20 (nI .u8 0)) 0 ((bts ((b.drop (5 + 20 * i)).take (b.length - (5 + 20 * i)))).take (Nat.min ((b.drop (5 + 20 * i)).take (b.length - (5 + 20 * i))).length 20)) = bts K[i] := by
      rw [ki, xl, xe, show Nat.min (b.length - (5 + 20 * i)) 20 = 20 from Nat.min_eq_right (by omega), splice_all (by simp [bts_length]; omega)]
      unfold bts seg
      rw [List.map_take]
    have pl : (bts K[i]).length = 20 := by rw [bts_length, K20 _ (List.getElem_mem hc)]
    refine gen_ex K[i] fun k ek => ?_
    rw [← ek] at st e pl
    refine bindP_intro (show (A ++ [nI .i64 ix, .sl 2 0 i 20])[79]? = some (.sl 2 0 i 20) from by rw [List.getElem?_append_right (by omega), lA]; rfl) ?_
    conv => whnf
    try (refine ⟨by kernel_rfl, ?_⟩; conv => whnf)
    refine bindP_intro (load_agg' (ds := bts k) e rfl rfl pl) ?_
    conv => whnf
    try (refine ⟨by kernel_rfl, ?_⟩; conv => whnf)
    refine bindP_intro (vfill_one (cs := bts k) rfl pl (by rfl)) ?_
    conv => whnf
    try (refine ⟨by kernel_rfl, ?_⟩; conv => whnf)
    refine onlyIf_intro (by rw [pl]; rfl) ?_
    refine .ownAs 1 (bts k) rfl rfl ?_
    conv => whnf
    try (refine ⟨by kernel_rfl, ?_⟩; conv => whnf)
    refine bindP_intro (view_whole rfl pl.symm) ?_
    conv => whnf
    try (refine ⟨by kernel_rfl, ?_⟩; conv => whnf)
    refine onlyIf_intro (by show (_ && (_ && Nat.beq (bts k).length _)) = true; rw [pl]; rfl) ?_
    conv => whnf
    try (refine ⟨by kernel_rfl, ?_⟩; conv => whnf)
    refine onlyIf_intro (by show (Nat.beq (rows bts (K.take i)).length _ && _) = true; rw [rl]; simp [maxLen]; omega) ?_
    refine .ownAs (i + 1) (rows bts (K.take (i + 1))) rfl (by rw [st, rows_app, rows_one]) ?_
    conv => whnf
    try (refine ⟨by kernel_rfl, ?_⟩; conv => whnf)
    refine onlyIf_intro (by show (_ && Nat.ble _ (A ++ [nI .i64 ix, .sl 2 0 i 20]).length) = true; rw [List.length_append, lA]; rfl) ?_
    conv => whnf
    try (refine ⟨by kernel_rfl, ?_⟩; conv => whnf)
    refine next_round (y := i) G0ok (i + 1) [(0, some 0), (1, some 1), (2, some 5)] rfl ⟨⟨_, rfl, conv_nI (ws_i64 (by omega) (by omega))⟩, ⟨_, rfl, conv_nI (rfl)⟩, ⟨_, rfl, .ptr rfl⟩, ⟨_, rfl, .ptr rfl⟩, ⟨_, rfl, conv_eq rfl (nb)⟩, trivial⟩ ⟨.inr ⟨_, _, rfl, rfl, .same rfl⟩, .inr ⟨_, _, rfl, rfl, convs_set lA nA (.cons (.same rfl) (.cons (.sl rfl) .nil))⟩, .inr ⟨_, _, rfl, rfl, .same (rows_noHs bts_noHs _)⟩, trivial⟩ (by omega) (by omega)
  · have hc := of_decide_eq_false hc
    have e : i = K.length := by omega
    subst e
    rw [List.take_length]
    have lC : (A ++ [nI .i64 ix, .sl 2 0 K.length 20]).length = 80 := by rw [List.length_append, lA]; rfl
    refine bindP_intro (load_agg rfl rfl lC) ?_
    conv => whnf
    try (refine ⟨by kernel_rfl, ?_⟩; conv => whnf)
    refine onlyIf_intro (by rw [lC]; rfl) ?_
    rw [splice_all (lC.trans zl.symm)]
    conv => whnf
    try (refine ⟨by kernel_rfl, ?_⟩; conv => whnf)
    have rl : (rows bts K).length = K.length * 20 := rows_length (w := 20) fun a ha => by rw [bts_length, K20 a ha]
    have ec : ldC true false { ldGetK b with kind := 0 } = A ++ [nI .i64 ix, .ds false K.length (rows bts K)] := by
      unfold ldC ldGetK
      rw [← eK, ← eix, eA, uC_lit (n := 0) (by decide)]
      rfl
    rw [ec]
    refine ⟨_, vres_two rfl (vres_cell rfl rfl (load_agg rfl rfl lC)) rfl, deep_tup (mapO_cons (deep_agg (noHs_sl A) (mapO_app (mapO_cons (deepV_noH _ _ rfl) (mapO_cons (deep_row rfl rl (rows_noHs bts_noHs _)) mapO_nil)) nA)) (mapO_cons (deepV_noH _ _ rfl) mapO_nil))⟩
end Go.Proofs.Ytilmfdlonpjjiaa
namespace Go.Proofs.Ytilmfdlonpjjiaa
set_option linter.unusedVariables false
set_option linter.unusedSimpArgs false
set_option linter.unusedSectionVars false
open Go.ChangeShapes Go.WideShapes Go.ChangeAt Go.RowKit Go.Joins
set_option maxRecDepth 10000
theorem n_tget : NilFine Try.prog 132 "bascule/load.get" := fun v w => by kernel_rfl
theorem n_mget : NilFine Try.prog 134 "bascule/load.get" := fun v w => by kernel_rfl
theorem n_kget : NilFine Try.prog 135 "bascule/load.get" := fun v w => by kernel_rfl
theorem lchk_tbad {C : List VV} {l : LdD} {fd fk : Bool} (c : LdC C l fd fk) (k1 : l.kind = 1 ∨ l.kind = 3) (h1 : l.amt < T256) (h2 : l.fee < T256) (hc : chkT (decide (l.kind = 3)) l = false) : FnV Try.prog G0 15 [.agg C] (nI .i64 3) := by
  have kd := kind_t (k := l.kind) k1
  have ck := tcheck_fn (p := decide (l.kind = 3)) c h1 h2
  rw [hc] at ck
  have nC := c.noHs
  refine gen_ex (decide (l.kind = 3)) fun p ep => ?_
  rw [← ep] at kd ck
  refine fn_of_vwp Γok Try.func15 (by kernel_rfl) rfl (by simp [Try.ntmps15]) (wpv_ok Γok (by kernel_rfl) _ _ _ ?_); conv => whnf
  refine bindP_intro c.kind ?_
  conv => whnf
  try (refine ⟨by kernel_rfl, ?_⟩; conv => whnf)
  refine ⟨_, ret_of_fn G0ok (kd) (by first | rfl | simp only [noHs, noH, nI, bI, Bool.and_self, Bool.and_true, Bool.true_and, ]) (by first | rfl | simp only [noHs, noH, nI, bI, Bool.and_self, Bool.and_true, Bool.true_and, ]), ?_⟩; (conv => whnf); (try (refine ⟨by kernel_rfl, ?_⟩; conv => whnf))
  refine bindP_intro (load_agg rfl rfl c.len) ?_
  conv => whnf
  try (refine ⟨by kernel_rfl, ?_⟩; conv => whnf)
  refine ⟨_, m_tcheck, _, ret_of_fn G0ok (ck) (by simp only [noHs, noH, bI, nC, Bool.and_self]) (rfl), ?_⟩
  conv => whnf
  try (refine ⟨by kernel_rfl, ?_⟩; conv => whnf)
  exact ⟨_, rfl, rfl⟩
theorem lchk_mbad {C : List VV} {l : LdD} {fd fk : Bool} (c : LdC C l fd fk) (k1 : l.kind = 2) (h6 : ∀ x ∈ l.sym, x < 256) (h7 : l.sym.length ≤ 1000) (hc : chkM l = false) : FnV Try.prog G0 15 [.agg C] (nI .i64 3) := by
  have kd := kind_m
  rw [show nI .i64 2 = nI .i64 l.kind from by rw [k1]; rfl] at kd
  have ck := mcheck_fn c h6 h7
  rw [hc] at ck
  have nC := c.noHs
  refine fn_of_vwp Γok Try.func15 (by kernel_rfl) rfl (by simp [Try.ntmps15]) (wpv_ok Γok (by kernel_rfl) _ _ _ ?_); conv => whnf
  refine bindP_intro c.kind ?_
  conv => whnf
  try (refine ⟨by kernel_rfl, ?_⟩; conv => whnf)
  refine ⟨_, ret_of_fn G0ok (kd) (by first | rfl | simp only [noHs, noH, nI, bI, Bool.and_self, Bool.and_true, Bool.true_and, ]) (by first | rfl | simp only [noHs, noH, nI, bI, Bool.and_self, Bool.and_true, Bool.true_and, ]), ?_⟩; (conv => whnf); (try (refine ⟨by kernel_rfl, ?_⟩; conv => whnf))
  refine bindP_intro (load_agg rfl rfl c.len) ?_
  conv => whnf
  try (refine ⟨by kernel_rfl, ?_⟩; conv => whnf)
  refine ⟨_, m_mcheck, _, ret_of_fn G0ok (ck) (by simp only [noHs, noH, bI, nC, Bool.and_self]) (rfl), ?_⟩
  conv => whnf
  try (refine ⟨by kernel_rfl, ?_⟩; conv => whnf)
  exact ⟨_, rfl, rfl⟩
theorem lchk_kbad {C : List VV} {l : LdD} {fd fk : Bool} (c : LdC C l fd fk) (k1 : l.kind = 4) (hc : chkK l = false) : FnV Try.prog G0 15 [.agg C] (nI .i64 3) := by
  have kd := kind_k
  rw [show nI .i64 4 = nI .i64 l.kind from by rw [k1]; rfl] at kd
  have ck := kcheck_fn c
  rw [hc] at ck
  have nC := c.noHs
  refine fn_of_vwp Γok Try.func15 (by kernel_rfl) rfl (by simp [Try.ntmps15]) (wpv_ok Γok (by kernel_rfl) _ _ _ ?_); conv => whnf
  refine bindP_intro c.kind ?_
  conv => whnf
  try (refine ⟨by kernel_rfl, ?_⟩; conv => whnf)
  refine ⟨_, ret_of_fn G0ok (kd) (by first | rfl | simp only [noHs, noH, nI, bI, Bool.and_self, Bool.and_true, Bool.true_and, ]) (by first | rfl | simp only [noHs, noH, nI, bI, Bool.and_self, Bool.and_true, Bool.true_and, ]), ?_⟩; (conv => whnf); (try (refine ⟨by kernel_rfl, ?_⟩; conv => whnf))
  refine bindP_intro (load_agg rfl rfl c.len) ?_
  conv => whnf
  try (refine ⟨by kernel_rfl, ?_⟩; conv => whnf)
  refine ⟨_, m_kcheck, _, ret_of_fn G0ok (ck) (by simp only [noHs, noH, bI, nC, Bool.and_self]) (rfl), ?_⟩
  conv => whnf
  try (refine ⟨by kernel_rfl, ?_⟩; conv => whnf)
  exact ⟨_, rfl, rfl⟩
/-- What is given for no load. -/
noncomputable def noLd (e : Nat) : VV := .tup [.agg (ldC true true ld0), nI .i64 e]
theorem noLd_eq (e : Nat) : noLd e = .tup [.agg ((nI .i64 0 :: (words [0, 0, 0, 0] ++ words [0, 0, 0, 0])) ++ (bts z32 ++ (nI .i64 0 :: (bts z32 ++ ldT true true ld0)))), nI .i64 e] := by
  unfold noLd ldC
  rw [show uC ld0.amt = words [0, 0, 0, 0] from uC_lit (n := 0) (by decide), show uC ld0.fee = words [0, 0, 0, 0] from uC_lit (n := 0) (by decide)]
  rfl
theorem dec_nil {f : Bool} : FnV Try.prog G0 13 [.ds f 0 []] (noLd 4) := by
  rw [noLd_eq]
  refine fn_of_vwp Γok Try.func13 (by kernel_rfl) rfl (by simp [Try.ntmps13]) (wpv_ok Γok (by kernel_rfl) _ _ _ ?_); conv => whnf
  exact ⟨_, rfl, rfl⟩
theorem dec_kind {f : Bool} {b : List Nat} {kd : Nat} (hk : kd < 256) (h1 : kd ≠ 1) (h2 : kd ≠ 2) (h3 : kd ≠ 3) (h4 : kd ≠ 4) : FnV Try.prog G0 13 [.ds f (kd :: b).length (bts (kd :: b))] (noLd 2) := by
  have kn := kind_none h1 h2 h3 h4
  have bl : (kd :: b).length = b.length + 1 := rfl
  have b0 : (kd :: b).getD 0 0 = kd := rfl
  refine gen_ex (kd :: b) fun B eB => ?_
  rw [← eB] at bl b0 ⊢
  rw [noLd_eq]
  refine fn_of_vwp Γok Try.func13 (by kernel_rfl) rfl (by simp [Try.ntmps13]) (wpv_ok Γok (by kernel_rfl) _ _ _ ?_); conv => whnf
  rw [show (((B.length : Nat) : Int) == 0) = false from (beq_lit _ 0).trans (decide_eq_false (by omega))]
  conv => whnf
  try (refine ⟨by kernel_rfl, ?_⟩; conv => whnf)
  refine bindP_intro (if_pos (inB_ok (by omega) (by omega))) ?_; conv => whnf
  refine bindP_intro (bts_ix (i := 0) rfl (by omega)) ?_
  conv => whnf
  try (refine ⟨by kernel_rfl, ?_⟩; conv => whnf)
  rw [b0, ws_i64 (x := (kd : Int)) (by omega) (by omega)]
  refine ⟨_, ret_of_fn G0ok (kn) (by first | rfl | simp only [noHs, noH, nI, bI, Bool.and_self, Bool.and_true, Bool.true_and, ]) (by first | rfl | simp only [noHs, noH, nI, bI, Bool.and_self, Bool.and_true, Bool.true_and, ]), ?_⟩; (conv => whnf); (try (refine ⟨by kernel_rfl, ?_⟩; conv => whnf))
  exact ⟨_, rfl, rfl⟩
theorem dec_err {f : Bool} {b : List Nat} {kd e g : Nat} {ty : TypeId} {y : VV} (hk : kd < 256) (he : e ≠ 0) (kn : FnV Try.prog G0 37 [nI .i64 kd] (.tup [.ifc ty y, bI true])) (hy : noH y = true) (hm : Meth Try.prog ty "bascule/load.get" g) (hn : NilFine Try.prog ty "bascule/load.get")
    (gt : ∀ f, FnV Try.prog G0 g [y, .ds f b.length (bts b)] (noLd e)) : FnV Try.prog G0 13 [.ds f (kd :: b).length (bts (kd :: b))] (noLd e) := by
  have bl : (kd :: b).length = b.length + 1 := rfl
  have b0 : (kd :: b).getD 0 0 = kd := rfl
  have b1 : ((kd :: b).drop 1).take ((kd :: b).length - 1) = b := by show b.take (b.length + 1 - 1) = b; rw [List.take_of_length_le (by omega)]
  have hne : ((e : Nat) : Int) ≠ 0 := by omega
  rw [noLd_eq] at gt
  refine gen_ex (kd :: b) fun B eB => ?_
  rw [← eB] at bl b0 b1 ⊢
  rw [noLd_eq]
  refine fn_of_vwp Γok Try.func13 (by kernel_rfl) rfl (by simp [Try.ntmps13]) (wpv_ok Γok (by kernel_rfl) _ _ _ ?_); conv => whnf
  rw [show (((B.length : Nat) : Int) == 0) = false from (beq_lit _ 0).trans (decide_eq_false (by omega))]
  conv => whnf
  try (refine ⟨by kernel_rfl, ?_⟩; conv => whnf)
  refine bindP_intro (if_pos (inB_ok (by omega) (by omega))) ?_; conv => whnf
  refine bindP_intro (bts_ix (i := 0) rfl (by omega)) ?_
  conv => whnf
  try (refine ⟨by kernel_rfl, ?_⟩; conv => whnf)
  rw [b0, ws_i64 (x := (kd : Int)) (by omega) (by omega)]
  refine ⟨_, ret_of_fn G0ok (kn) (by first | rfl | simp only [noHs, noH, nI, bI, Bool.and_self, Bool.and_true, Bool.true_and, hy]) (by first | rfl | simp only [noHs, noH, nI, bI, Bool.and_self, Bool.and_true, Bool.true_and, hy]), ?_⟩; (conv => whnf); (try (refine ⟨by kernel_rfl, ?_⟩; conv => whnf))
  refine bindP_intro (vpure_slice (vslice_bts (a := 1) (b := B.length) rfl rfl rfl (by rfl) (by rfl) (by omega) (by omega))) ?_
  rw [b1]
  conv => whnf
  try (refine ⟨by kernel_rfl, ?_⟩; conv => whnf)
  refine ⟨hn, ?_⟩
  conv => whnf
  try (refine ⟨by kernel_rfl, ?_⟩; conv => whnf)
  refine ⟨_, hm, _, ret_of_fn G0ok (gt _) (by simp only [noHs, noH, bI, hy, bts_noHs, Bool.and_self]) (rfl), ?_⟩
  conv => whnf
  try (refine ⟨by kernel_rfl, ?_⟩; conv => whnf)
  rw [show (((e : Nat) : Int) != 0) = true from by rw [bne_iff_ne]; exact hne]
  conv => whnf
  try (refine ⟨by kernel_rfl, ?_⟩; conv => whnf)
  exact ⟨_, rfl, rfl⟩
theorem set0_len {C : List VV} {v : VV} (h : C.length = 80) : (C.set 0 v).length = 80 := by rw [List.length_set, h]
theorem dec_read {f : Bool} {b : List Nat} {kd g c : Nat} {ty : TypeId} {y : VV} {C : List VV} (hk : kd < 256) (kn : FnV Try.prog G0 37 [nI .i64 kd] (.tup [.ifc ty y, bI true])) (hy : noH y = true) (hm : Meth Try.prog ty "bascule/load.get" g) (hn : NilFine Try.prog ty "bascule/load.get")
    (lC : C.length = 80) (nC : noHs C = true) (nD : noHs (C.set 0 (nI .i64 kd)) = true) (gt : ∀ f, FnV Try.prog G0 g [y, .ds f b.length (bts b)] (.tup [.agg C, nI .i64 0])) (ck : FnV Try.prog G0 15 [.agg (C.set 0 (nI .i64 kd))] (nI .i64 c)) :
    FnV Try.prog G0 13 [.ds f (kd :: b).length (bts (kd :: b))] (if c = 0 then .tup [.agg (C.set 0 (nI .i64 kd)), nI .i64 0] else noLd 3) := by
  have bl : (kd :: b).length = b.length + 1 := rfl
  have b0 : (kd :: b).getD 0 0 = kd := rfl
  have b1 : ((kd :: b).drop 1).take ((kd :: b).length - 1) = b := by show b.take (b.length + 1 - 1) = b; rw [List.take_of_length_le (by omega)]
  have nD' : noHs (C.set 0 (.v (.int .i64 kd))) = true := nD
  have lD := set0_len (v := nI .i64 kd) lC
  refine gen_ex (kd :: b) fun B eB => ?_
  rw [← eB] at bl b0 b1 ⊢
  by_cases hc : c = 0
  · rw [if_pos hc]
    refine fn_of_vwp Γok Try.func13 (by kernel_rfl) rfl (by simp [Try.ntmps13]) (wpv_ok Γok (by kernel_rfl) _ _ _ ?_); conv => whnf
    rw [show (((B.length : Nat) : Int) == 0) = false from (beq_lit _ 0).trans (decide_eq_false (by omega))]
    conv => whnf
    try (refine ⟨by kernel_rfl, ?_⟩; conv => whnf)
    refine bindP_intro (if_pos (inB_ok (by omega) (by omega))) ?_; conv => whnf
    refine bindP_intro (bts_ix (i := 0) rfl (by omega)) ?_
    conv => whnf
    try (refine ⟨by kernel_rfl, ?_⟩; conv => whnf)
    rw [b0, ws_i64 (x := (kd : Int)) (by omega) (by omega)]
    refine ⟨_, ret_of_fn G0ok (kn) (by first | rfl | simp only [noHs, noH, nI, bI, Bool.and_self, Bool.and_true, Bool.true_and, hy]) (by first | rfl | simp only [noHs, noH, nI, bI, Bool.and_self, Bool.and_true, Bool.true_and, hy]), ?_⟩; (conv => whnf); (try (refine ⟨by kernel_rfl, ?_⟩; conv => whnf))
    refine bindP_intro (vpure_slice (vslice_bts (a := 1) (b := B.length) rfl rfl rfl (by rfl) (by rfl) (by omega) (by omega))) ?_
    rw [b1]
    conv => whnf
    try (refine ⟨by kernel_rfl, ?_⟩; conv => whnf)
    refine ⟨hn, ?_⟩
    conv => whnf
    try (refine ⟨by kernel_rfl, ?_⟩; conv => whnf)
    refine ⟨_, hm, _, ret_of_fn G0ok (gt _) (by simp only [noHs, noH, bI, hy, bts_noHs, Bool.and_self]) (by simp only [noHs, noH, nI, nC, Bool.and_self]), ?_⟩
    conv => whnf
    try (refine ⟨by kernel_rfl, ?_⟩; conv => whnf)
    refine onlyIf_intro (by simp [words_length, *, lC]) ?_; rw [splice_all (by simp [words_length, *, lC])]; conv => whnf
    conv => whnf
    try (refine ⟨by kernel_rfl, ?_⟩; conv => whnf)
    refine bindP_intro (if_pos (inB_ok (by omega) (by omega))) ?_; conv => whnf
    refine bindP_intro (bts_ix (i := 0) rfl (by omega)) ?_
    conv => whnf
    try (refine ⟨by kernel_rfl, ?_⟩; conv => whnf)
    rw [b0, ws_i64 (x := (kd : Int)) (by omega) (by omega)]
    refine onlyIf_intro (by rw [lC]; rfl) ?_
    conv => whnf
    try (refine ⟨by kernel_rfl, ?_⟩; conv => whnf)
    refine bindP_intro (load_agg rfl rfl lD) ?_
    conv => whnf
    try (refine ⟨by kernel_rfl, ?_⟩; conv => whnf)
    refine ⟨_, ret_of_fn G0ok (ck) (by first | rfl | simp only [noHs, noH, nI, bI, Bool.and_self, Bool.and_true, Bool.true_and, nD']) (by first | rfl | simp only [noHs, noH, nI, bI, Bool.and_self, Bool.and_true, Bool.true_and, nD']), ?_⟩; (conv => whnf); (try (refine ⟨by kernel_rfl, ?_⟩; conv => whnf))
    subst hc
    conv => whnf
    try (refine ⟨by kernel_rfl, ?_⟩; conv => whnf)
    refine bindP_intro (load_agg rfl rfl lD) ?_
    conv => whnf
    try (refine ⟨by kernel_rfl, ?_⟩; conv => whnf)
    refine onlyIf_intro (by simp only [List.length_set, lC]; rfl) ?_
    rw [splice_all (by exact lD)]
    conv => whnf
    try (refine ⟨by kernel_rfl, ?_⟩; conv => whnf)
    exact ⟨_, vres_two rfl (vres_cell rfl rfl (load_agg rfl rfl lD)) rfl, deepV_noH _ _ (by simp only [noHs, noH, nI, nD', Bool.and_self])⟩
  · rw [if_neg hc, noLd_eq]
    refine fn_of_vwp Γok Try.func13 (by kernel_rfl) rfl (by simp [Try.ntmps13]) (wpv_ok Γok (by kernel_rfl) _ _ _ ?_); conv => whnf
    rw [show (((B.length : Nat) : Int) == 0) = false from (beq_lit _ 0).trans (decide_eq_false (by omega))]
    conv => whnf
    try (refine ⟨by kernel_rfl, ?_⟩; conv => whnf)
    refine bindP_intro (if_pos (inB_ok (by omega) (by omega))) ?_; conv => whnf
    refine bindP_intro (bts_ix (i := 0) rfl (by omega)) ?_
    conv => whnf
    try (refine ⟨by kernel_rfl, ?_⟩; conv => whnf)
    rw [b0, ws_i64 (x := (kd : Int)) (by omega) (by omega)]
    refine ⟨_, ret_of_fn G0ok (kn) (by first | rfl | simp only [noHs, noH, nI, bI, Bool.and_self, Bool.and_true, Bool.true_and, hy]) (by first | rfl | simp only [noHs, noH, nI, bI, Bool.and_self, Bool.and_true, Bool.true_and, hy]), ?_⟩; (conv => whnf); (try (refine ⟨by kernel_rfl, ?_⟩; conv => whnf))
    refine bindP_intro (vpure_slice (vslice_bts (a := 1) (b := B.length) rfl rfl rfl (by rfl) (by rfl) (by omega) (by omega))) ?_
    rw [b1]
    conv => whnf
    try (refine ⟨by kernel_rfl, ?_⟩; conv => whnf)
    refine ⟨hn, ?_⟩
    conv => whnf
    try (refine ⟨by kernel_rfl, ?_⟩; conv => whnf)
    refine ⟨_, hm, _, ret_of_fn G0ok (gt _) (by simp only [noHs, noH, bI, hy, bts_noHs, Bool.and_self]) (by simp only [noHs, noH, nI, nC, Bool.and_self]), ?_⟩
    conv => whnf
    try (refine ⟨by kernel_rfl, ?_⟩; conv => whnf)
    refine onlyIf_intro (by simp [words_length, *, lC]) ?_; rw [splice_all (by simp [words_length, *, lC])]; conv => whnf
    conv => whnf
    try (refine ⟨by kernel_rfl, ?_⟩; conv => whnf)
    refine bindP_intro (if_pos (inB_ok (by omega) (by omega))) ?_; conv => whnf
    refine bindP_intro (bts_ix (i := 0) rfl (by omega)) ?_
    conv => whnf
    try (refine ⟨by kernel_rfl, ?_⟩; conv => whnf)
    rw [b0, ws_i64 (x := (kd : Int)) (by omega) (by omega)]
    refine onlyIf_intro (by rw [lC]; rfl) ?_
    conv => whnf
    try (refine ⟨by kernel_rfl, ?_⟩; conv => whnf)
    refine bindP_intro (load_agg rfl rfl lD) ?_
    conv => whnf
    try (refine ⟨by kernel_rfl, ?_⟩; conv => whnf)
    refine ⟨_, ret_of_fn G0ok (ck) (by first | rfl | simp only [noHs, noH, nI, bI, Bool.and_self, Bool.and_true, Bool.true_and, nD']) (by first | rfl | simp only [noHs, noH, nI, bI, Bool.and_self, Bool.and_true, Bool.true_and, nD']), ?_⟩; (conv => whnf); (try (refine ⟨by kernel_rfl, ?_⟩; conv => whnf))
    rw [show (((c : Nat) : Int) != 0) = true from by rw [bne_iff_ne]; omega]
    conv => whnf
    try (refine ⟨by kernel_rfl, ?_⟩; conv => whnf)
    exact ⟨_, rfl, rfl⟩
open Classical in
/-- What is read of bytes: what is wrong, and the load. -/
noncomputable def ldDec1 (kd : Nat) (t : List Nat) : Nat × LdD :=
  if kd = 1 ∨ kd = 3 then (if t.length < 132 then (4, ld0) else if chkT (decide (kd = 3)) (ldGetT kd t) = true then (0, ldGetT kd t) else (3, ld0))
    else if kd = 2 then (if t.length < 67 then (4, ld0) else if 67 < t.length then (3, ld0) else if chkM (ldGetM t) = true then (0, ldGetM t) else (3, ld0))
    else if kd = 4 then (if t.length < 5 ∨ t.length < 5 + 20 * t.getD 4 0 then (4, ld0) else if 5 + 20 * t.getD 4 0 < t.length then (3, ld0) else if chkK (ldGetK t) = true then (0, ldGetK t) else (3, ld0))
    else (2, ld0)
noncomputable def ldDec : List Nat → Nat × LdD
  | [] => (4, ld0)
  | kd :: t => ldDec1 kd t
/-- The cells of a load that was read. -/
noncomputable def ldR (l : LdD) : List VV := ldC (decide (l.kind = 2 ∨ l.kind = 4)) (decide (l.kind ≠ 4)) l
open Classical in
noncomputable def decV (r : Nat × LdD) : VV := if r.1 = 0 then .tup [.agg (ldR r.2), nI .i64 0] else noLd r.1
/-- A load that may be. -/
def OkL (l : LdD) : Prop := OkT l ∨ OkM l ∨ OkK l
theorem okT_of {kd : Nat} {t : List Nat} (hb : ∀ x ∈ t, x < 256) (k : kd = 1 ∨ kd = 3) (h : 132 ≤ t.length) (hc : chkT (decide (kd = 3)) (ldGetT kd t) = true) : OkT (ldGetT kd t) := by
  unfold chkT at hc
  simp only [Bool.and_eq_true, decide_eq_true_eq] at hc
  obtain ⟨h1, h2, h3, h4⟩ := hc
  refine ⟨fromV_lt _ fun x hx => hb x (seg_mem hx), h3, seg_len (by omega), fun x hx => hb x (seg_mem hx), seg_len (by omega), fun x hx => hb x (seg_mem hx), at2_lt hb _, at2_lt hb _, fun x hx => hb x (List.mem_of_mem_drop hx), ?_, ?_, k, ⟨rfl, rfl, rfl, rfl⟩⟩
  · rcases k with rfl | rfl
    · have : (ldGetT 1 t).data.length = 0 := of_decide_eq_true h4
      omega
    · exact of_decide_eq_true h4
  · intro hk
    have : kd = 1 := hk
    subst this
    have : (ldGetT 1 t).data.length = 0 := of_decide_eq_true h4
    exact List.eq_nil_of_length_eq_zero this
theorem okM_of {t : List Nat} (hb : ∀ x ∈ t, x < 256) (h : t.length = 67) (hc : chkM (ldGetM t) = true) : OkM (ldGetM t) := by
  unfold chkM at hc
  simp only [Bool.and_eq_true, decide_eq_true_eq] at hc
  obtain ⟨⟨h1, h2, h3⟩, h4⟩ := hc
  have nz : ∀ (B : List Nat) i, nzs B i = true → ∀ j, j < i → B.getD j 0 ≠ 0 := fun B i => by
    induction i with
    | zero => exact fun _ j hj => absurd hj (Nat.not_lt_zero _)
    | succ i ih =>
      intro hn j hj
      unfold nzs at hn
      simp only [Bool.and_eq_true, Bool.not_eq_true', decide_eq_false_iff_not] at hn
      rcases Nat.lt_or_ge j i with q | q
      · exact ih hn.1 j q
      · rw [show j = i by omega]; exact hn.2
  refine ⟨rfl, seg_len (by omega), fun x hx => hb x (seg_mem hx), at2_lt hb _, h2, h3, fun x hx => ⟨?_, hb x (seg_mem hx)⟩, ⟨rfl, rfl, rfl, rfl, rfl, rfl, rfl⟩⟩
  obtain ⟨j, hj, e⟩ := List.mem_iff_getElem.1 hx
  have := nz _ _ h4 j hj
  rw [List.getD_eq_getElem?_getD, List.getElem?_eq_getElem hj, Option.getD_some, e] at this
  omega
theorem okK_of {t : List Nat} (hb : ∀ x ∈ t, x < 256) (h : t.length = 5 + 20 * t.getD 4 0) (hc : chkK (ldGetK t) = true) : OkK (ldGetK t) := by
  unfold chkK at hc
  simp only [Bool.and_eq_true, decide_eq_true_eq] at hc
  obtain ⟨h1, h2, h3⟩ := hc
  have hm : ∀ k ∈ (ldGetK t).keys, ∃ i, i < t.getD 4 0 ∧ k = seg t (5 + 20 * i) 20 := fun k hk => by
    obtain ⟨i, hi, e⟩ := List.mem_map.1 hk
    exact ⟨i, List.mem_range.1 hi, e.symm⟩
  refine ⟨rfl, by omega, h2, h3, fun k hk => ?_, fun k hk x hx => ?_, ⟨rfl, rfl, rfl, rfl, rfl, rfl, rfl, rfl, rfl⟩⟩
  · obtain ⟨i, hi, rfl⟩ := hm k hk
    exact seg_len (by omega)
  · obtain ⟨i, hi, rfl⟩ := hm k hk
    exact hb x (seg_mem hx)
theorem ldec_fn {f : Bool} {b : List Nat} (hb : ∀ x ∈ b, x < 256) (hm : b.length ≤ 140737488355328) : FnV Try.prog G0 13 [.ds f b.length (bts b)] (decV (ldDec b)) := by
  cases b with
  | nil =>
    unfold decV ldDec
    exact dec_nil
  | cons kd t =>
    have hk := hb kd List.mem_cons_self
    replace hb : ∀ x ∈ t, x < 256 := fun x hx => hb x (List.mem_cons_of_mem _ hx)
    replace hm : t.length ≤ 140737488355328 := Nat.le_trans (Nat.le_succ _) hm
    show FnV Try.prog G0 13 [.ds f (kd :: t).length (bts (kd :: t))] (decV (ldDec1 kd t))
    unfold ldDec1
    by_cases k1 : kd = 1 ∨ kd = 3
    · rw [if_pos k1]
      have kn := kind_t k1
      by_cases h : t.length < 132
      · rw [if_pos h]
        exact dec_err (e := 4) hk (by decide) kn rfl m_tget n_tget fun g => tget_short h
      · rw [if_neg h]
        have ge : 132 ≤ t.length := by omega
        have gt := fun g => tget_fn (f := g) (p := decide (kd = 3)) hb ge hm
        have e0 : (ldC false true (ldGetT 0 t)).set 0 (nI .i64 kd) = ldC false true (ldGetT kd t) := rfl
        have ok0 := ldC_ok (fd := false) (fk := true) (l := ldGetT 0 t) (seg_len (by omega)) (seg_len (by omega))
        have ok1 := ldC_ok (fd := false) (fk := true) (l := ldGetT kd t) (seg_len (by omega)) (seg_len (by omega))
        by_cases hc : chkT (decide (kd = 3)) (ldGetT kd t) = true
        · have okt := okT_of hb k1 ge hc
          have := dec_read (f := f) (c := 0) hk kn rfl m_tget n_tget ok0.len (ldC_noHs _ _ _) (by rw [e0]; exact ldC_noHs _ _ _) gt (by rw [e0]; exact lcheck_t ok1 okt)
          rw [if_pos rfl, e0] at this
          rw [if_pos hc]
          unfold decV ldR
          rw [if_pos rfl]
          have kk : (ldGetT kd t).kind = kd := rfl
          rw [kk, decide_eq_false (show ¬ (kd = 2 ∨ kd = 4) by omega), decide_eq_true (show kd ≠ 4 by omega)]
          exact this
        · have hc' : chkT (decide (kd = 3)) (ldGetT kd t) = false := by simpa using hc
          have := dec_read (f := f) (c := 3) hk kn rfl m_tget n_tget ok0.len (ldC_noHs _ _ _) (by rw [e0]; exact ldC_noHs _ _ _) gt (by
            rw [e0]
            exact lchk_tbad ok1 k1 (fromV_lt _ fun x hx => hb x (seg_mem hx)) (fromV_lt _ fun x hx => hb x (seg_mem hx)) hc')
          rw [if_neg hc]
          exact this
    · rw [if_neg k1]
      by_cases k2 : kd = 2
      · rw [if_pos k2]
        subst k2
        by_cases h : t.length < 67
        · rw [if_pos h]
          exact dec_err (e := 4) hk (by decide) kind_m rfl m_mget n_mget fun g => mget_short h
        · rw [if_neg h]
          by_cases h' : 67 < t.length
          · rw [if_pos h']
            exact dec_err (e := 3) hk (by decide) kind_m rfl m_mget n_mget fun g => mget_form h'
          · rw [if_neg h']
            have ge : t.length = 67 := by omega
            have gt := fun g => mget_fn (f := g) hb ge
            have e0 : (ldC true true { ldGetM t with kind := 0 }).set 0 (nI .i64 2) = ldC true true (ldGetM t) := rfl
            have ok0 := ldC_ok (fd := true) (fk := true) (l := { ldGetM t with kind := 0 }) (seg_len (by omega)) rfl
            have ok1 := ldC_ok (fd := true) (fk := true) (l := ldGetM t) (seg_len (by omega)) rfl
            by_cases hc : chkM (ldGetM t) = true
            · have okt := okM_of hb ge hc
              have := dec_read (f := f) (c := 0) (kd := 2) hk kind_m rfl m_mget n_mget ok0.len (ldC_noHs _ _ _) (by rw [show (nI .i64 ((2 : Nat) : Int)) = nI .i64 2 from rfl, e0]; exact ldC_noHs _ _ _) gt (by rw [show (nI .i64 ((2 : Nat) : Int)) = nI .i64 2 from rfl, e0]; exact lcheck_m ok1 okt)
              rw [if_pos rfl, show (nI .i64 ((2 : Nat) : Int)) = nI .i64 2 from rfl, e0] at this
              rw [if_pos hc]
              exact this
            · have hc' : chkM (ldGetM t) = false := by simpa using hc
              have el := endM_le t 32
              have := dec_read (f := f) (c := 3) (kd := 2) hk kind_m rfl m_mget n_mget ok0.len (ldC_noHs _ _ _) (by rw [show (nI .i64 ((2 : Nat) : Int)) = nI .i64 2 from rfl, e0]; exact ldC_noHs _ _ _) gt (by
                rw [show (nI .i64 ((2 : Nat) : Int)) = nI .i64 2 from rfl, e0]
                exact lchk_mbad ok1 rfl (fun x hx => hb x (seg_mem hx)) (by show (seg t 35 (endM t 32 - 35)).length ≤ 1000; rw [seg_len (by omega)]; omega) hc')
              rw [if_neg hc]
              exact this
      · rw [if_neg k2]
        by_cases k4 : kd = 4
        · rw [if_pos k4]
          subst k4
          by_cases h : t.length < 5 ∨ t.length < 5 + 20 * t.getD 4 0
          · rw [if_pos h]
            refine dec_err (e := 4) hk (by decide) kind_k rfl m_kget n_kget fun g => ?_
            rcases Nat.lt_or_ge t.length 5 with q | q
            · exact kget_short q
            · exact kget_cut hb q (by omega)
          · rw [if_neg h]
            by_cases h' : 5 + 20 * t.getD 4 0 < t.length
            · rw [if_pos h']
              exact dec_err (e := 3) hk (by decide) kind_k rfl m_kget n_kget fun g => kget_form hb h' hm
            · rw [if_neg h']
              have ge : t.length = 5 + 20 * t.getD 4 0 := by omega
              have gt := fun g => kget_fn (f := g) hb ge
              have e0 : (ldC true false { ldGetK t with kind := 0 }).set 0 (nI .i64 4) = ldC true false (ldGetK t) := rfl
              have ok0 := ldC_ok (fd := true) (fk := false) (l := { ldGetK t with kind := 0 }) rfl rfl
              have ok1 := ldC_ok (fd := true) (fk := false) (l := ldGetK t) rfl rfl
              by_cases hc : chkK (ldGetK t) = true
              · have okt := okK_of hb ge hc
                have := dec_read (f := f) (c := 0) (kd := 4) hk kind_k rfl m_kget n_kget ok0.len (ldC_noHs _ _ _) (by rw [show (nI .i64 ((4 : Nat) : Int)) = nI .i64 4 from rfl, e0]; exact ldC_noHs _ _ _) gt (by rw [show (nI .i64 ((4 : Nat) : Int)) = nI .i64 4 from rfl, e0]; exact lcheck_k ok1 okt)
                rw [if_pos rfl, show (nI .i64 ((4 : Nat) : Int)) = nI .i64 4 from rfl, e0] at this
                rw [if_pos hc]
                exact this
              · have hc' : chkK (ldGetK t) = false := by simpa using hc
                have := dec_read (f := f) (c := 3) (kd := 4) hk kind_k rfl m_kget n_kget ok0.len (ldC_noHs _ _ _) (by rw [show (nI .i64 ((4 : Nat) : Int)) = nI .i64 4 from rfl, e0]; exact ldC_noHs _ _ _) gt (by
                  rw [show (nI .i64 ((4 : Nat) : Int)) = nI .i64 4 from rfl, e0]
                  exact lchk_kbad ok1 rfl hc')
                rw [if_neg hc]
                exact this
        · rw [if_neg k4]
          exact dec_kind hk (by omega) k2 (by omega) k4
end Go.Proofs.Ytilmfdlonpjjiaa
