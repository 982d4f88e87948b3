/- Rows of cells: lists of structs and arrays, as cells. -/
import Derived.Test.YtidkdlaihmpjfaaDoorVLaw
namespace Go.Proofs.YtidkdlaihmpjfaaDoor
set_option linter.unusedVariables false
set_option linter.unusedSimpArgs false
set_option linter.unusedSectionVars false
open Go.ChangeShapes Go.WideShapes Go.ChangeAt Go.RowKit Go.Joins
def rows {α : Type} (f : α → List VV) (l : List α) : List VV := l.flatMap f
section
variable {α : Type} {f : α → List VV} {w : Nat}
theorem rows_nil : rows f [] = [] := rfl
theorem rows_cons (a : α) (l : List α) : rows f (a :: l) = f a ++ rows f l := List.flatMap_cons
theorem rows_app (l m : List α) : rows f (l ++ m) = rows f l ++ rows f m := List.flatMap_append
theorem rows_one (a : α) : rows f [a] = f a := by rw [rows_cons, rows_nil, List.append_nil]
theorem rows_length : ∀ {l : List α}, (∀ a ∈ l, (f a).length = w) → (rows f l).length = l.length * w
  | [], _ => by rw [rows_nil, List.length_nil, List.length_nil, Nat.zero_mul]
  | a :: l, h => by
    rw [rows_cons, List.length_append, h a List.mem_cons_self, rows_length fun b hb => h b (List.mem_cons_of_mem _ hb), List.length_cons, Nat.succ_mul, Nat.add_comm]
theorem rows_noHs (h : ∀ a, noHs (f a) = true) (l : List α) : noHs (rows f l) = true := noHs_flatMap h l
theorem rows_drop : ∀ (k : Nat) {l : List α}, (∀ a ∈ l, (f a).length = w) → (rows f l).drop (k * w) = rows f (l.drop k)
  | 0, l, _ => by simp
  | k + 1, [], _ => by simp [rows]
  | k + 1, a :: l, h => by
    rw [rows_cons, List.drop_succ_cons, Nat.succ_mul, Nat.add_comm, ← List.drop_drop, List.drop_left' (h a List.mem_cons_self)]
    exact rows_drop k fun b hb => h b (List.mem_cons_of_mem _ hb)
theorem rows_take : ∀ (k : Nat) {l : List α}, (∀ a ∈ l, (f a).length = w) → (rows f l).take (k * w) = rows f (l.take k)
  | 0, l, _ => by simp [rows]
  | k + 1, [], _ => by simp [rows]
  | k + 1, a :: l, h => by
    rw [rows_cons, List.take_succ_cons, rows_cons, Nat.succ_mul, Nat.add_comm, ← h a List.mem_cons_self, List.take_length_add_append, h a List.mem_cons_self, rows_take k fun b hb => h b (List.mem_cons_of_mem _ hb)]
theorem row_at {l : List α} {i : Nat} (h : ∀ a ∈ l, (f a).length = w) (hi : i < l.length) : ((rows f l).drop (i * w)).take w = f l[i] := by
  have h2 := rows_take (f := f) 1 (l := l.drop i) fun a ha => h a (List.mem_of_mem_drop ha)
  rw [rows_drop i h]
  rw [Nat.one_mul] at h2
  rw [h2, List.drop_eq_getElem_cons hi]
  exact rows_one _
theorem row_load {t : TypeId} {r : TR} {l : List α} {i j : Nat} (ht : Γ t = some r) (ha : r.d.agg = true) (hr : r.size = w) (h : ∀ a ∈ l, (f a).length = w) (hj : j = i * w) (hi : i < l.length) : vload Γ t (rows f l) j = some (.agg (f l[i])) := by
  subst hj
  have h1 := row_at h hi
  have hl : i * w + w ≤ (rows f l).length := by
    rw [rows_length h, ← Nat.succ_mul]
    exact Nat.mul_le_mul_right _ hi
  unfold vload
  rw [ht]
  simp only [ha, hr]
  split
  · rename_i hw
    have := whole_of hw
    rw [← this.1] at h1
    rw [h1]
  · rw [show Nat.ble (i * w + w) (rows f l).length = true from by simpa using hl]
    simp only []
    rw [h1]
theorem vslice_rows {t e : TypeId} {r : TR} (ht : sliceOf Γ t = some (e, r)) (hr : r.size = w) {g : Bool} {n : Nat} {bs : List α} (hb : ∀ a ∈ bs, (f a).length = w) {lo hi : Option VV} {l h : Nat} (hn : n = bs.length) (b1 : vb lo 0 = some l) (b2 : vb hi n = some h) (c1 : l ≤ h) (c2 : h ≤ n) :
    vslice Γ t (.ds g n (rows f bs)) lo hi none = some (.ds (g && decide (h = n)) ((bs.drop l).take (h - l)).length (rows f ((bs.drop l).take (h - l)))) := by
  subst hn
  rw [vslice_ds ht b1 b2 c1 c2, hr, rows_drop l hb, rows_take _ fun a ha => hb a (List.mem_of_mem_drop ha)]
  rw [show ((bs.drop l).take (h - l)).length = h - l by simp; omega]
end
theorem vfill_one {place : Nat → Option (Nat × Nat)} {cells cs : List VV} {n : Nat} (h0 : place 0 = some (0, n)) (hn : cs.length = n) (hc : cells.length = n) : vfill place cells [(0, .agg cs)] = some cs := by
  unfold vfill
  simp only [h0, cellsOf]
  rw [if_pos ⟨hn, by omega⟩]
  unfold vfill
  rw [splice_all (by rw [hn, hc])]
theorem view_sub {lkf : Nat → Option (List VV)} {h off n wd : Nat} {cs ds : List VV} (h1 : lkf h = some cs) (h2 : off + n * wd ≤ cs.length) (h3 : (cs.drop off).take (n * wd) = ds) : view lkf (.sl h off n wd) = some ([h], n, ds) := by
  unfold view
  simp only [h1]
  split
  · rename_i hw
    have := whole_of hw
    rw [← this.1] at h3
    rw [h3]
  · rw [show Nat.ble (off + n * wd) cs.length = true from by simpa using h2]
    simp only []
    rw [h3]
theorem load_agg' {t : TypeId} {r : TR} {cs ds : List VV} (h : cs = ds) (hr : Γ t = some r) (ha : r.d.agg = true) (hs : ds.length = r.size) : vload Γ t cs 0 = some (.agg ds) := by subst h; exact load_agg hr ha hs
theorem load_sub {t : TypeId} {r : TR} {cs ds : List VV} {off : Nat} (hr : Γ t = some r) (ha : r.d.agg = true) (hl : off + r.size ≤ cs.length) (hd : (cs.drop off).take r.size = ds) : vload Γ t cs off = some (.agg ds) := by
  unfold vload
  rw [hr]
  simp only [ha]
  split
  · rename_i hw
    have := whole_of hw
    rw [← this.1] at hd
    rw [hd]
  · rw [show Nat.ble (off + r.size) cs.length = true from by simpa using hl]
    simp only []
    rw [hd]
end Go.Proofs.YtidkdlaihmpjfaaDoor
