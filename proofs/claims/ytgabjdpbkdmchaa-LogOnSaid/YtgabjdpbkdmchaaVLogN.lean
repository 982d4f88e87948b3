/- Logs as lists of bytes: what is opened again. -/
import Derived.Test.YtgabjdpbkdmchaaVLog
namespace Go.Proofs.Ytgabjdpbkdmchaa
set_option linter.unusedVariables false
set_option linter.unusedSimpArgs false
set_option linter.unusedSectionVars false
theorem recB_length (r : List UInt8) : (recB r).length = r.length + 3 := by simp [recB]
theorem tailN_byte (r : List UInt8) : (UInt8.ofNat (tailN r)).toNat = tailN r := by
  have := tailN_lt r
  simp
  omega
theorem recB_hd {r : List UInt8} (h : r.length ≤ 200) (rest : List UInt8) : hdB (recB r ++ rest) = r.length := by
  unfold hdB recB
  simp
  omega
theorem openL_rec {r : List UInt8} (h : r.length ≤ 200) (rest : List UInt8) : openL (recB r ++ rest) = (r :: (openL rest).1, r.length + 3 + (openL rest).2) := by
  have e : recB r ++ rest = UInt8.ofNat (r.length / 256) :: UInt8.ofNat r.length :: (r ++ (UInt8.ofNat (tailN r) :: rest)) := by simp [recB]
  have h1 : hdB (recB r ++ rest) = r.length := recB_hd h rest
  have h2 : (recB r ++ rest).drop 2 = r ++ (UInt8.ofNat (tailN r) :: rest) := by rw [e]; rfl
  have h3 : ((recB r ++ rest).drop 2).take r.length = r := by rw [h2, List.take_left]
  have hl := recB_length r
  have h5 : (recB r ++ rest).drop (r.length + 3) = rest := by rw [← hl, List.drop_left]
  rw [openL_one, h1, h3, h5]
  refine ⟨by rw [List.length_append, hl]; omega, by rw [h1]; exact h, by rw [h1, List.length_append, hl]; omega, ?_⟩
  rw [h1, h3, List.getD_eq_getElem?_getD, ← List.getElem?_drop, h2]
  simp [List.getElem?_append_right]
  have := tailN_lt r
  omega
theorem openL_short {r : List UInt8} (h : r.length ≤ 200) {k : Nat} (hk : k < r.length + 3) : openL ((recB r).take k) = ([], 0) := by
  apply openL_none
  rintro ⟨h1, h2, h3, _⟩
  have hl := recB_length r
  have : hdB ((recB r).take k) = r.length := by
    have h4 := recB_hd h []
    rw [List.append_nil] at h4
    rw [← h4]
    unfold hdB
    simp at h1
    simp only [List.getD_eq_getElem?_getD, List.getElem?_take]
    rw [if_pos (by omega), if_pos (by omega)]
  rw [this] at h3
  simp [hl] at h3
  omega
def cat (w : List (List UInt8)) : List UInt8 := w.flatMap recB
theorem cat_append (u v : List (List UInt8)) : cat (u ++ v) = cat u ++ cat v := by simp [cat]
theorem openL_cat : ∀ (w : List (List UInt8)) (t : List UInt8), (∀ r ∈ w, r.length ≤ 200) → openL t = ([], 0) → openL (cat w ++ t) = (w, (cat w).length)
  | [], t, _, h => by simpa [cat] using h
  | r :: w, t, hw, h => by
    have e : cat (r :: w) ++ t = recB r ++ (cat w ++ t) := by simp [cat]
    rw [e, openL_rec (hw r (by simp)), openL_cat w t (fun x hx => hw x (by simp [hx])) h]
    simp [cat, recB_length]
theorem openL_nil : openL [] = ([], 0) := rfl
theorem openL_all {w : List (List UInt8)} (hw : ∀ r ∈ w, r.length ≤ 200) : openL (cat w) = (w, (cat w).length) := by
  have := openL_cat w [] hw openL_nil
  simpa using this
/-- The first bytes are whole records, and a part of one. -/
theorem cat_take : ∀ (w : List (List UInt8)) (k : Nat), (∀ r ∈ w, r.length ≤ 200) → ∃ j t, j ≤ w.length ∧ (cat w).take k = cat (w.take j) ++ t ∧ openL t = ([], 0) ∧ ∀ n, n ≤ w.length → (cat (w.take n)).length ≤ k → n ≤ j
  | [], k, _ => ⟨0, [], Nat.le_refl _, by simp [cat], openL_nil, fun n h _ => h⟩
  | r :: w, k, hw => by
    have hr := hw r (by simp)
    have hl := recB_length r
    have e : cat (r :: w) = recB r ++ cat w := by simp [cat]
    rcases Nat.lt_or_ge k (r.length + 3) with h | h
    · refine ⟨0, (recB r).take k, Nat.zero_le _, ?_, openL_short hr h, fun n hn hk => ?_⟩
      · rw [e, List.take_append_of_le_length (by omega)]
        simp [cat]
      · cases n with
        | zero => exact Nat.le_refl _
        | succ n => simp [cat, hl] at hk; omega
    · obtain ⟨j, t, h1, h2, h3, h4⟩ := cat_take w (k - (r.length + 3)) (fun x hx => hw x (by simp [hx]))
      refine ⟨j + 1, t, by simp; omega, ?_, h3, fun n hn hk => ?_⟩
      · rw [e, List.take_append, List.take_of_length_le (by omega), hl, h2]
        simp [cat]
      · cases n with
        | zero => exact Nat.zero_le _
        | succ n =>
          simp [cat, hl] at hk hn
          have := h4 n hn (by unfold cat; simp; omega)
          omega
/-- What a log made of raw things is. -/
structure LG.Ok (q : LG) : Prop where
  all : q.a ++ q.b = cat q.w
  synced : q.a = cat (q.w.take q.n)
  n : q.n ≤ q.w.length
  short : ∀ r ∈ q.w, r.length ≤ 40
theorem LG.Ok.step {q : LG} (h : q.Ok) (r : RawD) : (q.step r).Ok := by
  have hc : (cutB r).length ≤ 40 := by simp [cutB]; omega
  have e1 : cat [cutB r] = recB (cutB r) := by simp [cat]
  have hs : ∀ x ∈ q.w ++ [cutB r], x.length ≤ 40 := by
    intro x hx
    rcases List.mem_append.1 hx with hx | hx
    · exact h.short x hx
    · simp at hx; subst hx; exact hc
  have hall : q.a ++ (q.b ++ recB (cutB r)) = cat (q.w ++ [cutB r]) := by rw [← List.append_assoc, h.all, cat_append, e1]
  unfold LG.step
  split
  · exact ⟨by simpa using hall, by rw [List.take_of_length_le (by simp)]; exact hall, by simp, hs⟩
  · refine ⟨hall, ?_, by have := h.n; simp; omega, hs⟩
    rw [List.take_append_of_le_length h.n]; exact h.synced
theorem lgOf_ok (l : List RawD) : (lgOf l).Ok := by
  unfold lgOf
  have key : ∀ (l : List RawD) (q : LG), q.Ok → (l.foldl LG.step q).Ok := by
    intro l
    induction l with
    | nil => exact fun q h => h
    | cons r l ih => exact fun q h => ih _ (h.step r)
  exact key l _ ⟨rfl, rfl, Nat.le_refl _, fun r h => by cases h⟩
end Go.Proofs.Ytgabjdpbkdmchaa
