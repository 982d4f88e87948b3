/- What turned gives: a plain law. -/
import Derived.Test.YtlecdiopokalgaaVSetT
namespace Go.Proofs.Ytlecdiopokalgaa
set_option linter.unusedVariables false
set_option linter.unusedSimpArgs false
set_option linter.unusedSectionVars false
open Go.ChangeShapes Go.WideShapes Go.ChangeAt Go.RowKit Go.Joins
theorem turn_lo {L : List SetD} {K : List (List Nat)} {now i : Nat} (h : i + 1 < L.length) (hi : i < (turnL L K now).length) : (turnL L K now)[i] = L[i] := by
  refine (List.getElem_set hi).trans ?_
  rw [if_neg (by omega), List.getElem_append_left (by omega)]
theorem turn_mid {L : List SetD} {K : List (List Nat)} {now i : Nat} (h : i + 1 = L.length) (hi : i < (turnL L K now).length) : (turnL L K now)[i] = (L[i]).to (now + 24) := by
  have e : L.length - 1 = i := by omega
  refine (List.getElem_set hi).trans ?_
  rw [if_pos e, e, List.getD_eq_getElem?_getD, List.getElem?_append_left (by omega), List.getElem?_eq_getElem (by omega)]
  rfl
theorem turn_hi {L : List SetD} {K : List (List Nat)} {now i : Nat} (h : i = L.length) (h1 : 1 ≤ L.length) (hi : i < (turnL L K now).length) : (turnL L K now)[i] = ⟨L.length, K, 0⟩ := by
  refine (List.getElem_set hi).trans ?_
  rw [if_neg (by omega), List.getElem_append_right (by omega)]
  simp [h]
theorem turn_cases {L : List SetD} {K : List (List Nat)} {now i : Nat} (h1 : 1 ≤ L.length) (hi : i < (turnL L K now).length) :
    (∃ h : i + 1 < L.length, (turnL L K now)[i] = L[i]) ∨ (∃ h : i + 1 = L.length, (turnL L K now)[i] = (L[i]).to (now + 24)) ∨ (i = L.length ∧ (turnL L K now)[i] = ⟨L.length, K, 0⟩) := by
  have hl := turn_len L K now
  rcases Nat.lt_trichotomy (i + 1) L.length with h | h | h
  · exact .inl ⟨h, turn_lo h hi⟩
  · exact .inr (.inl ⟨h, turn_mid h hi⟩)
  · exact .inr (.inr ⟨by omega, turn_hi (by omega) h1 hi⟩)
def keyA (b c : Nat) : List Nat := b :: c :: List.replicate 18 0
def turnK (i b : Nat) : List (List Nat) := [keyA (i + 2) 0, keyA b 1]
theorem turnK_ok (i b : Nat) : KeysOk (turnK i b) := by
  refine ⟨Nat.le_succ 1, Nat.le_add_left 2 17, ?_, ?_⟩
  · intro k hk
    rcases List.mem_cons.1 hk with h | h
    · subst h; rfl
    · rw [List.mem_singleton.1 h]; rfl
  · intro x y hx hy e
    have hx2 : x < 2 := hx
    have x1 : x = 1 := by omega
    have y0 : y = 0 := by omega
    subst x1; subst y0
    simp [turnK, keyA] at e
/-- What stands after j turns. -/
structure TurnOk (j now : Nat) (L : List SetD) (A : List Nat) : Prop where
  sets : SetsOk L
  len : L.length = j + 1
  alen : A.length = j
  till : ∀ (i : Nat) (h : i < L.length) (h' : i < A.length), L[i].till = A[i] + 24
  keys : ∀ (i : Nat) (h : i < L.length), ∃ t, L[i].keys = keyA (i + 1) 0 :: t
  last : ∀ a ∈ A, a ≤ now
  n1 : 1 ≤ now
  n2 : now ≤ 1 + 40 * j
theorem turn_first : TurnOk 0 1 [⟨0, [keyA 1 0], 0⟩] [] := by
  have hk : KeysOk [keyA 1 0] := by
    refine ⟨by decide, by decide, ?_, ?_⟩
    · intro k hk
      rw [List.mem_singleton.1 hk]; rfl
    · intro x y hx hy e
      have hx2 : x < 1 := hx
      omega
  refine ⟨⟨by decide, by decide, ?_, ?_, ?_, ?_, ?_⟩, rfl, rfl, ?_, ?_, ?_, by decide, by decide⟩
  · intro i h
    have h : i < 1 := h
    have : i = 0 := by omega
    subst this; rfl
  · intro s hs
    rw [List.mem_singleton.1 hs]; exact hk
  · intro i h
    have h : i < 1 := h
    have : i = 0 := by omega
    subst this
    exact ⟨fun _ => rfl, fun _ => rfl⟩
  · intro s hs
    rw [List.mem_singleton.1 hs]; exact Nat.zero_le _
  · intro i h h2
    have h : i + 1 < 1 := h
    omega
  · intro i h h'
    cases h'
  · intro i h
    have h : i < 1 := h
    have : i = 0 := by omega
    subst this
    exact ⟨[], rfl⟩
  · intro a ha
    cases ha
theorem turn_prev {j now now' : Nat} {L : List SetD} {A : List Nat} (h : TurnOk j now L A) (hn : now ≤ now') : ∀ (hh : 1 < L.length), L[L.length - 2].till ≤ now' + 24 := by
  intro hh
  have l := h.len
  have a := h.alen
  have t := h.till (L.length - 2) (by omega) (by omega)
  have := h.last _ (List.getElem_mem (show L.length - 2 < A.length by omega))
  omega
theorem turn_next {j now now' b : Nat} {L : List SetD} {A : List Nat} (h : TurnOk j now L A) (hj : j < 7) (hn : now ≤ now') (hn2 : now' ≤ now + 39) :
    TurnOk (j + 1) now' (turnL L (turnK j b) now') (A ++ [now']) := by
  have l := h.len
  have al := h.alen
  have tl := turn_len L (turnK j b) now'
  have h1 := h.sets.some
  have m2 := h.n2
  have tills : ∀ (i : Nat) (hi : i < (turnL L (turnK j b) now').length) (h' : i < (A ++ [now']).length), (turnL L (turnK j b) now')[i].till = (A ++ [now'])[i] + 24 := by
    intro i hi h'
    have h2 : i < A.length + 1 := by simpa using h'
    rcases turn_cases h1 hi with ⟨hh, e⟩ | ⟨hh, e⟩ | ⟨hh, e⟩
    · rw [e, List.getElem_append_left (show i < A.length by omega)]
      exact h.till i (by omega) (by omega)
    · rw [e, List.getElem_append_right (by omega)]
      simp [SetD.to]
    · omega
  have bound : ∀ a ∈ A ++ [now'], a ≤ now' := by
    intro a ha
    rcases List.mem_append.1 ha with ha | ha
    · have := h.last a ha
      omega
    · rw [List.mem_singleton.1 ha]; exact Nat.le_refl _
  refine ⟨⟨by omega, by omega, ?_, ?_, ?_, ?_, ?_⟩, by omega, by simp [al], tills, ?_, bound, by have := h.n1; omega, by omega⟩
  · intro i hi
    rcases turn_cases h1 hi with ⟨hh, e⟩ | ⟨hh, e⟩ | ⟨hh, e⟩
    · rw [e]; exact h.sets.index i (by omega)
    · rw [e]; exact h.sets.index i (by omega)
    · rw [e]; exact hh.symm
  · intro s hs
    obtain ⟨i, hi, e'⟩ := List.getElem_of_mem hs
    rw [← e']
    rcases turn_cases h1 hi with ⟨hh, e⟩ | ⟨hh, e⟩ | ⟨hh, e⟩
    · rw [e]; exact h.sets.keys _ (List.getElem_mem _)
    · rw [e]; exact h.sets.keys L[i] (List.getElem_mem _)
    · rw [e]; exact turnK_ok j b
  · intro i hi
    rcases turn_cases h1 hi with ⟨hh, e⟩ | ⟨hh, e⟩ | ⟨hh, e⟩
    · rw [e]
      have := h.sets.last i (by omega)
      constructor
      · intro z; have := this.1 z; omega
      · intro z; omega
    · rw [e]
      constructor
      · intro z
        have z : now' + 24 = 0 := z
        omega
      · intro z; omega
    · rw [e]
      exact ⟨fun _ => by omega, fun _ => rfl⟩
  · intro s hs
    obtain ⟨i, hi, e'⟩ := List.getElem_of_mem hs
    rw [← e']
    rcases turn_cases h1 hi with ⟨hh, e⟩ | ⟨hh, e⟩ | ⟨hh, e⟩
    · rw [e]; exact h.sets.le _ (List.getElem_mem _)
    · rw [e]
      show now' + 24 ≤ _
      omega
    · rw [e]; exact Nat.zero_le _
  · intro i hi hi2
    rcases turn_cases h1 (show i < (turnL L (turnK j b) now').length by omega) with ⟨hh, e⟩ | ⟨hh, e⟩ | ⟨hh, e⟩
    · rw [e]
      rcases turn_cases h1 hi with ⟨hg, g⟩ | ⟨hg, g⟩ | ⟨hg, g⟩
      · rw [g]
        exact h.sets.up i (by omega) (by omega)
      · rw [g, h.till i (by omega) (by omega)]
        have := h.last _ (List.getElem_mem (show i < A.length by omega))
        show _ ≤ now' + 24
        omega
      · omega
    · omega
    · omega
  · intro i hi
    rcases turn_cases h1 hi with ⟨hh, e⟩ | ⟨hh, e⟩ | ⟨hh, e⟩
    · rw [e]; exact h.keys i (by omega)
    · rw [e]; exact h.keys i (by omega)
    · rw [e]
      refine ⟨[keyA b 1], ?_⟩
      show turnK j b = _
      rw [show i = j + 1 by omega]
      rfl
end Go.Proofs.Ytlecdiopokalgaa
