/- A table of types as a tree. -/
import Derived.Test.YtilmfdlonpjjiaaVd
namespace Go.Proofs.Ytilmfdlonpjjiaa
set_option linter.unusedVariables false
set_option linter.unusedSimpArgs false
set_option linter.unusedSectionVars false
open Go
/-- A table of types as a tree: found in a few steps. -/
inductive TT where
  | leaf
  | node (l : TT) (k : Nat) (r : TR) (g : TT)
noncomputable def TT.get (T : TT) : Nat → Option TR := @TT.rec (fun _ => Nat → Option TR) (fun _ => none)
  (fun _ k r _ il ig t => @Bool.rec (fun _ => Option TR) (@Bool.rec (fun _ => Option TR) (ig t) (il t) (Nat.blt t k)) (some r) (Nat.beq t k)) T
def TT.allB (f : TypeId → TR → Bool) : TT → Bool
  | .leaf => true
  | .node l k r g => f k r && (TT.allB f l && TT.allB f g)
theorem tabOkT {P : Program} : ∀ {T : TT}, TT.allB (fun k r => trB P k r) T = true → TabOk P T.get
  | .leaf, _ => fun t r h => by cases h
  | .node l k r g, h => fun t q hq => by
    simp only [TT.allB, Bool.and_eq_true] at h
    obtain ⟨h1, h2, h3⟩ := h
    have hq : @Bool.rec (fun _ => Option TR) (@Bool.rec (fun _ => Option TR) (g.get t) (l.get t) (Nat.blt t k)) (some r) (Nat.beq t k) = some q := hq
    cases hb : Nat.beq t k with
    | true =>
      rw [hb] at hq
      have e := Nat.eq_of_beq_eq_true hb
      subst e
      have hq : some r = some q := hq
      cases hq
      exact trB_ok h1
    | false =>
      rw [hb] at hq
      cases hl : Nat.blt t k with
      | true => rw [hl] at hq; exact tabOkT h2 t q hq
      | false => rw [hl] at hq; exact tabOkT h3 t q hq
end Go.Proofs.Ytilmfdlonpjjiaa
