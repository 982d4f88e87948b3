/- The listed package variables, as the engine sees them. -/
import Derived.Test.YtidkdlaihmpjfaaDoorVLaw
import Derived.LaidMore
import Derived.LaidByTextLater
import Derived.MakeChecks
namespace Go.Proofs.YtidkdlaihmpjfaaDoor
set_option linter.unusedVariables false
set_option linter.unusedSimpArgs false
set_option linter.unusedSectionVars false
open Go.ChangeShapes Go.WideShapes Go.ChangeAt Go.RowKit Go.Joins
set_option maxRecDepth 10000
theorem glob_at {W : World} {g : Nat} {nm : String} {t e : TypeId} {n base fuel : Nat} {spare : Nat → Bool} {held : Bool} {k : IntKind} {H : Type} {enc : TypeId × Value → H} (hg : Tryd.prog.globalNamed nm = some g) (ht : Tryd.prog.underlying t = some (.array n e)) (he : Tryd.prog.underlying e = some (.int k)) (ce : Tryd.prog.cellsOf e = 1) (ct : Tryd.prog.cellsOf t = n)
    {cs : Array Value} (hv : W.var? Tryd.prog nm = some cs) {l : List Nat} (hl : l.length = n) {p : List MemPlace} (hd : DataW.trod enc Tryd.prog W base spare held fuel t cs.toList = some (.agg (l.map fun (x : Nat) => .lit (.int k x)), p)) :
    VR (E0 W (fun _ => True)) (.dp (l.map fun (x : Nat) => nI k x) 0) (.pointer (some ⟨g, 0, none⟩)) := by
  obtain ⟨xs, m, _, hx, hc, hxn, hel⟩ := DataW.trod_array ht hd
  simp only [Prod.mk.injEq, DataW.agg.injEq] at hx
  rw [ct] at hc
  have key : ∀ i, (hi : i < n) → cs.toList[i]? = some (.int k (l[i]'(by omega) : Nat)) := by
    intro i hi
    have h1 := hel i hi
    rw [ce, Nat.mul_one, List.getElem?_eq_getElem (show i < xs.length by omega)] at h1
    obtain ⟨y, e1, e2, _⟩ := DataW.trod_int he h1
    have h3 : (xs.map (·.1))[i]? = some (.lit (.int k y)) := by
      rw [List.getElem?_map, List.getElem?_eq_getElem (show i < xs.length by omega), e2]; rfl
    rw [← hx.1, List.getElem?_map, List.getElem?_eq_getElem (show i < l.length by omega)] at h3
    simp only [Option.map_some, Option.some.injEq, DataW.lit.injEq, Lit.int.injEq] at h3
    have h2 : (List.take 1 (List.drop i cs.toList))[0]? = some (.int k y) := by rw [e1]; rfl
    rw [List.getElem?_take_of_lt (by omega), List.getElem?_drop] at h2
    rw [← h3.2] at h2
    exact h2
  have hb : g < W.heap.size := by
    simp only [World.var?, hg, Option.bind_some] at hv
    split at hv
    · rename_i hb; exact (Array.getElem?_eq_some_iff.1 hb).1
    · cases hv
  have hcs : cs.toList = l.map fun (x : Nat) => Value.int k x := by
    refine List.ext_getElem (by rw [List.length_map, hl]; exact hc) fun i h1 h2 => ?_
    have := key i (by rw [List.length_map, hl] at h2; exact h2)
    rw [List.getElem?_eq_getElem h1] at this
    simpa using this
  simp only [VR]
  refine ⟨g, 0, trivial, hb, rfl, cs.toList, fun i u hu => ?_, ?_, ?_⟩
  · simp only [Env.cell, E0, Nat.zero_add]
    rw [World.var?_cell hg hv i]
    simpa using hu
  · rw [hcs]
    have : ∀ l : List Nat, VRs (E0 W (fun _ => True)) (l.map fun (x : Nat) => nI k x) (l.map fun (x : Nat) => Value.int k x) := by
      intro l
      induction l with
      | nil => simp [VRs]
      | cons x l ih => exact VRs.cons rfl ih
    exact this l
  · rw [hcs]
    intro u hu
    obtain ⟨x, _, rfl⟩ := List.mem_map.1 hu
    rfl
theorem hG_laid {W : World} (h : laidMetH Tryd.prog laidL W) : ∀ g es, G0 g = some es → VR (E0 W (fun _ => True)) (.dp es 0) (.pointer (some ⟨g, 0, none⟩)) := by
  rw [MakeChecks.laidMetH_plain _ _ _ (by kernel_rfl)] at h
  obtain ⟨ps, ⟨g0, t0, cs0, f0, p0, q0, hg0, ht0, hv0, hd0, ⟨g1, t1, cs1, f1, p1, q1, hg1, ht1, hv1, hd1, _, _⟩, _⟩, _, _⟩ := h
  obtain rfl := Option.some.inj ((show Tryd.prog.globalNamed "bascule/keccak.rounds" = some 0 by kernel_rfl).symm.trans hg0)
  obtain rfl := Option.some.inj ((show Tryd.prog.globalNamed "bascule/keccak.turns" = some 1 by kernel_rfl).symm.trans hg1)
  obtain rfl := Option.some.inj ((show (Tryd.prog.globals[0]?).map (·.type) = some 98 by kernel_rfl).symm.trans ht0)
  obtain rfl := Option.some.inj ((show (Tryd.prog.globals[1]?).map (·.type) = some 101 by kernel_rfl).symm.trans ht1)
  intro g es he
  rcases G0_cases he with ⟨rfl, rfl⟩ | ⟨rfl, rfl⟩
  · exact glob_at hg0 Tryd.underlying98 Tryd.underlying22 (by kernel_rfl) (by kernel_rfl) hv0 rfl hd0
  · exact glob_at hg1 Tryd.underlying101 Tryd.underlying3 (by kernel_rfl) (by kernel_rfl) hv1 rfl hd1
/-- The door's own heap meets the condition. -/
theorem door_met (os : Os) (args : Array Value) : laidMetH Tryd.prog laidL ((World.doorLaid Tryd.prog 400 os).forCall (fun _ _ => 0) ⟨#[], args, []⟩).memory :=
  laidMetH_of_parts3 (fuel := 8) (laidMet_of_run' 8 (by kernel_rfl) (by kernel_rfl)) (by kernel_rfl) (by kernel_rfl)
end Go.Proofs.YtidkdlaihmpjfaaDoor
