/-
  No cell of these rows narrows 'for every input' (looked for: loops, veiled, ifaces, maps, wideKeys, modest, calm, conditions, laid).
  DERIVED. THE GIVEN ROWS OF THIS SEAT. 10 by the template 'for every input the law returns true; each argument reads behind the call as it read before'; 0 by the template 'total and deterministic' (their statements: YtdicmddedcfhaaaTotals.lean).
  GIVEN WITH THE SEED: the statements are not yours to turn. If you find one false, say at which input.
  Laid BY PROGRAM, IN A SANDBOX (cutbox-rows.mjs): the forced cells as the released guide's own fill.sh prints them over the translation f6024ccff7824e64… (all of the seat's roots in one cut). By AI agents, Wed Nov 11 2026. No macro, syntax, notation, axiom, sorry.
-/
import Derived.Test.YtdicmddedcfhaaaChecked
import GoSem.Claim
import GoSem.ClaimJoined
import GoSem.ClaimMapViews
import Derived.JoinedTies
import Derived.KernelRfl
namespace Go.Proofs.Ytdicmddedcfhaaa
/- THE CELL 'sum', in the pinned program and in every row, IS THE sha256 OF THE DUMP (.gsa) THAT YtdicmddedcfhaaaProg.lean LOADS. Nothing in Lean hashes anything: it is a label: what it is worth is what the hold of that sum in a sandbox is worth. -/
noncomputable def Try.pinned : Pinned := { name := "ytdicmddedcfhaaa", sum := "f6024ccff7824e64c61a373e225ce9960c1782498859723204550fdc01f07e77", checked := Try.checked }
namespace Rows
def none {H : Type} : Left H := { results := [], args := [] }

/-- 'basculekeep.PaperBack': WHATEVER THE INPUT: true; the input reads as it did. -/
def paperBackSpec : ChangeSpec := { name := "paperBack", fn := fun _ => fun
  | [d1, d2, d3, d4] => { results := [.lit (.bool true)], args := [d1, d2, d3, d4] }
  | _ => none }
def paperBackRow : OpenClaim := { program := "ytdicmddedcfhaaa", sum := "f6024ccff7824e64c61a373e225ce9960c1782498859723204550fdc01f07e77", func := "bascule/basculekeep.PaperBack", spec := "paperBack", unfollowed := true, recurses := true, apart := false }
def PaperBackSaid : Prop := paperBackRow.holds Try.pinned (OpenSpec.ofChange paperBackSpec)

/-- ITS FALSE NEIGHBOUR: 'it returns false'. Refute it at one input. -/
def paperBackWrong : ChangeSpec := { name := "paperBack", fn := fun _ => fun
  | [d1, d2, d3, d4] => { results := [.lit (.bool false)], args := [d1, d2, d3, d4] }
  | _ => none }
def PaperBackWrongFalsely : Prop := paperBackRow.holds Try.pinned (OpenSpec.ofChange paperBackWrong)

/-- 'basculekeep.PaperFixed': WHATEVER THE INPUT: true; the input reads as it did. -/
def paperFixedSpec : ChangeSpec := { name := "paperFixed", fn := fun _ => fun
  | [d] => { results := [.lit (.bool true)], args := [d] }
  | _ => none }
def paperFixedRow : OpenClaim := { program := "ytdicmddedcfhaaa", sum := "f6024ccff7824e64c61a373e225ce9960c1782498859723204550fdc01f07e77", func := "bascule/basculekeep.PaperFixed", spec := "paperFixed", unfollowed := true, recurses := true, apart := false }
def PaperFixedSaid : Prop := paperFixedRow.holds Try.pinned (OpenSpec.ofChange paperFixedSpec)

/-- ITS FALSE NEIGHBOUR: 'it returns false'. Refute it at one input. -/
def paperFixedWrong : ChangeSpec := { name := "paperFixed", fn := fun _ => fun
  | [d] => { results := [.lit (.bool false)], args := [d] }
  | _ => none }
def PaperFixedWrongFalsely : Prop := paperFixedRow.holds Try.pinned (OpenSpec.ofChange paperFixedWrong)

/-- 'basculekeep.LoadBack': WHATEVER THE INPUT: true; the input reads as it did. -/
def loadBackSpec : ChangeSpec := { name := "loadBack", fn := fun _ => fun
  | [d1, d2, d3, d4, d5] => { results := [.lit (.bool true)], args := [d1, d2, d3, d4, d5] }
  | _ => none }
def loadBackRow : OpenClaim := { program := "ytdicmddedcfhaaa", sum := "f6024ccff7824e64c61a373e225ce9960c1782498859723204550fdc01f07e77", func := "bascule/basculekeep.LoadBack", spec := "loadBack", unfollowed := true, recurses := true, apart := false }
def LoadBackSaid : Prop := loadBackRow.holds Try.pinned (OpenSpec.ofChange loadBackSpec)

/-- ITS FALSE NEIGHBOUR: 'it returns false'. Refute it at one input. -/
def loadBackWrong : ChangeSpec := { name := "loadBack", fn := fun _ => fun
  | [d1, d2, d3, d4, d5] => { results := [.lit (.bool false)], args := [d1, d2, d3, d4, d5] }
  | _ => none }
def LoadBackWrongFalsely : Prop := loadBackRow.holds Try.pinned (OpenSpec.ofChange loadBackWrong)

/-- 'basculekeep.LoadFixed': WHATEVER THE INPUT: true; the input reads as it did. -/
def loadFixedSpec : ChangeSpec := { name := "loadFixed", fn := fun _ => fun
  | [d] => { results := [.lit (.bool true)], args := [d] }
  | _ => none }
def loadFixedRow : OpenClaim := { program := "ytdicmddedcfhaaa", sum := "f6024ccff7824e64c61a373e225ce9960c1782498859723204550fdc01f07e77", func := "bascule/basculekeep.LoadFixed", spec := "loadFixed", unfollowed := true, recurses := true, apart := false }
def LoadFixedSaid : Prop := loadFixedRow.holds Try.pinned (OpenSpec.ofChange loadFixedSpec)

/-- ITS FALSE NEIGHBOUR: 'it returns false'. Refute it at one input. -/
def loadFixedWrong : ChangeSpec := { name := "loadFixed", fn := fun _ => fun
  | [d] => { results := [.lit (.bool false)], args := [d] }
  | _ => none }
def LoadFixedWrongFalsely : Prop := loadFixedRow.holds Try.pinned (OpenSpec.ofChange loadFixedWrong)

/-- 'basculekeep.CurveOrder': WHATEVER THE INPUT: true; the input reads as it did. -/
def curveOrderSpec : ChangeSpec := { name := "curveOrder", fn := fun _ => fun
  | [d1, d2, d3] => { results := [.lit (.bool true)], args := [d1, d2, d3] }
  | _ => none }
def curveOrderRow : OpenClaim := { program := "ytdicmddedcfhaaa", sum := "f6024ccff7824e64c61a373e225ce9960c1782498859723204550fdc01f07e77", func := "bascule/basculekeep.CurveOrder", spec := "curveOrder", inPlace := ["math/bits.Add64", "math/bits.Sub64"], unfollowed := true, recurses := true, apart := false }
def CurveOrderSaid : Prop := curveOrderRow.holds Try.pinned (OpenSpec.ofChange curveOrderSpec)

/-- ITS FALSE NEIGHBOUR: 'it returns false'. Refute it at one input. -/
def curveOrderWrong : ChangeSpec := { name := "curveOrder", fn := fun _ => fun
  | [d1, d2, d3] => { results := [.lit (.bool false)], args := [d1, d2, d3] }
  | _ => none }
def CurveOrderWrongFalsely : Prop := curveOrderRow.holds Try.pinned (OpenSpec.ofChange curveOrderWrong)

/-- 'basculekeep.CurveKnown': WHATEVER THE INPUT: true; the input reads as it did. -/
def curveKnownSpec : ChangeSpec := { name := "curveKnown", fn := fun _ => fun
  | [d] => { results := [.lit (.bool true)], args := [d] }
  | _ => none }
def curveKnownRow : OpenClaim := { program := "ytdicmddedcfhaaa", sum := "f6024ccff7824e64c61a373e225ce9960c1782498859723204550fdc01f07e77", func := "bascule/basculekeep.CurveKnown", spec := "curveKnown", inPlace := ["math/bits.Add64", "math/bits.Sub64"], unfollowed := true, recurses := true, apart := false }
def CurveKnownSaid : Prop := curveKnownRow.holds Try.pinned (OpenSpec.ofChange curveKnownSpec)

/-- ITS FALSE NEIGHBOUR: 'it returns false'. Refute it at one input. -/
def curveKnownWrong : ChangeSpec := { name := "curveKnown", fn := fun _ => fun
  | [d] => { results := [.lit (.bool false)], args := [d] }
  | _ => none }
def CurveKnownWrongFalsely : Prop := curveKnownRow.holds Try.pinned (OpenSpec.ofChange curveKnownWrong)

/-- 'basculekeep.CurveGroups': WHATEVER THE INPUT: true; the input reads as it did. -/
def curveGroupsSpec : ChangeSpec := { name := "curveGroups", fn := fun _ => fun
  | [d1, d2, d3, d4] => { results := [.lit (.bool true)], args := [d1, d2, d3, d4] }
  | _ => none }
def curveGroupsRow : OpenClaim := { program := "ytdicmddedcfhaaa", sum := "f6024ccff7824e64c61a373e225ce9960c1782498859723204550fdc01f07e77", func := "bascule/basculekeep.CurveGroups", spec := "curveGroups", inPlace := ["math/bits.Add64", "math/bits.Sub64"], unfollowed := true, recurses := true, apart := false }
def CurveGroupsSaid : Prop := curveGroupsRow.holds Try.pinned (OpenSpec.ofChange curveGroupsSpec)

/-- ITS FALSE NEIGHBOUR: 'it returns false'. Refute it at one input. -/
def curveGroupsWrong : ChangeSpec := { name := "curveGroups", fn := fun _ => fun
  | [d1, d2, d3, d4] => { results := [.lit (.bool false)], args := [d1, d2, d3, d4] }
  | _ => none }
def CurveGroupsWrongFalsely : Prop := curveGroupsRow.holds Try.pinned (OpenSpec.ofChange curveGroupsWrong)

/-- 'basculekeep.CurveBack': WHATEVER THE INPUT: true; the input reads as it did. -/
def curveBackSpec : ChangeSpec := { name := "curveBack", fn := fun _ => fun
  | [d1, d2] => { results := [.lit (.bool true)], args := [d1, d2] }
  | _ => none }
def curveBackRow : OpenClaim := { program := "ytdicmddedcfhaaa", sum := "f6024ccff7824e64c61a373e225ce9960c1782498859723204550fdc01f07e77", func := "bascule/basculekeep.CurveBack", spec := "curveBack", inPlace := ["math/bits.Add64", "math/bits.Sub64"], unfollowed := true, recurses := true, apart := false }
def CurveBackSaid : Prop := curveBackRow.holds Try.pinned (OpenSpec.ofChange curveBackSpec)

/-- ITS FALSE NEIGHBOUR: 'it returns false'. Refute it at one input. -/
def curveBackWrong : ChangeSpec := { name := "curveBack", fn := fun _ => fun
  | [d1, d2] => { results := [.lit (.bool false)], args := [d1, d2] }
  | _ => none }
def CurveBackWrongFalsely : Prop := curveBackRow.holds Try.pinned (OpenSpec.ofChange curveBackWrong)

/-- 'basculekeep.MultAdds': WHATEVER THE INPUT: true; the input reads as it did. -/
def multAddsSpec : ChangeSpec := { name := "multAdds", fn := fun _ => fun
  | [d1, d2, d3, d4] => { results := [.lit (.bool true)], args := [d1, d2, d3, d4] }
  | _ => none }
def multAddsRow : OpenClaim := { program := "ytdicmddedcfhaaa", sum := "f6024ccff7824e64c61a373e225ce9960c1782498859723204550fdc01f07e77", func := "bascule/basculekeep.MultAdds", spec := "multAdds", inPlace := ["math/bits.Add64", "math/bits.Sub64"], unfollowed := true, recurses := true, apart := false }
def MultAddsSaid : Prop := multAddsRow.holds Try.pinned (OpenSpec.ofChange multAddsSpec)

/-- ITS FALSE NEIGHBOUR: 'it returns false'. Refute it at one input. -/
def multAddsWrong : ChangeSpec := { name := "multAdds", fn := fun _ => fun
  | [d1, d2, d3, d4] => { results := [.lit (.bool false)], args := [d1, d2, d3, d4] }
  | _ => none }
def MultAddsWrongFalsely : Prop := multAddsRow.holds Try.pinned (OpenSpec.ofChange multAddsWrong)

/-- 'basculekeep.LiftBack': WHATEVER THE INPUT: true; the input reads as it did. -/
def liftBackSpec : ChangeSpec := { name := "liftBack", fn := fun _ => fun
  | [d1, d2] => { results := [.lit (.bool true)], args := [d1, d2] }
  | _ => none }
def liftBackRow : OpenClaim := { program := "ytdicmddedcfhaaa", sum := "f6024ccff7824e64c61a373e225ce9960c1782498859723204550fdc01f07e77", func := "bascule/basculekeep.LiftBack", spec := "liftBack", inPlace := ["math/bits.Add64", "math/bits.Sub64"], unfollowed := true, recurses := true, apart := false }
def LiftBackSaid : Prop := liftBackRow.holds Try.pinned (OpenSpec.ofChange liftBackSpec)

/-- ITS FALSE NEIGHBOUR: 'it returns false'. Refute it at one input. -/
def liftBackWrong : ChangeSpec := { name := "liftBack", fn := fun _ => fun
  | [d1, d2] => { results := [.lit (.bool false)], args := [d1, d2] }
  | _ => none }
def LiftBackWrongFalsely : Prop := liftBackRow.holds Try.pinned (OpenSpec.ofChange liftBackWrong)

/- THE SECOND FORM. 'bulk': how many values and letters a reading holds, each counted each time it is reached (what is shared counts as often as it is met; a slice's spare places count too). A statement '..UptoSaid' is the law's where the arguments, and the package variables that the reading takes, are together of bulk at most 1048576: NARROWER than '..Said'. Prove '..Said' where nothing that the law and all that it calls make is longer than what came in: it says more and counts as full. Else prove '..UptoSaid'. A law counts once. -/
mutual
def uptoBulk {H : Type} : DataW H → Nat
  | .lit (.string bytes) => bytes.length + 1
  | .lit _ => 1
  | .nil => 1
  | .ptr d => uptoBulk d + 1
  | .slice elems spare => uptoBulkAll elems + uptoBulkAll spare + 1
  | .agg parts => uptoBulkAll parts + 1
  | .iface _ d => uptoBulk d + 1
  | .map entries => uptoBulkEntries entries + 1
  | .held _ => 1
def uptoBulkAll {H : Type} : List (DataW H) → Nat
  | [] => 0
  | d :: r => uptoBulk d + uptoBulkAll r
def uptoBulkEntries {H : Type} : List (Lit × DataW H) → Nat
  | [] => 0
  | x :: r => uptoBulkEntry x + uptoBulkEntries r
def uptoBulkEntry {H : Type} : Lit × DataW H → Nat
  | (.string bytes, d) => bytes.length + uptoBulk d + 1
  | (_, d) => uptoBulk d + 1
 end
def uptoSmall : (H : Type) → List (DataW H) → Bool := fun _ ds => decide (uptoBulkAll ds ≤ 1048576)
def OpenSpec.upto (s : _root_.Go.ChangeSpec) : _root_.Go.OpenSpec := { _root_.Go.OpenSpec.ofChange s with cond := some uptoSmall }

/-- 'basculekeep.PaperBack', WHERE WHAT IT READS IS OF BULK AT MOST 1048576: true; the input reads as it did. -/
def paperBackUptoRow : OpenClaim := { program := "ytdicmddedcfhaaa", sum := "f6024ccff7824e64c61a373e225ce9960c1782498859723204550fdc01f07e77", func := "bascule/basculekeep.PaperBack", spec := "paperBack", unfollowed := true, recurses := true, apart := false, narrowed := true }
def PaperBackUptoSaid : Prop := paperBackUptoRow.holds Try.pinned (OpenSpec.upto paperBackSpec)

/-- 'basculekeep.PaperFixed', WHERE WHAT IT READS IS OF BULK AT MOST 1048576: true; the input reads as it did. -/
def paperFixedUptoRow : OpenClaim := { program := "ytdicmddedcfhaaa", sum := "f6024ccff7824e64c61a373e225ce9960c1782498859723204550fdc01f07e77", func := "bascule/basculekeep.PaperFixed", spec := "paperFixed", unfollowed := true, recurses := true, apart := false, narrowed := true }
def PaperFixedUptoSaid : Prop := paperFixedUptoRow.holds Try.pinned (OpenSpec.upto paperFixedSpec)

/-- 'basculekeep.LoadBack', WHERE WHAT IT READS IS OF BULK AT MOST 1048576: true; the input reads as it did. -/
def loadBackUptoRow : OpenClaim := { program := "ytdicmddedcfhaaa", sum := "f6024ccff7824e64c61a373e225ce9960c1782498859723204550fdc01f07e77", func := "bascule/basculekeep.LoadBack", spec := "loadBack", unfollowed := true, recurses := true, apart := false, narrowed := true }
def LoadBackUptoSaid : Prop := loadBackUptoRow.holds Try.pinned (OpenSpec.upto loadBackSpec)

/-- 'basculekeep.LoadFixed', WHERE WHAT IT READS IS OF BULK AT MOST 1048576: true; the input reads as it did. -/
def loadFixedUptoRow : OpenClaim := { program := "ytdicmddedcfhaaa", sum := "f6024ccff7824e64c61a373e225ce9960c1782498859723204550fdc01f07e77", func := "bascule/basculekeep.LoadFixed", spec := "loadFixed", unfollowed := true, recurses := true, apart := false, narrowed := true }
def LoadFixedUptoSaid : Prop := loadFixedUptoRow.holds Try.pinned (OpenSpec.upto loadFixedSpec)

/-- 'basculekeep.CurveOrder', WHERE WHAT IT READS IS OF BULK AT MOST 1048576: true; the input reads as it did. -/
def curveOrderUptoRow : OpenClaim := { program := "ytdicmddedcfhaaa", sum := "f6024ccff7824e64c61a373e225ce9960c1782498859723204550fdc01f07e77", func := "bascule/basculekeep.CurveOrder", spec := "curveOrder", inPlace := ["math/bits.Add64", "math/bits.Sub64"], unfollowed := true, recurses := true, apart := false, narrowed := true }
def CurveOrderUptoSaid : Prop := curveOrderUptoRow.holds Try.pinned (OpenSpec.upto curveOrderSpec)

/-- 'basculekeep.CurveKnown', WHERE WHAT IT READS IS OF BULK AT MOST 1048576: true; the input reads as it did. -/
def curveKnownUptoRow : OpenClaim := { program := "ytdicmddedcfhaaa", sum := "f6024ccff7824e64c61a373e225ce9960c1782498859723204550fdc01f07e77", func := "bascule/basculekeep.CurveKnown", spec := "curveKnown", inPlace := ["math/bits.Add64", "math/bits.Sub64"], unfollowed := true, recurses := true, apart := false, narrowed := true }
def CurveKnownUptoSaid : Prop := curveKnownUptoRow.holds Try.pinned (OpenSpec.upto curveKnownSpec)

/-- 'basculekeep.CurveGroups', WHERE WHAT IT READS IS OF BULK AT MOST 1048576: true; the input reads as it did. -/
def curveGroupsUptoRow : OpenClaim := { program := "ytdicmddedcfhaaa", sum := "f6024ccff7824e64c61a373e225ce9960c1782498859723204550fdc01f07e77", func := "bascule/basculekeep.CurveGroups", spec := "curveGroups", inPlace := ["math/bits.Add64", "math/bits.Sub64"], unfollowed := true, recurses := true, apart := false, narrowed := true }
def CurveGroupsUptoSaid : Prop := curveGroupsUptoRow.holds Try.pinned (OpenSpec.upto curveGroupsSpec)

/-- 'basculekeep.CurveBack', WHERE WHAT IT READS IS OF BULK AT MOST 1048576: true; the input reads as it did. -/
def curveBackUptoRow : OpenClaim := { program := "ytdicmddedcfhaaa", sum := "f6024ccff7824e64c61a373e225ce9960c1782498859723204550fdc01f07e77", func := "bascule/basculekeep.CurveBack", spec := "curveBack", inPlace := ["math/bits.Add64", "math/bits.Sub64"], unfollowed := true, recurses := true, apart := false, narrowed := true }
def CurveBackUptoSaid : Prop := curveBackUptoRow.holds Try.pinned (OpenSpec.upto curveBackSpec)

/-- 'basculekeep.MultAdds', WHERE WHAT IT READS IS OF BULK AT MOST 1048576: true; the input reads as it did. -/
def multAddsUptoRow : OpenClaim := { program := "ytdicmddedcfhaaa", sum := "f6024ccff7824e64c61a373e225ce9960c1782498859723204550fdc01f07e77", func := "bascule/basculekeep.MultAdds", spec := "multAdds", inPlace := ["math/bits.Add64", "math/bits.Sub64"], unfollowed := true, recurses := true, apart := false, narrowed := true }
def MultAddsUptoSaid : Prop := multAddsUptoRow.holds Try.pinned (OpenSpec.upto multAddsSpec)

/-- 'basculekeep.LiftBack', WHERE WHAT IT READS IS OF BULK AT MOST 1048576: true; the input reads as it did. -/
def liftBackUptoRow : OpenClaim := { program := "ytdicmddedcfhaaa", sum := "f6024ccff7824e64c61a373e225ce9960c1782498859723204550fdc01f07e77", func := "bascule/basculekeep.LiftBack", spec := "liftBack", inPlace := ["math/bits.Add64", "math/bits.Sub64"], unfollowed := true, recurses := true, apart := false, narrowed := true }
def LiftBackUptoSaid : Prop := liftBackUptoRow.holds Try.pinned (OpenSpec.upto liftBackSpec)

end Rows
end Go.Proofs.Ytdicmddedcfhaaa
