/-
  No cell of these rows narrows 'for every input' (looked for: loops, veiled, ifaces, maps, wideKeys, modest, calm, conditions, laid).
  DERIVED. THE GIVEN ROWS OF THIS SEAT. 12 by the template 'for every input the law returns true; each argument reads behind the call as it read before'; 0 by the template 'total and deterministic' (their statements: YtbbihbcfeihhiaaTotals.lean).
  GIVEN WITH THE SEED: the statements are not yours to turn. If you find one false, say at which input.
  Laid BY PROGRAM, IN A SANDBOX (cutbox-rows.mjs): the forced cells as the released guide's own fill.sh prints them over the translation e98ee6ac3ab32405… (all of the seat's roots in one cut). By AI agents, Wed Nov 11 2026. No macro, syntax, notation, axiom, sorry.
-/
import Derived.Test.YtbbihbcfeihhiaaChecked
import GoSem.Claim
import GoSem.ClaimJoined
import GoSem.ClaimMapViews
import Derived.JoinedTies
import Derived.KernelRfl
namespace Go.Proofs.Ytbbihbcfeihhiaa
/- THE CELL 'sum', in the pinned program and in every row, IS THE sha256 OF THE DUMP (.gsa) THAT YtbbihbcfeihhiaaProg.lean LOADS. Nothing in Lean hashes anything: it is a label: what it is worth is what the hold of that sum in a sandbox is worth. -/
noncomputable def Try.pinned : Pinned := { name := "ytbbihbcfeihhiaa", sum := "e98ee6ac3ab3240569be9760da5b08063b339ed30c497b8b87e6bffce9d9b752", checked := Try.checked }
namespace Rows
def none {H : Type} : Left H := { results := [], args := [] }

/-- 'basculekeep.ScaleBack': WHATEVER THE INPUT: true; the input reads as it did. -/
def scaleBackSpec : ChangeSpec := { name := "scaleBack", fn := fun _ => fun
  | [d1, d2] => { results := [.lit (.bool true)], args := [d1, d2] }
  | _ => none }
def scaleBackRow : OpenClaim := { program := "ytbbihbcfeihhiaa", sum := "e98ee6ac3ab3240569be9760da5b08063b339ed30c497b8b87e6bffce9d9b752", func := "bascule/basculekeep.ScaleBack", spec := "scaleBack", inPlace := ["math/bits.Add64", "math/bits.Sub64"], apart := false }
def ScaleBackSaid : Prop := scaleBackRow.holds Try.pinned (OpenSpec.ofChange scaleBackSpec)

/-- ITS FALSE NEIGHBOUR: 'it returns false'. Refute it at one input. -/
def scaleBackWrong : ChangeSpec := { name := "scaleBack", fn := fun _ => fun
  | [d1, d2] => { results := [.lit (.bool false)], args := [d1, d2] }
  | _ => none }
def ScaleBackWrongFalsely : Prop := scaleBackRow.holds Try.pinned (OpenSpec.ofChange scaleBackWrong)

/-- 'basculekeep.ScaleAdds': WHATEVER THE INPUT: true; the input reads as it did. -/
def scaleAddsSpec : ChangeSpec := { name := "scaleAdds", fn := fun _ => fun
  | [d1, d2, d3] => { results := [.lit (.bool true)], args := [d1, d2, d3] }
  | _ => none }
def scaleAddsRow : OpenClaim := { program := "ytbbihbcfeihhiaa", sum := "e98ee6ac3ab3240569be9760da5b08063b339ed30c497b8b87e6bffce9d9b752", func := "bascule/basculekeep.ScaleAdds", spec := "scaleAdds", inPlace := ["math/bits.Add64", "math/bits.Sub64"], apart := false }
def ScaleAddsSaid : Prop := scaleAddsRow.holds Try.pinned (OpenSpec.ofChange scaleAddsSpec)

/-- ITS FALSE NEIGHBOUR: 'it returns false'. Refute it at one input. -/
def scaleAddsWrong : ChangeSpec := { name := "scaleAdds", fn := fun _ => fun
  | [d1, d2, d3] => { results := [.lit (.bool false)], args := [d1, d2, d3] }
  | _ => none }
def ScaleAddsWrongFalsely : Prop := scaleAddsRow.holds Try.pinned (OpenSpec.ofChange scaleAddsWrong)

/-- 'basculekeep.FieldTurns': WHATEVER THE INPUT: true; the input reads as it did. -/
def fieldTurnsSpec : ChangeSpec := { name := "fieldTurns", fn := fun _ => fun
  | [d1, d2, d3] => { results := [.lit (.bool true)], args := [d1, d2, d3] }
  | _ => none }
def fieldTurnsRow : OpenClaim := { program := "ytbbihbcfeihhiaa", sum := "e98ee6ac3ab3240569be9760da5b08063b339ed30c497b8b87e6bffce9d9b752", func := "bascule/basculekeep.FieldTurns", spec := "fieldTurns", inPlace := ["math/bits.Add64", "math/bits.Sub64"], unfollowed := true, recurses := true, apart := false }
def FieldTurnsSaid : Prop := fieldTurnsRow.holds Try.pinned (OpenSpec.ofChange fieldTurnsSpec)

/-- ITS FALSE NEIGHBOUR: 'it returns false'. Refute it at one input. -/
def fieldTurnsWrong : ChangeSpec := { name := "fieldTurns", fn := fun _ => fun
  | [d1, d2, d3] => { results := [.lit (.bool false)], args := [d1, d2, d3] }
  | _ => none }
def FieldTurnsWrongFalsely : Prop := fieldTurnsRow.holds Try.pinned (OpenSpec.ofChange fieldTurnsWrong)

/-- 'basculekeep.FieldGroups': WHATEVER THE INPUT: true; the input reads as it did. -/
def fieldGroupsSpec : ChangeSpec := { name := "fieldGroups", fn := fun _ => fun
  | [d1, d2, d3, d4] => { results := [.lit (.bool true)], args := [d1, d2, d3, d4] }
  | _ => none }
def fieldGroupsRow : OpenClaim := { program := "ytbbihbcfeihhiaa", sum := "e98ee6ac3ab3240569be9760da5b08063b339ed30c497b8b87e6bffce9d9b752", func := "bascule/basculekeep.FieldGroups", spec := "fieldGroups", inPlace := ["math/bits.Add64", "math/bits.Sub64"], unfollowed := true, recurses := true, apart := false }
def FieldGroupsSaid : Prop := fieldGroupsRow.holds Try.pinned (OpenSpec.ofChange fieldGroupsSpec)

/-- ITS FALSE NEIGHBOUR: 'it returns false'. Refute it at one input. -/
def fieldGroupsWrong : ChangeSpec := { name := "fieldGroups", fn := fun _ => fun
  | [d1, d2, d3, d4] => { results := [.lit (.bool false)], args := [d1, d2, d3, d4] }
  | _ => none }
def FieldGroupsWrongFalsely : Prop := fieldGroupsRow.holds Try.pinned (OpenSpec.ofChange fieldGroupsWrong)

/-- 'basculekeep.FieldSpreads': WHATEVER THE INPUT: true; the input reads as it did. -/
def fieldSpreadsSpec : ChangeSpec := { name := "fieldSpreads", fn := fun _ => fun
  | [d1, d2, d3, d4] => { results := [.lit (.bool true)], args := [d1, d2, d3, d4] }
  | _ => none }
def fieldSpreadsRow : OpenClaim := { program := "ytbbihbcfeihhiaa", sum := "e98ee6ac3ab3240569be9760da5b08063b339ed30c497b8b87e6bffce9d9b752", func := "bascule/basculekeep.FieldSpreads", spec := "fieldSpreads", inPlace := ["math/bits.Add64", "math/bits.Sub64"], unfollowed := true, recurses := true, apart := false }
def FieldSpreadsSaid : Prop := fieldSpreadsRow.holds Try.pinned (OpenSpec.ofChange fieldSpreadsSpec)

/-- ITS FALSE NEIGHBOUR: 'it returns false'. Refute it at one input. -/
def fieldSpreadsWrong : ChangeSpec := { name := "fieldSpreads", fn := fun _ => fun
  | [d1, d2, d3, d4] => { results := [.lit (.bool false)], args := [d1, d2, d3, d4] }
  | _ => none }
def FieldSpreadsWrongFalsely : Prop := fieldSpreadsRow.holds Try.pinned (OpenSpec.ofChange fieldSpreadsWrong)

/-- 'basculekeep.PowerAdds': WHATEVER THE INPUT: true; the input reads as it did. -/
def powerAddsSpec : ChangeSpec := { name := "powerAdds", fn := fun _ => fun
  | [d1, d2, d3, d4, d5] => { results := [.lit (.bool true)], args := [d1, d2, d3, d4, d5] }
  | _ => none }
def powerAddsRow : OpenClaim := { program := "ytbbihbcfeihhiaa", sum := "e98ee6ac3ab3240569be9760da5b08063b339ed30c497b8b87e6bffce9d9b752", func := "bascule/basculekeep.PowerAdds", spec := "powerAdds", inPlace := ["math/bits.Add64", "math/bits.Sub64"], unfollowed := true, recurses := true, apart := false }
def PowerAddsSaid : Prop := powerAddsRow.holds Try.pinned (OpenSpec.ofChange powerAddsSpec)

/-- ITS FALSE NEIGHBOUR: 'it returns false'. Refute it at one input. -/
def powerAddsWrong : ChangeSpec := { name := "powerAdds", fn := fun _ => fun
  | [d1, d2, d3, d4, d5] => { results := [.lit (.bool false)], args := [d1, d2, d3, d4, d5] }
  | _ => none }
def PowerAddsWrongFalsely : Prop := powerAddsRow.holds Try.pinned (OpenSpec.ofChange powerAddsWrong)

/-- 'basculekeep.InverseBack': WHATEVER THE INPUT: true; the input reads as it did. -/
def inverseBackSpec : ChangeSpec := { name := "inverseBack", fn := fun _ => fun
  | [d1, d2] => { results := [.lit (.bool true)], args := [d1, d2] }
  | _ => none }
def inverseBackRow : OpenClaim := { program := "ytbbihbcfeihhiaa", sum := "e98ee6ac3ab3240569be9760da5b08063b339ed30c497b8b87e6bffce9d9b752", func := "bascule/basculekeep.InverseBack", spec := "inverseBack", inPlace := ["math/bits.Add64", "math/bits.Sub64"], unfollowed := true, recurses := true, apart := false }
def InverseBackSaid : Prop := inverseBackRow.holds Try.pinned (OpenSpec.ofChange inverseBackSpec)

/-- ITS FALSE NEIGHBOUR: 'it returns false'. Refute it at one input. -/
def inverseBackWrong : ChangeSpec := { name := "inverseBack", fn := fun _ => fun
  | [d1, d2] => { results := [.lit (.bool false)], args := [d1, d2] }
  | _ => none }
def InverseBackWrongFalsely : Prop := inverseBackRow.holds Try.pinned (OpenSpec.ofChange inverseBackWrong)

/-- 'basculekeep.InverseNone': WHATEVER THE INPUT: true; the input reads as it did. -/
def inverseNoneSpec : ChangeSpec := { name := "inverseNone", fn := fun _ => fun
  | [d1, d2, d3] => { results := [.lit (.bool true)], args := [d1, d2, d3] }
  | _ => none }
def inverseNoneRow : OpenClaim := { program := "ytbbihbcfeihhiaa", sum := "e98ee6ac3ab3240569be9760da5b08063b339ed30c497b8b87e6bffce9d9b752", func := "bascule/basculekeep.InverseNone", spec := "inverseNone", inPlace := ["math/bits.Add64", "math/bits.Sub64"], unfollowed := true, recurses := true, apart := false }
def InverseNoneSaid : Prop := inverseNoneRow.holds Try.pinned (OpenSpec.ofChange inverseNoneSpec)

/-- ITS FALSE NEIGHBOUR: 'it returns false'. Refute it at one input. -/
def inverseNoneWrong : ChangeSpec := { name := "inverseNone", fn := fun _ => fun
  | [d1, d2, d3] => { results := [.lit (.bool false)], args := [d1, d2, d3] }
  | _ => none }
def InverseNoneWrongFalsely : Prop := inverseNoneRow.holds Try.pinned (OpenSpec.ofChange inverseNoneWrong)

/-- 'basculekeep.PowerPrime': WHATEVER THE INPUT: true; the input reads as it did. -/
def powerPrimeSpec : ChangeSpec := { name := "powerPrime", fn := fun _ => fun
  | [d1, d2] => { results := [.lit (.bool true)], args := [d1, d2] }
  | _ => none }
def powerPrimeRow : OpenClaim := { program := "ytbbihbcfeihhiaa", sum := "e98ee6ac3ab3240569be9760da5b08063b339ed30c497b8b87e6bffce9d9b752", func := "bascule/basculekeep.PowerPrime", spec := "powerPrime", inPlace := ["math/bits.Add64", "math/bits.Sub64"], unfollowed := true, recurses := true, apart := false }
def PowerPrimeSaid : Prop := powerPrimeRow.holds Try.pinned (OpenSpec.ofChange powerPrimeSpec)

/-- ITS FALSE NEIGHBOUR: 'it returns false'. Refute it at one input. -/
def powerPrimeWrong : ChangeSpec := { name := "powerPrime", fn := fun _ => fun
  | [d1, d2] => { results := [.lit (.bool false)], args := [d1, d2] }
  | _ => none }
def PowerPrimeWrongFalsely : Prop := powerPrimeRow.holds Try.pinned (OpenSpec.ofChange powerPrimeWrong)

/-- 'basculekeep.CoinSum': WHATEVER THE INPUT: true; the input reads as it did. -/
def coinSumSpec : ChangeSpec := { name := "coinSum", fn := fun _ => fun
  | [d] => { results := [.lit (.bool true)], args := [d] }
  | _ => none }
def coinSumRow : OpenClaim := { program := "ytbbihbcfeihhiaa", sum := "e98ee6ac3ab3240569be9760da5b08063b339ed30c497b8b87e6bffce9d9b752", func := "bascule/basculekeep.CoinSum", spec := "coinSum", inPlace := ["internal/bytealg.Compare", "math/bits.Add64", "math/bits.Sub64"], apart := false }
def CoinSumSaid : Prop := coinSumRow.holds Try.pinned (OpenSpec.ofChange coinSumSpec)

/-- ITS FALSE NEIGHBOUR: 'it returns false'. Refute it at one input. -/
def coinSumWrong : ChangeSpec := { name := "coinSum", fn := fun _ => fun
  | [d] => { results := [.lit (.bool false)], args := [d] }
  | _ => none }
def CoinSumWrongFalsely : Prop := coinSumRow.holds Try.pinned (OpenSpec.ofChange coinSumWrong)

/-- 'basculekeep.CoinBack': WHATEVER THE INPUT: true; the input reads as it did. -/
def coinBackSpec : ChangeSpec := { name := "coinBack", fn := fun _ => fun
  | [d1, d2, d3] => { results := [.lit (.bool true)], args := [d1, d2, d3] }
  | _ => none }
def coinBackRow : OpenClaim := { program := "ytbbihbcfeihhiaa", sum := "e98ee6ac3ab3240569be9760da5b08063b339ed30c497b8b87e6bffce9d9b752", func := "bascule/basculekeep.CoinBack", spec := "coinBack", inPlace := ["internal/bytealg.Compare", "math/bits.Add64", "math/bits.Sub64"], apart := false }
def CoinBackSaid : Prop := coinBackRow.holds Try.pinned (OpenSpec.ofChange coinBackSpec)

/-- ITS FALSE NEIGHBOUR: 'it returns false'. Refute it at one input. -/
def coinBackWrong : ChangeSpec := { name := "coinBack", fn := fun _ => fun
  | [d1, d2, d3] => { results := [.lit (.bool false)], args := [d1, d2, d3] }
  | _ => none }
def CoinBackWrongFalsely : Prop := coinBackRow.holds Try.pinned (OpenSpec.ofChange coinBackWrong)

/-- 'basculekeep.CoinGives': WHATEVER THE INPUT: true; the input reads as it did. -/
def coinGivesSpec : ChangeSpec := { name := "coinGives", fn := fun _ => fun
  | [d1, d2, d3, d4, d5] => { results := [.lit (.bool true)], args := [d1, d2, d3, d4, d5] }
  | _ => none }
def coinGivesRow : OpenClaim := { program := "ytbbihbcfeihhiaa", sum := "e98ee6ac3ab3240569be9760da5b08063b339ed30c497b8b87e6bffce9d9b752", func := "bascule/basculekeep.CoinGives", spec := "coinGives", inPlace := ["internal/bytealg.Compare", "math/bits.Add64", "math/bits.Sub64"], apart := false }
def CoinGivesSaid : Prop := coinGivesRow.holds Try.pinned (OpenSpec.ofChange coinGivesSpec)

/-- ITS FALSE NEIGHBOUR: 'it returns false'. Refute it at one input. -/
def coinGivesWrong : ChangeSpec := { name := "coinGives", fn := fun _ => fun
  | [d1, d2, d3, d4, d5] => { results := [.lit (.bool false)], args := [d1, d2, d3, d4, d5] }
  | _ => none }
def CoinGivesWrongFalsely : Prop := coinGivesRow.holds Try.pinned (OpenSpec.ofChange coinGivesWrong)

/- THE SECOND FORM. 'bulk': how many values and letters a reading holds, each counted each time it is reached (what is shared counts as often as it is met; a slice's spare places count too). A statement '..UptoSaid' is the law's where the arguments, and the package variables that the reading takes, are together of bulk at most 1048576: NARROWER than '..Said'. Prove '..Said' where nothing that the law and all that it calls make is longer than what came in: it says more and counts as full. Else prove '..UptoSaid'. A law counts once. -/
mutual
def uptoBulk {H : Type} : DataW H → Nat
  | .lit (.string bytes) => bytes.length + 1
  | .lit _ => 1
  | .nil => 1
  | .ptr d => uptoBulk d + 1
  | .slice elems spare => uptoBulkAll elems + uptoBulkAll spare + 1
  | .agg parts => uptoBulkAll parts + 1
  | .iface _ d => uptoBulk d + 1
  | .map entries => uptoBulkEntries entries + 1
  | .held _ => 1
def uptoBulkAll {H : Type} : List (DataW H) → Nat
  | [] => 0
  | d :: r => uptoBulk d + uptoBulkAll r
def uptoBulkEntries {H : Type} : List (Lit × DataW H) → Nat
  | [] => 0
  | x :: r => uptoBulkEntry x + uptoBulkEntries r
def uptoBulkEntry {H : Type} : Lit × DataW H → Nat
  | (.string bytes, d) => bytes.length + uptoBulk d + 1
  | (_, d) => uptoBulk d + 1
 end
def uptoSmall : (H : Type) → List (DataW H) → Bool := fun _ ds => decide (uptoBulkAll ds ≤ 1048576)
def OpenSpec.upto (s : _root_.Go.ChangeSpec) : _root_.Go.OpenSpec := { _root_.Go.OpenSpec.ofChange s with cond := some uptoSmall }

/-- 'basculekeep.ScaleBack', WHERE WHAT IT READS IS OF BULK AT MOST 1048576: true; the input reads as it did. -/
def scaleBackUptoRow : OpenClaim := { program := "ytbbihbcfeihhiaa", sum := "e98ee6ac3ab3240569be9760da5b08063b339ed30c497b8b87e6bffce9d9b752", func := "bascule/basculekeep.ScaleBack", spec := "scaleBack", inPlace := ["math/bits.Add64", "math/bits.Sub64"], apart := false, narrowed := true }
def ScaleBackUptoSaid : Prop := scaleBackUptoRow.holds Try.pinned (OpenSpec.upto scaleBackSpec)

/-- 'basculekeep.ScaleAdds', WHERE WHAT IT READS IS OF BULK AT MOST 1048576: true; the input reads as it did. -/
def scaleAddsUptoRow : OpenClaim := { program := "ytbbihbcfeihhiaa", sum := "e98ee6ac3ab3240569be9760da5b08063b339ed30c497b8b87e6bffce9d9b752", func := "bascule/basculekeep.ScaleAdds", spec := "scaleAdds", inPlace := ["math/bits.Add64", "math/bits.Sub64"], apart := false, narrowed := true }
def ScaleAddsUptoSaid : Prop := scaleAddsUptoRow.holds Try.pinned (OpenSpec.upto scaleAddsSpec)

/-- 'basculekeep.FieldTurns', WHERE WHAT IT READS IS OF BULK AT MOST 1048576: true; the input reads as it did. -/
def fieldTurnsUptoRow : OpenClaim := { program := "ytbbihbcfeihhiaa", sum := "e98ee6ac3ab3240569be9760da5b08063b339ed30c497b8b87e6bffce9d9b752", func := "bascule/basculekeep.FieldTurns", spec := "fieldTurns", inPlace := ["math/bits.Add64", "math/bits.Sub64"], unfollowed := true, recurses := true, apart := false, narrowed := true }
def FieldTurnsUptoSaid : Prop := fieldTurnsUptoRow.holds Try.pinned (OpenSpec.upto fieldTurnsSpec)

/-- 'basculekeep.FieldGroups', WHERE WHAT IT READS IS OF BULK AT MOST 1048576: true; the input reads as it did. -/
def fieldGroupsUptoRow : OpenClaim := { program := "ytbbihbcfeihhiaa", sum := "e98ee6ac3ab3240569be9760da5b08063b339ed30c497b8b87e6bffce9d9b752", func := "bascule/basculekeep.FieldGroups", spec := "fieldGroups", inPlace := ["math/bits.Add64", "math/bits.Sub64"], unfollowed := true, recurses := true, apart := false, narrowed := true }
def FieldGroupsUptoSaid : Prop := fieldGroupsUptoRow.holds Try.pinned (OpenSpec.upto fieldGroupsSpec)

/-- 'basculekeep.FieldSpreads', WHERE WHAT IT READS IS OF BULK AT MOST 1048576: true; the input reads as it did. -/
def fieldSpreadsUptoRow : OpenClaim := { program := "ytbbihbcfeihhiaa", sum := "e98ee6ac3ab3240569be9760da5b08063b339ed30c497b8b87e6bffce9d9b752", func := "bascule/basculekeep.FieldSpreads", spec := "fieldSpreads", inPlace := ["math/bits.Add64", "math/bits.Sub64"], unfollowed := true, recurses := true, apart := false, narrowed := true }
def FieldSpreadsUptoSaid : Prop := fieldSpreadsUptoRow.holds Try.pinned (OpenSpec.upto fieldSpreadsSpec)

/-- 'basculekeep.PowerAdds', WHERE WHAT IT READS IS OF BULK AT MOST 1048576: true; the input reads as it did. -/
def powerAddsUptoRow : OpenClaim := { program := "ytbbihbcfeihhiaa", sum := "e98ee6ac3ab3240569be9760da5b08063b339ed30c497b8b87e6bffce9d9b752", func := "bascule/basculekeep.PowerAdds", spec := "powerAdds", inPlace := ["math/bits.Add64", "math/bits.Sub64"], unfollowed := true, recurses := true, apart := false, narrowed := true }
def PowerAddsUptoSaid : Prop := powerAddsUptoRow.holds Try.pinned (OpenSpec.upto powerAddsSpec)

/-- 'basculekeep.InverseBack', WHERE WHAT IT READS IS OF BULK AT MOST 1048576: true; the input reads as it did. -/
def inverseBackUptoRow : OpenClaim := { program := "ytbbihbcfeihhiaa", sum := "e98ee6ac3ab3240569be9760da5b08063b339ed30c497b8b87e6bffce9d9b752", func := "bascule/basculekeep.InverseBack", spec := "inverseBack", inPlace := ["math/bits.Add64", "math/bits.Sub64"], unfollowed := true, recurses := true, apart := false, narrowed := true }
def InverseBackUptoSaid : Prop := inverseBackUptoRow.holds Try.pinned (OpenSpec.upto inverseBackSpec)

/-- 'basculekeep.InverseNone', WHERE WHAT IT READS IS OF BULK AT MOST 1048576: true; the input reads as it did. -/
def inverseNoneUptoRow : OpenClaim := { program := "ytbbihbcfeihhiaa", sum := "e98ee6ac3ab3240569be9760da5b08063b339ed30c497b8b87e6bffce9d9b752", func := "bascule/basculekeep.InverseNone", spec := "inverseNone", inPlace := ["math/bits.Add64", "math/bits.Sub64"], unfollowed := true, recurses := true, apart := false, narrowed := true }
def InverseNoneUptoSaid : Prop := inverseNoneUptoRow.holds Try.pinned (OpenSpec.upto inverseNoneSpec)

/-- 'basculekeep.PowerPrime', WHERE WHAT IT READS IS OF BULK AT MOST 1048576: true; the input reads as it did. -/
def powerPrimeUptoRow : OpenClaim := { program := "ytbbihbcfeihhiaa", sum := "e98ee6ac3ab3240569be9760da5b08063b339ed30c497b8b87e6bffce9d9b752", func := "bascule/basculekeep.PowerPrime", spec := "powerPrime", inPlace := ["math/bits.Add64", "math/bits.Sub64"], unfollowed := true, recurses := true, apart := false, narrowed := true }
def PowerPrimeUptoSaid : Prop := powerPrimeUptoRow.holds Try.pinned (OpenSpec.upto powerPrimeSpec)

/-- 'basculekeep.CoinSum', WHERE WHAT IT READS IS OF BULK AT MOST 1048576: true; the input reads as it did. -/
def coinSumUptoRow : OpenClaim := { program := "ytbbihbcfeihhiaa", sum := "e98ee6ac3ab3240569be9760da5b08063b339ed30c497b8b87e6bffce9d9b752", func := "bascule/basculekeep.CoinSum", spec := "coinSum", inPlace := ["internal/bytealg.Compare", "math/bits.Add64", "math/bits.Sub64"], apart := false, narrowed := true }
def CoinSumUptoSaid : Prop := coinSumUptoRow.holds Try.pinned (OpenSpec.upto coinSumSpec)

/-- 'basculekeep.CoinBack', WHERE WHAT IT READS IS OF BULK AT MOST 1048576: true; the input reads as it did. -/
def coinBackUptoRow : OpenClaim := { program := "ytbbihbcfeihhiaa", sum := "e98ee6ac3ab3240569be9760da5b08063b339ed30c497b8b87e6bffce9d9b752", func := "bascule/basculekeep.CoinBack", spec := "coinBack", inPlace := ["internal/bytealg.Compare", "math/bits.Add64", "math/bits.Sub64"], apart := false, narrowed := true }
def CoinBackUptoSaid : Prop := coinBackUptoRow.holds Try.pinned (OpenSpec.upto coinBackSpec)

/-- 'basculekeep.CoinGives', WHERE WHAT IT READS IS OF BULK AT MOST 1048576: true; the input reads as it did. -/
def coinGivesUptoRow : OpenClaim := { program := "ytbbihbcfeihhiaa", sum := "e98ee6ac3ab3240569be9760da5b08063b339ed30c497b8b87e6bffce9d9b752", func := "bascule/basculekeep.CoinGives", spec := "coinGives", inPlace := ["internal/bytealg.Compare", "math/bits.Add64", "math/bits.Sub64"], apart := false, narrowed := true }
def CoinGivesUptoSaid : Prop := coinGivesUptoRow.holds Try.pinned (OpenSpec.upto coinGivesSpec)

end Rows
end Go.Proofs.Ytbbihbcfeihhiaa
