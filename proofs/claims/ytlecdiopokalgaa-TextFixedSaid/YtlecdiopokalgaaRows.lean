/-
  No cell of these rows narrows 'for every input' (looked for: loops, veiled, ifaces, maps, wideKeys, modest, calm, conditions, laid).
  DERIVED. THE GIVEN ROWS OF THIS SEAT. 11 by the template 'for every input the law returns true; each argument reads behind the call as it read before'; 0 by the template 'total and deterministic' (their statements: YtlecdiopokalgaaTotals.lean).
  GIVEN WITH THE SEED: the statements are not yours to turn. If you find one false, say at which input.
  Laid BY PROGRAM, IN A SANDBOX (cutbox-rows.mjs): the forced cells as the released guide's own fill.sh prints them over the translation 67b270a57d729089… (all of the seat's roots in one cut). By AI agents, Wed Nov 11 2026. No macro, syntax, notation, axiom, sorry.
-/
import Derived.Test.YtlecdiopokalgaaChecked
import GoSem.Claim
import GoSem.ClaimJoined
import GoSem.ClaimMapViews
import Derived.JoinedTies
import Derived.KernelRfl
namespace Go.Proofs.Ytlecdiopokalgaa
/- THE CELL 'sum', in the pinned program and in every row, IS THE sha256 OF THE DUMP (.gsa) THAT YtlecdiopokalgaaProg.lean LOADS. Nothing in Lean hashes anything: it is a label: what it is worth is what the hold of that sum in a sandbox is worth. -/
noncomputable def Try.pinned : Pinned := { name := "ytlecdiopokalgaa", sum := "67b270a57d7290896792c2ded22d581d7936ec0f6fdae9c25e8ccfa345718332", checked := Try.checked }
namespace Rows
def none {H : Type} : Left H := { results := [], args := [] }

/-- 'basculekeep.PaperBack': WHATEVER THE INPUT: true; the input reads as it did. -/
def paperBackSpec : ChangeSpec := { name := "paperBack", fn := fun _ => fun
  | [d1, d2, d3, d4] => { results := [.lit (.bool true)], args := [d1, d2, d3, d4] }
  | _ => none }
def paperBackRow : OpenClaim := { program := "ytlecdiopokalgaa", sum := "67b270a57d7290896792c2ded22d581d7936ec0f6fdae9c25e8ccfa345718332", func := "bascule/basculekeep.PaperBack", spec := "paperBack", unfollowed := true, recurses := true, apart := false }
def PaperBackSaid : Prop := paperBackRow.holds Try.pinned (OpenSpec.ofChange paperBackSpec)

/-- ITS FALSE NEIGHBOUR: 'it returns false'. Refute it at one input. -/
def paperBackWrong : ChangeSpec := { name := "paperBack", fn := fun _ => fun
  | [d1, d2, d3, d4] => { results := [.lit (.bool false)], args := [d1, d2, d3, d4] }
  | _ => none }
def PaperBackWrongFalsely : Prop := paperBackRow.holds Try.pinned (OpenSpec.ofChange paperBackWrong)

/-- 'basculekeep.PaperFixed': WHATEVER THE INPUT: true; the input reads as it did. -/
def paperFixedSpec : ChangeSpec := { name := "paperFixed", fn := fun _ => fun
  | [d] => { results := [.lit (.bool true)], args := [d] }
  | _ => none }
def paperFixedRow : OpenClaim := { program := "ytlecdiopokalgaa", sum := "67b270a57d7290896792c2ded22d581d7936ec0f6fdae9c25e8ccfa345718332", func := "bascule/basculekeep.PaperFixed", spec := "paperFixed", unfollowed := true, recurses := true, apart := false }
def PaperFixedSaid : Prop := paperFixedRow.holds Try.pinned (OpenSpec.ofChange paperFixedSpec)

/-- ITS FALSE NEIGHBOUR: 'it returns false'. Refute it at one input. -/
def paperFixedWrong : ChangeSpec := { name := "paperFixed", fn := fun _ => fun
  | [d] => { results := [.lit (.bool false)], args := [d] }
  | _ => none }
def PaperFixedWrongFalsely : Prop := paperFixedRow.holds Try.pinned (OpenSpec.ofChange paperFixedWrong)

/-- 'basculekeep.SetsCount': WHATEVER THE INPUT: true; the input reads as it did. -/
def setsCountSpec : ChangeSpec := { name := "setsCount", fn := fun _ => fun
  | [d1, d2, d3] => { results := [.lit (.bool true)], args := [d1, d2, d3] }
  | _ => none }
def setsCountRow : OpenClaim := { program := "ytlecdiopokalgaa", sum := "67b270a57d7290896792c2ded22d581d7936ec0f6fdae9c25e8ccfa345718332", func := "bascule/basculekeep.SetsCount", spec := "setsCount", apart := false }
def SetsCountSaid : Prop := setsCountRow.holds Try.pinned (OpenSpec.ofChange setsCountSpec)

/-- ITS FALSE NEIGHBOUR: 'it returns false'. Refute it at one input. -/
def setsCountWrong : ChangeSpec := { name := "setsCount", fn := fun _ => fun
  | [d1, d2, d3] => { results := [.lit (.bool false)], args := [d1, d2, d3] }
  | _ => none }
def SetsCountWrongFalsely : Prop := setsCountRow.holds Try.pinned (OpenSpec.ofChange setsCountWrong)

/-- 'basculekeep.GrowLate': WHATEVER THE INPUT: true; the input reads as it did. -/
def growLateSpec : ChangeSpec := { name := "growLate", fn := fun _ => fun
  | [d1, d2] => { results := [.lit (.bool true)], args := [d1, d2] }
  | _ => none }
def growLateRow : OpenClaim := { program := "ytlecdiopokalgaa", sum := "67b270a57d7290896792c2ded22d581d7936ec0f6fdae9c25e8ccfa345718332", func := "bascule/basculekeep.GrowLate", spec := "growLate", apart := false }
def GrowLateSaid : Prop := growLateRow.holds Try.pinned (OpenSpec.ofChange growLateSpec)

/-- ITS FALSE NEIGHBOUR: 'it returns false'. Refute it at one input. -/
def growLateWrong : ChangeSpec := { name := "growLate", fn := fun _ => fun
  | [d1, d2] => { results := [.lit (.bool false)], args := [d1, d2] }
  | _ => none }
def GrowLateWrongFalsely : Prop := growLateRow.holds Try.pinned (OpenSpec.ofChange growLateWrong)

/-- 'basculekeep.FinalStays': WHATEVER THE INPUT: true; the input reads as it did. -/
def finalStaysSpec : ChangeSpec := { name := "finalStays", fn := fun _ => fun
  | [d1, d2] => { results := [.lit (.bool true)], args := [d1, d2] }
  | _ => none }
def finalStaysRow : OpenClaim := { program := "ytlecdiopokalgaa", sum := "67b270a57d7290896792c2ded22d581d7936ec0f6fdae9c25e8ccfa345718332", func := "bascule/basculekeep.FinalStays", spec := "finalStays", apart := false }
def FinalStaysSaid : Prop := finalStaysRow.holds Try.pinned (OpenSpec.ofChange finalStaysSpec)

/-- ITS FALSE NEIGHBOUR: 'it returns false'. Refute it at one input. -/
def finalStaysWrong : ChangeSpec := { name := "finalStays", fn := fun _ => fun
  | [d1, d2] => { results := [.lit (.bool false)], args := [d1, d2] }
  | _ => none }
def FinalStaysWrongFalsely : Prop := finalStaysRow.holds Try.pinned (OpenSpec.ofChange finalStaysWrong)

/-- 'basculekeep.LineHighest': WHATEVER THE INPUT: true; the input reads as it did. -/
def lineHighestSpec : ChangeSpec := { name := "lineHighest", fn := fun _ => fun
  | [d1, d2] => { results := [.lit (.bool true)], args := [d1, d2] }
  | _ => none }
def lineHighestRow : OpenClaim := { program := "ytlecdiopokalgaa", sum := "67b270a57d7290896792c2ded22d581d7936ec0f6fdae9c25e8ccfa345718332", func := "bascule/basculekeep.LineHighest", spec := "lineHighest", apart := false }
def LineHighestSaid : Prop := lineHighestRow.holds Try.pinned (OpenSpec.ofChange lineHighestSpec)

/-- ITS FALSE NEIGHBOUR: 'it returns false'. Refute it at one input. -/
def lineHighestWrong : ChangeSpec := { name := "lineHighest", fn := fun _ => fun
  | [d1, d2] => { results := [.lit (.bool false)], args := [d1, d2] }
  | _ => none }
def LineHighestWrongFalsely : Prop := lineHighestRow.holds Try.pinned (OpenSpec.ofChange lineHighestWrong)

/-- 'basculekeep.CoinSum': WHATEVER THE INPUT: true; the input reads as it did. -/
def coinSumSpec : ChangeSpec := { name := "coinSum", fn := fun _ => fun
  | [d] => { results := [.lit (.bool true)], args := [d] }
  | _ => none }
def coinSumRow : OpenClaim := { program := "ytlecdiopokalgaa", sum := "67b270a57d7290896792c2ded22d581d7936ec0f6fdae9c25e8ccfa345718332", func := "bascule/basculekeep.CoinSum", spec := "coinSum", inPlace := ["internal/bytealg.Compare", "math/bits.Add64", "math/bits.Sub64"], apart := false }
def CoinSumSaid : Prop := coinSumRow.holds Try.pinned (OpenSpec.ofChange coinSumSpec)

/-- ITS FALSE NEIGHBOUR: 'it returns false'. Refute it at one input. -/
def coinSumWrong : ChangeSpec := { name := "coinSum", fn := fun _ => fun
  | [d] => { results := [.lit (.bool false)], args := [d] }
  | _ => none }
def CoinSumWrongFalsely : Prop := coinSumRow.holds Try.pinned (OpenSpec.ofChange coinSumWrong)

/-- 'basculekeep.CoinBack': WHATEVER THE INPUT: true; the input reads as it did. -/
def coinBackSpec : ChangeSpec := { name := "coinBack", fn := fun _ => fun
  | [d1, d2, d3] => { results := [.lit (.bool true)], args := [d1, d2, d3] }
  | _ => none }
def coinBackRow : OpenClaim := { program := "ytlecdiopokalgaa", sum := "67b270a57d7290896792c2ded22d581d7936ec0f6fdae9c25e8ccfa345718332", func := "bascule/basculekeep.CoinBack", spec := "coinBack", inPlace := ["internal/bytealg.Compare", "math/bits.Add64", "math/bits.Sub64"], apart := false }
def CoinBackSaid : Prop := coinBackRow.holds Try.pinned (OpenSpec.ofChange coinBackSpec)

/-- ITS FALSE NEIGHBOUR: 'it returns false'. Refute it at one input. -/
def coinBackWrong : ChangeSpec := { name := "coinBack", fn := fun _ => fun
  | [d1, d2, d3] => { results := [.lit (.bool false)], args := [d1, d2, d3] }
  | _ => none }
def CoinBackWrongFalsely : Prop := coinBackRow.holds Try.pinned (OpenSpec.ofChange coinBackWrong)

/-- 'basculekeep.CoinGives': WHATEVER THE INPUT: true; the input reads as it did. -/
def coinGivesSpec : ChangeSpec := { name := "coinGives", fn := fun _ => fun
  | [d1, d2, d3, d4, d5] => { results := [.lit (.bool true)], args := [d1, d2, d3, d4, d5] }
  | _ => none }
def coinGivesRow : OpenClaim := { program := "ytlecdiopokalgaa", sum := "67b270a57d7290896792c2ded22d581d7936ec0f6fdae9c25e8ccfa345718332", func := "bascule/basculekeep.CoinGives", spec := "coinGives", inPlace := ["internal/bytealg.Compare", "math/bits.Add64", "math/bits.Sub64"], apart := false }
def CoinGivesSaid : Prop := coinGivesRow.holds Try.pinned (OpenSpec.ofChange coinGivesSpec)

/-- ITS FALSE NEIGHBOUR: 'it returns false'. Refute it at one input. -/
def coinGivesWrong : ChangeSpec := { name := "coinGives", fn := fun _ => fun
  | [d1, d2, d3, d4, d5] => { results := [.lit (.bool false)], args := [d1, d2, d3, d4, d5] }
  | _ => none }
def CoinGivesWrongFalsely : Prop := coinGivesRow.holds Try.pinned (OpenSpec.ofChange coinGivesWrong)

/-- 'basculekeep.TextBack': WHATEVER THE INPUT: true; the input reads as it did. -/
def textBackSpec : ChangeSpec := { name := "textBack", fn := fun _ => fun
  | [d] => { results := [.lit (.bool true)], args := [d] }
  | _ => none }
def textBackRow : OpenClaim := { program := "ytlecdiopokalgaa", sum := "67b270a57d7290896792c2ded22d581d7936ec0f6fdae9c25e8ccfa345718332", func := "bascule/basculekeep.TextBack", spec := "textBack", inPlace := ["math/bits.Add64"], named := ["math/bits.divideError", "math/bits.overflowError"], apart := false }
def TextBackSaid : Prop := textBackRow.holds Try.pinned (OpenSpec.ofChange textBackSpec)

/-- ITS FALSE NEIGHBOUR: 'it returns false'. Refute it at one input. -/
def textBackWrong : ChangeSpec := { name := "textBack", fn := fun _ => fun
  | [d] => { results := [.lit (.bool false)], args := [d] }
  | _ => none }
def TextBackWrongFalsely : Prop := textBackRow.holds Try.pinned (OpenSpec.ofChange textBackWrong)

/-- 'basculekeep.TextFixed': WHATEVER THE INPUT: true; the input reads as it did. -/
def textFixedSpec : ChangeSpec := { name := "textFixed", fn := fun _ => fun
  | [d] => { results := [.lit (.bool true)], args := [d] }
  | _ => none }
def textFixedRow : OpenClaim := { program := "ytlecdiopokalgaa", sum := "67b270a57d7290896792c2ded22d581d7936ec0f6fdae9c25e8ccfa345718332", func := "bascule/basculekeep.TextFixed", spec := "textFixed", inPlace := ["math/bits.Add64"], named := ["math/bits.divideError", "math/bits.overflowError"], apart := false }
def TextFixedSaid : Prop := textFixedRow.holds Try.pinned (OpenSpec.ofChange textFixedSpec)

/-- ITS FALSE NEIGHBOUR: 'it returns false'. Refute it at one input. -/
def textFixedWrong : ChangeSpec := { name := "textFixed", fn := fun _ => fun
  | [d] => { results := [.lit (.bool false)], args := [d] }
  | _ => none }
def TextFixedWrongFalsely : Prop := textFixedRow.holds Try.pinned (OpenSpec.ofChange textFixedWrong)

/- THE SECOND FORM. 'bulk': how many values and letters a reading holds, each counted each time it is reached (what is shared counts as often as it is met; a slice's spare places count too). A statement '..UptoSaid' is the law's where the arguments, and the package variables that the reading takes, are together of bulk at most 1048576: NARROWER than '..Said'. Prove '..Said' where nothing that the law and all that it calls make is longer than what came in: it says more and counts as full. Else prove '..UptoSaid'. A law counts once. -/
mutual
def uptoBulk {H : Type} : DataW H → Nat
  | .lit (.string bytes) => bytes.length + 1
  | .lit _ => 1
  | .nil => 1
  | .ptr d => uptoBulk d + 1
  | .slice elems spare => uptoBulkAll elems + uptoBulkAll spare + 1
  | .agg parts => uptoBulkAll parts + 1
  | .iface _ d => uptoBulk d + 1
  | .map entries => uptoBulkEntries entries + 1
  | .held _ => 1
def uptoBulkAll {H : Type} : List (DataW H) → Nat
  | [] => 0
  | d :: r => uptoBulk d + uptoBulkAll r
def uptoBulkEntries {H : Type} : List (Lit × DataW H) → Nat
  | [] => 0
  | x :: r => uptoBulkEntry x + uptoBulkEntries r
def uptoBulkEntry {H : Type} : Lit × DataW H → Nat
  | (.string bytes, d) => bytes.length + uptoBulk d + 1
  | (_, d) => uptoBulk d + 1
 end
def uptoSmall : (H : Type) → List (DataW H) → Bool := fun _ ds => decide (uptoBulkAll ds ≤ 1048576)
def OpenSpec.upto (s : _root_.Go.ChangeSpec) : _root_.Go.OpenSpec := { _root_.Go.OpenSpec.ofChange s with cond := some uptoSmall }

/-- 'basculekeep.PaperBack', WHERE WHAT IT READS IS OF BULK AT MOST 1048576: true; the input reads as it did. -/
def paperBackUptoRow : OpenClaim := { program := "ytlecdiopokalgaa", sum := "67b270a57d7290896792c2ded22d581d7936ec0f6fdae9c25e8ccfa345718332", func := "bascule/basculekeep.PaperBack", spec := "paperBack", unfollowed := true, recurses := true, apart := false, narrowed := true }
def PaperBackUptoSaid : Prop := paperBackUptoRow.holds Try.pinned (OpenSpec.upto paperBackSpec)

/-- 'basculekeep.PaperFixed', WHERE WHAT IT READS IS OF BULK AT MOST 1048576: true; the input reads as it did. -/
def paperFixedUptoRow : OpenClaim := { program := "ytlecdiopokalgaa", sum := "67b270a57d7290896792c2ded22d581d7936ec0f6fdae9c25e8ccfa345718332", func := "bascule/basculekeep.PaperFixed", spec := "paperFixed", unfollowed := true, recurses := true, apart := false, narrowed := true }
def PaperFixedUptoSaid : Prop := paperFixedUptoRow.holds Try.pinned (OpenSpec.upto paperFixedSpec)

/-- 'basculekeep.SetsCount', WHERE WHAT IT READS IS OF BULK AT MOST 1048576: true; the input reads as it did. -/
def setsCountUptoRow : OpenClaim := { program := "ytlecdiopokalgaa", sum := "67b270a57d7290896792c2ded22d581d7936ec0f6fdae9c25e8ccfa345718332", func := "bascule/basculekeep.SetsCount", spec := "setsCount", apart := false, narrowed := true }
def SetsCountUptoSaid : Prop := setsCountUptoRow.holds Try.pinned (OpenSpec.upto setsCountSpec)

/-- 'basculekeep.GrowLate', WHERE WHAT IT READS IS OF BULK AT MOST 1048576: true; the input reads as it did. -/
def growLateUptoRow : OpenClaim := { program := "ytlecdiopokalgaa", sum := "67b270a57d7290896792c2ded22d581d7936ec0f6fdae9c25e8ccfa345718332", func := "bascule/basculekeep.GrowLate", spec := "growLate", apart := false, narrowed := true }
def GrowLateUptoSaid : Prop := growLateUptoRow.holds Try.pinned (OpenSpec.upto growLateSpec)

/-- 'basculekeep.FinalStays', WHERE WHAT IT READS IS OF BULK AT MOST 1048576: true; the input reads as it did. -/
def finalStaysUptoRow : OpenClaim := { program := "ytlecdiopokalgaa", sum := "67b270a57d7290896792c2ded22d581d7936ec0f6fdae9c25e8ccfa345718332", func := "bascule/basculekeep.FinalStays", spec := "finalStays", apart := false, narrowed := true }
def FinalStaysUptoSaid : Prop := finalStaysUptoRow.holds Try.pinned (OpenSpec.upto finalStaysSpec)

/-- 'basculekeep.LineHighest', WHERE WHAT IT READS IS OF BULK AT MOST 1048576: true; the input reads as it did. -/
def lineHighestUptoRow : OpenClaim := { program := "ytlecdiopokalgaa", sum := "67b270a57d7290896792c2ded22d581d7936ec0f6fdae9c25e8ccfa345718332", func := "bascule/basculekeep.LineHighest", spec := "lineHighest", apart := false, narrowed := true }
def LineHighestUptoSaid : Prop := lineHighestUptoRow.holds Try.pinned (OpenSpec.upto lineHighestSpec)

/-- 'basculekeep.CoinSum', WHERE WHAT IT READS IS OF BULK AT MOST 1048576: true; the input reads as it did. -/
def coinSumUptoRow : OpenClaim := { program := "ytlecdiopokalgaa", sum := "67b270a57d7290896792c2ded22d581d7936ec0f6fdae9c25e8ccfa345718332", func := "bascule/basculekeep.CoinSum", spec := "coinSum", inPlace := ["internal/bytealg.Compare", "math/bits.Add64", "math/bits.Sub64"], apart := false, narrowed := true }
def CoinSumUptoSaid : Prop := coinSumUptoRow.holds Try.pinned (OpenSpec.upto coinSumSpec)

/-- 'basculekeep.CoinBack', WHERE WHAT IT READS IS OF BULK AT MOST 1048576: true; the input reads as it did. -/
def coinBackUptoRow : OpenClaim := { program := "ytlecdiopokalgaa", sum := "67b270a57d7290896792c2ded22d581d7936ec0f6fdae9c25e8ccfa345718332", func := "bascule/basculekeep.CoinBack", spec := "coinBack", inPlace := ["internal/bytealg.Compare", "math/bits.Add64", "math/bits.Sub64"], apart := false, narrowed := true }
def CoinBackUptoSaid : Prop := coinBackUptoRow.holds Try.pinned (OpenSpec.upto coinBackSpec)

/-- 'basculekeep.CoinGives', WHERE WHAT IT READS IS OF BULK AT MOST 1048576: true; the input reads as it did. -/
def coinGivesUptoRow : OpenClaim := { program := "ytlecdiopokalgaa", sum := "67b270a57d7290896792c2ded22d581d7936ec0f6fdae9c25e8ccfa345718332", func := "bascule/basculekeep.CoinGives", spec := "coinGives", inPlace := ["internal/bytealg.Compare", "math/bits.Add64", "math/bits.Sub64"], apart := false, narrowed := true }
def CoinGivesUptoSaid : Prop := coinGivesUptoRow.holds Try.pinned (OpenSpec.upto coinGivesSpec)

/-- 'basculekeep.TextBack', WHERE WHAT IT READS IS OF BULK AT MOST 1048576: true; the input reads as it did. -/
def textBackUptoRow : OpenClaim := { program := "ytlecdiopokalgaa", sum := "67b270a57d7290896792c2ded22d581d7936ec0f6fdae9c25e8ccfa345718332", func := "bascule/basculekeep.TextBack", spec := "textBack", inPlace := ["math/bits.Add64"], named := ["math/bits.divideError", "math/bits.overflowError"], apart := false, narrowed := true }
def TextBackUptoSaid : Prop := textBackUptoRow.holds Try.pinned (OpenSpec.upto textBackSpec)

/-- 'basculekeep.TextFixed', WHERE WHAT IT READS IS OF BULK AT MOST 1048576: true; the input reads as it did. -/
def textFixedUptoRow : OpenClaim := { program := "ytlecdiopokalgaa", sum := "67b270a57d7290896792c2ded22d581d7936ec0f6fdae9c25e8ccfa345718332", func := "bascule/basculekeep.TextFixed", spec := "textFixed", inPlace := ["math/bits.Add64"], named := ["math/bits.divideError", "math/bits.overflowError"], apart := false, narrowed := true }
def TextFixedUptoSaid : Prop := textFixedUptoRow.holds Try.pinned (OpenSpec.upto textFixedSpec)

end Rows
end Go.Proofs.Ytlecdiopokalgaa
