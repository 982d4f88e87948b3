/-
  DERIVED. GIVEN WITH THE SEED: THE CARDS: each row of YtidkdlaihmpjfaaDoorRows.lean that lists a variable, with what it lists TIED to the program's text (the seventh form; the later family's looks); each row that meets fmt, with fmt's text TOLD by the authors' own Lean function (tested against real Go, not proved from fmt's source: count such statements apart). THE CARD IS WHAT COUNTS. Prove the row's statement (the work); the ties are given (YtidkdlaihmpjfaaDoorTie.lean); close each card by the builder's one call (the guide's Derived/Test/ToyasCard.lean, 'card_holds'). Laid BY PROGRAM, IN A SANDBOX (cutbox-door.mjs). By AI agents, Wed Nov 11 2026. No macro, syntax, notation, axiom, sorry.
-/
import Derived.Test.YtidkdlaihmpjfaaDoorRows
import GoSem.ClaimSeven
namespace Go.Proofs.YtidkdlaihmpjfaaDoor
namespace Rows

/-- THE TIED CARD OF 'basculekeep.TurnApart'. -/
def turnApartCard : Claim7 := { stood := { row := turnApartRow, standIns := [], harness := (true, "e64ec0f4e98a33db61be5ba21c11f2ff6666d395f153ff37c51edebe3575b9d9"), looks := false }, kinds := [], alts := [], laidByText := true, laidKinds := [.data, .data], laidTests := true, laidLooks := .later }
def TurnApartCardSaid : Prop := Claim7.holds Tryd.pinned (.plain (OpenSpec.ofChange turnApartSpec)) turnApartCard

/-- THE TIED CARD OF 'basculekeep.KeccakParts'. -/
def keccakPartsCard : Claim7 := { stood := { row := keccakPartsRow, standIns := [], harness := (true, "e64ec0f4e98a33db61be5ba21c11f2ff6666d395f153ff37c51edebe3575b9d9"), looks := false }, kinds := [], alts := [], laidByText := true, laidKinds := [.data, .data], laidTests := true, laidLooks := .later }
def KeccakPartsCardSaid : Prop := Claim7.holds Tryd.pinned (.plain (OpenSpec.ofChange keccakPartsSpec)) keccakPartsCard

/-- THE TIED CARD OF 'basculekeep.KeccakKnown'. -/
def keccakKnownCard : Claim7 := { stood := { row := keccakKnownRow, standIns := [], harness := (true, "e64ec0f4e98a33db61be5ba21c11f2ff6666d395f153ff37c51edebe3575b9d9"), looks := false }, kinds := [], alts := [], laidByText := true, laidKinds := [.data, .data], laidTests := true, laidLooks := .later }
def KeccakKnownCardSaid : Prop := Claim7.holds Tryd.pinned (.plain (OpenSpec.ofChange keccakKnownSpec)) keccakKnownCard

/-- THE TIED CARD OF 'basculekeep.PaperSum'. -/
def paperSumCard : Claim7 := { stood := { row := paperSumRow, standIns := [], harness := (true, "e64ec0f4e98a33db61be5ba21c11f2ff6666d395f153ff37c51edebe3575b9d9"), looks := false }, kinds := [], alts := [], laidByText := true, laidKinds := [.data, .data], laidTests := true, laidLooks := .later }
def PaperSumCardSaid : Prop := Claim7.holds Tryd.pinned (.plain (OpenSpec.ofChange paperSumSpec)) paperSumCard

/-- THE TIED CARD OF 'basculekeep.KeysKnown'. -/
def keysKnownCard : Claim7 := { stood := { row := keysKnownRow, standIns := [], harness := (true, "e64ec0f4e98a33db61be5ba21c11f2ff6666d395f153ff37c51edebe3575b9d9"), looks := false }, kinds := [], alts := [], laidByText := true, laidKinds := [.data, .data], laidTests := true, laidLooks := .later }
def KeysKnownCardSaid : Prop := Claim7.holds Tryd.pinned (.plain (OpenSpec.ofChange keysKnownSpec)) keysKnownCard

/-- THE TIED CARD OF 'basculekeep.SignOther'. -/
def signOtherCard : Claim7 := { stood := { row := signOtherRow, standIns := [], harness := (true, "e64ec0f4e98a33db61be5ba21c11f2ff6666d395f153ff37c51edebe3575b9d9"), looks := false }, kinds := [], alts := [], laidByText := true, laidKinds := [.data, .data], laidTests := true, laidLooks := .later }
def SignOtherCardSaid : Prop := Claim7.holds Tryd.pinned (.plain (OpenSpec.ofChange signOtherSpec)) signOtherCard

/-- THE TIED CARD OF 'basculekeep.SignRight'. -/
def signRightCard : Claim7 := { stood := { row := signRightRow, standIns := [], harness := (true, "e64ec0f4e98a33db61be5ba21c11f2ff6666d395f153ff37c51edebe3575b9d9"), looks := false }, kinds := [], alts := [], laidByText := true, laidKinds := [.data, .data], laidTests := true, laidLooks := .later }
def SignRightCardSaid : Prop := Claim7.holds Tryd.pinned (.plain (OpenSpec.ofChange signRightSpec)) signRightCard

/-- THE TIED CARD OF 'basculekeep.SignOne'. -/
def signOneCard : Claim7 := { stood := { row := signOneRow, standIns := [], harness := (true, "e64ec0f4e98a33db61be5ba21c11f2ff6666d395f153ff37c51edebe3575b9d9"), looks := false }, kinds := [], alts := [], laidByText := true, laidKinds := [.data, .data], laidTests := true, laidLooks := .later }
def SignOneCardSaid : Prop := Claim7.holds Tryd.pinned (.plain (OpenSpec.ofChange signOneSpec)) signOneCard

/-- THE TIED CARD OF 'basculekeep.QuorumRight'. -/
def quorumRightCard : Claim7 := { stood := { row := quorumRightRow, standIns := [], harness := (true, "e64ec0f4e98a33db61be5ba21c11f2ff6666d395f153ff37c51edebe3575b9d9"), looks := false }, kinds := [], alts := [], laidByText := true, laidKinds := [.data, .data], laidTests := true, laidLooks := .later }
def QuorumRightCardSaid : Prop := Claim7.holds Tryd.pinned (.plain (OpenSpec.ofChange quorumRightSpec)) quorumRightCard

/-- THE TIED CARD OF 'basculekeep.QuorumOther'. -/
def quorumOtherCard : Claim7 := { stood := { row := quorumOtherRow, standIns := [], harness := (true, "e64ec0f4e98a33db61be5ba21c11f2ff6666d395f153ff37c51edebe3575b9d9"), looks := false }, kinds := [], alts := [], laidByText := true, laidKinds := [.data, .data], laidTests := true, laidLooks := .later }
def QuorumOtherCardSaid : Prop := Claim7.holds Tryd.pinned (.plain (OpenSpec.ofChange quorumOtherSpec)) quorumOtherCard

/-- THE SECOND FORM's CARD OF 'basculekeep.TurnApart'. -/
def turnApartUptoCard : Claim7 := { stood := { row := turnApartUptoRow, standIns := [], harness := (true, "e64ec0f4e98a33db61be5ba21c11f2ff6666d395f153ff37c51edebe3575b9d9"), looks := false }, kinds := [], alts := [], laidByText := true, laidKinds := [.data, .data], laidTests := true, laidLooks := .later }
def TurnApartUptoCardSaid : Prop := Claim7.holds Tryd.pinned (.plain (OpenSpec.upto turnApartSpec)) turnApartUptoCard

/-- THE SECOND FORM's CARD OF 'basculekeep.KeccakParts'. -/
def keccakPartsUptoCard : Claim7 := { stood := { row := keccakPartsUptoRow, standIns := [], harness := (true, "e64ec0f4e98a33db61be5ba21c11f2ff6666d395f153ff37c51edebe3575b9d9"), looks := false }, kinds := [], alts := [], laidByText := true, laidKinds := [.data, .data], laidTests := true, laidLooks := .later }
def KeccakPartsUptoCardSaid : Prop := Claim7.holds Tryd.pinned (.plain (OpenSpec.upto keccakPartsSpec)) keccakPartsUptoCard

/-- THE SECOND FORM's CARD OF 'basculekeep.KeccakKnown'. -/
def keccakKnownUptoCard : Claim7 := { stood := { row := keccakKnownUptoRow, standIns := [], harness := (true, "e64ec0f4e98a33db61be5ba21c11f2ff6666d395f153ff37c51edebe3575b9d9"), looks := false }, kinds := [], alts := [], laidByText := true, laidKinds := [.data, .data], laidTests := true, laidLooks := .later }
def KeccakKnownUptoCardSaid : Prop := Claim7.holds Tryd.pinned (.plain (OpenSpec.upto keccakKnownSpec)) keccakKnownUptoCard

/-- THE SECOND FORM's CARD OF 'basculekeep.PaperSum'. -/
def paperSumUptoCard : Claim7 := { stood := { row := paperSumUptoRow, standIns := [], harness := (true, "e64ec0f4e98a33db61be5ba21c11f2ff6666d395f153ff37c51edebe3575b9d9"), looks := false }, kinds := [], alts := [], laidByText := true, laidKinds := [.data, .data], laidTests := true, laidLooks := .later }
def PaperSumUptoCardSaid : Prop := Claim7.holds Tryd.pinned (.plain (OpenSpec.upto paperSumSpec)) paperSumUptoCard

/-- THE SECOND FORM's CARD OF 'basculekeep.KeysKnown'. -/
def keysKnownUptoCard : Claim7 := { stood := { row := keysKnownUptoRow, standIns := [], harness := (true, "e64ec0f4e98a33db61be5ba21c11f2ff6666d395f153ff37c51edebe3575b9d9"), looks := false }, kinds := [], alts := [], laidByText := true, laidKinds := [.data, .data], laidTests := true, laidLooks := .later }
def KeysKnownUptoCardSaid : Prop := Claim7.holds Tryd.pinned (.plain (OpenSpec.upto keysKnownSpec)) keysKnownUptoCard

/-- THE SECOND FORM's CARD OF 'basculekeep.SignOther'. -/
def signOtherUptoCard : Claim7 := { stood := { row := signOtherUptoRow, standIns := [], harness := (true, "e64ec0f4e98a33db61be5ba21c11f2ff6666d395f153ff37c51edebe3575b9d9"), looks := false }, kinds := [], alts := [], laidByText := true, laidKinds := [.data, .data], laidTests := true, laidLooks := .later }
def SignOtherUptoCardSaid : Prop := Claim7.holds Tryd.pinned (.plain (OpenSpec.upto signOtherSpec)) signOtherUptoCard

/-- THE SECOND FORM's CARD OF 'basculekeep.SignRight'. -/
def signRightUptoCard : Claim7 := { stood := { row := signRightUptoRow, standIns := [], harness := (true, "e64ec0f4e98a33db61be5ba21c11f2ff6666d395f153ff37c51edebe3575b9d9"), looks := false }, kinds := [], alts := [], laidByText := true, laidKinds := [.data, .data], laidTests := true, laidLooks := .later }
def SignRightUptoCardSaid : Prop := Claim7.holds Tryd.pinned (.plain (OpenSpec.upto signRightSpec)) signRightUptoCard

/-- THE SECOND FORM's CARD OF 'basculekeep.SignOne'. -/
def signOneUptoCard : Claim7 := { stood := { row := signOneUptoRow, standIns := [], harness := (true, "e64ec0f4e98a33db61be5ba21c11f2ff6666d395f153ff37c51edebe3575b9d9"), looks := false }, kinds := [], alts := [], laidByText := true, laidKinds := [.data, .data], laidTests := true, laidLooks := .later }
def SignOneUptoCardSaid : Prop := Claim7.holds Tryd.pinned (.plain (OpenSpec.upto signOneSpec)) signOneUptoCard

/-- THE SECOND FORM's CARD OF 'basculekeep.QuorumRight'. -/
def quorumRightUptoCard : Claim7 := { stood := { row := quorumRightUptoRow, standIns := [], harness := (true, "e64ec0f4e98a33db61be5ba21c11f2ff6666d395f153ff37c51edebe3575b9d9"), looks := false }, kinds := [], alts := [], laidByText := true, laidKinds := [.data, .data], laidTests := true, laidLooks := .later }
def QuorumRightUptoCardSaid : Prop := Claim7.holds Tryd.pinned (.plain (OpenSpec.upto quorumRightSpec)) quorumRightUptoCard

/-- THE SECOND FORM's CARD OF 'basculekeep.QuorumOther'. -/
def quorumOtherUptoCard : Claim7 := { stood := { row := quorumOtherUptoRow, standIns := [], harness := (true, "e64ec0f4e98a33db61be5ba21c11f2ff6666d395f153ff37c51edebe3575b9d9"), looks := false }, kinds := [], alts := [], laidByText := true, laidKinds := [.data, .data], laidTests := true, laidLooks := .later }
def QuorumOtherUptoCardSaid : Prop := Claim7.holds Tryd.pinned (.plain (OpenSpec.upto quorumOtherSpec)) quorumOtherUptoCard
end Rows
end Go.Proofs.YtidkdlaihmpjfaaDoor
