/-
  DERIVED. GIVEN WITH THE SEED: THE CARDS: each row of YtnlncfjibbdimaaDoorRows.lean that lists a variable, with what it lists TIED to the program's text (the seventh form; the later family's looks); each row that meets fmt, with fmt's text TOLD by the authors' own Lean function (tested against real Go, not proved from fmt's source: count such statements apart). THE CARD IS WHAT COUNTS. Prove the row's statement (the work); the ties are given (YtnlncfjibbdimaaDoorTie.lean); close each card by the builder's one call (the guide's Derived/Test/ToyasCard.lean, 'card_holds'). Laid BY PROGRAM, IN A SANDBOX (cutbox-door.mjs). By AI agents, Wed Nov 11 2026. No macro, syntax, notation, axiom, sorry.
-/
import Derived.Test.YtnlncfjibbdimaaDoorRows
import GoSem.ClaimSeven
namespace Go.Proofs.YtnlncfjibbdimaaDoor
namespace Rows

/-- THE TIED CARD OF 'bollardlaw09.BallotNumbers'. -/
def ballotNumbersCard : Claim7 := { stood := { row := ballotNumbersRow, standIns := [], harness := (true, "a4a27f2a982bcfed5a7de90f8998f20b5afa7391e13f2d8864d099d57fc81cc2"), looks := true }, kinds := [], alts := [], laidByText := true, laidKinds := [.sentinel, .sentinel], laidTests := true, laidLooks := .later }
def BallotNumbersCardSaid : Prop := Claim7.holds Tryd.pinned (.plain (OpenSpec.ofChange ballotNumbersSpec)) ballotNumbersCard

/-- THE TIED CARD OF 'bollardlaw09.BallotAgrees'. -/
def ballotAgreesCard : Claim7 := { stood := { row := ballotAgreesRow, standIns := [], harness := (true, "a4a27f2a982bcfed5a7de90f8998f20b5afa7391e13f2d8864d099d57fc81cc2"), looks := true }, kinds := [], alts := [], laidByText := true, laidKinds := [.sentinel, .sentinel], laidTests := true, laidLooks := .later }
def BallotAgreesCardSaid : Prop := Claim7.holds Tryd.pinned (.plain (OpenSpec.ofChange ballotAgreesSpec)) ballotAgreesCard

/-- THE TIED CARD OF 'bollardlaw09.BallotPlays'. -/
def ballotPlaysCard : Claim7 := { stood := { row := ballotPlaysRow, standIns := [], harness := (true, "a4a27f2a982bcfed5a7de90f8998f20b5afa7391e13f2d8864d099d57fc81cc2"), looks := true }, kinds := [], alts := [], laidByText := true, laidKinds := [.sentinel, .sentinel, .sentinel, .sentinel, .sentinel, .sentinel, .sentinel, .sentinel, .sentinel, .sentinel, .sentinel, .sentinel, .sentinel, .sentinel, .sentinel, .sentinel, .sentinel, .sentinel], laidTests := true, laidLooks := .later }
def BallotPlaysCardSaid : Prop := Claim7.holds Tryd.pinned (.plain (OpenSpec.ofChange ballotPlaysSpec)) ballotPlaysCard

/-- THE TIED CARD OF 'bollardlaw09.BallotRises'. -/
def ballotRisesCard : Claim7 := { stood := { row := ballotRisesRow, standIns := [], harness := (true, "a4a27f2a982bcfed5a7de90f8998f20b5afa7391e13f2d8864d099d57fc81cc2"), looks := true }, kinds := [], alts := [], laidByText := true, laidKinds := [.sentinel, .sentinel, .sentinel], laidTests := true, laidLooks := .later }
def BallotRisesCardSaid : Prop := Claim7.holds Tryd.pinned (.plain (OpenSpec.ofChange ballotRisesSpec)) ballotRisesCard

/-- THE TIED CARD OF 'bollardlaw10.CommandNames'. -/
def commandNamesCard : Claim7 := { stood := { row := commandNamesRow, standIns := [], harness := (true, "a4a27f2a982bcfed5a7de90f8998f20b5afa7391e13f2d8864d099d57fc81cc2"), looks := true }, kinds := [], alts := [], laidByText := true, laidKinds := [.sentinel, .sentinel], laidTests := true, laidLooks := .later }
def CommandNamesCardSaid : Prop := Claim7.holds Tryd.pinned (.plain (OpenSpec.ofChange commandNamesSpec)) commandNamesCard

/-- THE TIED CARD OF 'bollardlaw10.CommandForms'. -/
def commandFormsCard : Claim7 := { stood := { row := commandFormsRow, standIns := [], harness := (true, "a4a27f2a982bcfed5a7de90f8998f20b5afa7391e13f2d8864d099d57fc81cc2"), looks := true }, kinds := [], alts := [], laidByText := true, laidKinds := [.sentinel, .sentinel, .sentinel], laidTests := true, laidLooks := .later }
def CommandFormsCardSaid : Prop := Claim7.holds Tryd.pinned (.plain (OpenSpec.ofChange commandFormsSpec)) commandFormsCard

/-- THE TIED CARD OF 'bollardlaw10.CommandGets'. -/
def commandGetsCard : Claim7 := { stood := { row := commandGetsRow, standIns := [], harness := (true, "a4a27f2a982bcfed5a7de90f8998f20b5afa7391e13f2d8864d099d57fc81cc2"), looks := true }, kinds := [], alts := [], laidByText := true, laidKinds := [.sentinel, .sentinel, .sentinel], laidTests := true, laidLooks := .later }
def CommandGetsCardSaid : Prop := Claim7.holds Tryd.pinned (.plain (OpenSpec.ofChange commandGetsSpec)) commandGetsCard

/-- THE TIED CARD OF 'bollardlaw13.RoundNewest'. -/
def roundNewestCard : Claim7 := { stood := { row := roundNewestRow, standIns := [], harness := (true, "a4a27f2a982bcfed5a7de90f8998f20b5afa7391e13f2d8864d099d57fc81cc2"), looks := true }, kinds := [], alts := [], laidByText := true, laidKinds := [.sentinel, .sentinel, .sentinel, .sentinel, .sentinel], laidTests := true, laidLooks := .later }
def RoundNewestCardSaid : Prop := Claim7.holds Tryd.pinned (.plain (OpenSpec.ofChange roundNewestSpec)) roundNewestCard

/-- THE TIED CARD OF 'bollardlaw13.RoundHalves'. -/
def roundHalvesCard : Claim7 := { stood := { row := roundHalvesRow, standIns := [], harness := (true, "a4a27f2a982bcfed5a7de90f8998f20b5afa7391e13f2d8864d099d57fc81cc2"), looks := true }, kinds := [], alts := [], laidByText := true, laidKinds := [.sentinel, .sentinel, .sentinel, .sentinel, .sentinel], laidTests := true, laidLooks := .later }
def RoundHalvesCardSaid : Prop := Claim7.holds Tryd.pinned (.plain (OpenSpec.ofChange roundHalvesSpec)) roundHalvesCard

/-- THE TIED CARD OF 'bollardlaw13.RoundReads'. -/
def roundReadsCard : Claim7 := { stood := { row := roundReadsRow, standIns := [], harness := (true, "a4a27f2a982bcfed5a7de90f8998f20b5afa7391e13f2d8864d099d57fc81cc2"), looks := true }, kinds := [], alts := [], laidByText := true, laidKinds := [.sentinel, .sentinel, .sentinel, .sentinel, .sentinel], laidTests := true, laidLooks := .later }
def RoundReadsCardSaid : Prop := Claim7.holds Tryd.pinned (.plain (OpenSpec.ofChange roundReadsSpec)) roundReadsCard

/-- THE TIED CARD OF 'bollardlaw13.RoundPlays'. -/
def roundPlaysCard : Claim7 := { stood := { row := roundPlaysRow, standIns := [], harness := (true, "a4a27f2a982bcfed5a7de90f8998f20b5afa7391e13f2d8864d099d57fc81cc2"), looks := true }, kinds := [], alts := [], laidByText := true, laidKinds := [.sentinel, .sentinel, .sentinel, .sentinel, .sentinel, .sentinel, .sentinel, .sentinel, .sentinel, .sentinel, .sentinel, .sentinel, .sentinel, .sentinel, .sentinel, .sentinel, .sentinel, .sentinel], laidTests := true, laidLooks := .later }
def RoundPlaysCardSaid : Prop := Claim7.holds Tryd.pinned (.plain (OpenSpec.ofChange roundPlaysSpec)) roundPlaysCard

/-- THE TIED CARD OF 'bollardlaw13.RoundAgrees'. -/
def roundAgreesCard : Claim7 := { stood := { row := roundAgreesRow, standIns := [], harness := (true, "a4a27f2a982bcfed5a7de90f8998f20b5afa7391e13f2d8864d099d57fc81cc2"), looks := true }, kinds := [], alts := [], laidByText := true, laidKinds := [.sentinel, .sentinel, .sentinel, .sentinel, .sentinel], laidTests := true, laidLooks := .later }
def RoundAgreesCardSaid : Prop := Claim7.holds Tryd.pinned (.plain (OpenSpec.ofChange roundAgreesSpec)) roundAgreesCard

/-- THE TIED CARD OF 'bollardlaw10.CommandLedgers'. -/
def commandLedgersCard : Claim7 := { stood := { row := commandLedgersRow, standIns := [], harness := (true, "a4a27f2a982bcfed5a7de90f8998f20b5afa7391e13f2d8864d099d57fc81cc2"), looks := true }, kinds := [], alts := [], laidByText := true, laidKinds := [.sentinel, .sentinel, .sentinel, .sentinel, .sentinel, .sentinel, .sentinel, .sentinel, .sentinel, .sentinel, .sentinel, .sentinel, .sentinel, .sentinel, .sentinel, .sentinel, .sentinel, .sentinel], laidTests := true, laidLooks := .later }
def CommandLedgersCardSaid : Prop := Claim7.holds Tryd.pinned (.plain (OpenSpec.ofChange commandLedgersSpec)) commandLedgersCard

/-- THE TIED CARD OF 'bollardlaw10.CommandReads'. -/
def commandReadsCard : Claim7 := { stood := { row := commandReadsRow, standIns := [], harness := (true, "a4a27f2a982bcfed5a7de90f8998f20b5afa7391e13f2d8864d099d57fc81cc2"), looks := true }, kinds := [], alts := [], laidByText := true, laidKinds := [.sentinel, .sentinel, .sentinel, .sentinel, .sentinel, .sentinel, .sentinel, .sentinel, .sentinel, .sentinel, .sentinel, .sentinel, .sentinel, .sentinel, .sentinel, .sentinel, .sentinel, .sentinel], laidTests := true, laidLooks := .later }
def CommandReadsCardSaid : Prop := Claim7.holds Tryd.pinned (.plain (OpenSpec.ofChange commandReadsSpec)) commandReadsCard

/-- THE TIED CARD OF 'bollardlaw10.CommandLengths'. -/
def commandLengthsCard : Claim7 := { stood := { row := commandLengthsRow, standIns := [], harness := (true, "a4a27f2a982bcfed5a7de90f8998f20b5afa7391e13f2d8864d099d57fc81cc2"), looks := true }, kinds := [], alts := [], laidByText := true, laidKinds := [.sentinel, .sentinel, .sentinel, .sentinel, .sentinel], laidTests := true, laidLooks := .later }
def CommandLengthsCardSaid : Prop := Claim7.holds Tryd.pinned (.plain (OpenSpec.ofChange commandLengthsSpec)) commandLengthsCard

/-- THE TIED CARD OF 'bollardlaw15.PostPuts'. -/
def postPutsCard : Claim7 := { stood := { row := postPutsRow, standIns := [], harness := (true, "a4a27f2a982bcfed5a7de90f8998f20b5afa7391e13f2d8864d099d57fc81cc2"), looks := true }, kinds := [], alts := [], laidByText := true, laidKinds := [.sentinel, .sentinel, .sentinel, .sentinel, .sentinel], laidTests := true, laidLooks := .later }
def PostPutsCardSaid : Prop := Claim7.holds Tryd.pinned (.plain (OpenSpec.ofChange postPutsSpec)) postPutsCard

/-- THE TIED CARD OF 'bollardlaw15.PostGets'. -/
def postGetsCard : Claim7 := { stood := { row := postGetsRow, standIns := [], harness := (true, "a4a27f2a982bcfed5a7de90f8998f20b5afa7391e13f2d8864d099d57fc81cc2"), looks := true }, kinds := [], alts := [], laidByText := true, laidKinds := [.sentinel, .sentinel, .sentinel, .sentinel, .sentinel, .sentinel, .sentinel, .sentinel, .sentinel, .sentinel, .sentinel, .sentinel, .sentinel, .sentinel, .sentinel, .sentinel, .sentinel, .sentinel], laidTests := true, laidLooks := .later }
def PostGetsCardSaid : Prop := Claim7.holds Tryd.pinned (.plain (OpenSpec.ofChange postGetsSpec)) postGetsCard

/-- THE TIED CARD OF 'bollardlaw15.PostSlips'. -/
def postSlipsCard : Claim7 := { stood := { row := postSlipsRow, standIns := [], harness := (true, "a4a27f2a982bcfed5a7de90f8998f20b5afa7391e13f2d8864d099d57fc81cc2"), looks := true }, kinds := [], alts := [], laidByText := true, laidKinds := [.sentinel, .sentinel, .sentinel, .sentinel, .sentinel], laidTests := true, laidLooks := .later }
def PostSlipsCardSaid : Prop := Claim7.holds Tryd.pinned (.plain (OpenSpec.ofChange postSlipsSpec)) postSlipsCard

/-- THE TIED CARD OF 'bollardlaw15.PostUnlike'. -/
def postUnlikeCard : Claim7 := { stood := { row := postUnlikeRow, standIns := [], harness := (true, "a4a27f2a982bcfed5a7de90f8998f20b5afa7391e13f2d8864d099d57fc81cc2"), looks := true }, kinds := [], alts := [], laidByText := true, laidKinds := [.sentinel, .sentinel, .sentinel, .sentinel, .sentinel], laidTests := true, laidLooks := .later }
def PostUnlikeCardSaid : Prop := Claim7.holds Tryd.pinned (.plain (OpenSpec.ofChange postUnlikeSpec)) postUnlikeCard

/-- THE SECOND FORM's CARD OF 'bollardlaw09.BallotNumbers'. -/
def ballotNumbersUptoCard : Claim7 := { stood := { row := ballotNumbersUptoRow, standIns := [], harness := (true, "a4a27f2a982bcfed5a7de90f8998f20b5afa7391e13f2d8864d099d57fc81cc2"), looks := true }, kinds := [], alts := [], laidByText := true, laidKinds := [.sentinel, .sentinel], laidTests := true, laidLooks := .later }
def BallotNumbersUptoCardSaid : Prop := Claim7.holds Tryd.pinned (.plain (OpenSpec.upto ballotNumbersSpec)) ballotNumbersUptoCard

/-- THE SECOND FORM's CARD OF 'bollardlaw09.BallotAgrees'. -/
def ballotAgreesUptoCard : Claim7 := { stood := { row := ballotAgreesUptoRow, standIns := [], harness := (true, "a4a27f2a982bcfed5a7de90f8998f20b5afa7391e13f2d8864d099d57fc81cc2"), looks := true }, kinds := [], alts := [], laidByText := true, laidKinds := [.sentinel, .sentinel], laidTests := true, laidLooks := .later }
def BallotAgreesUptoCardSaid : Prop := Claim7.holds Tryd.pinned (.plain (OpenSpec.upto ballotAgreesSpec)) ballotAgreesUptoCard

/-- THE SECOND FORM's CARD OF 'bollardlaw09.BallotPlays'. -/
def ballotPlaysUptoCard : Claim7 := { stood := { row := ballotPlaysUptoRow, standIns := [], harness := (true, "a4a27f2a982bcfed5a7de90f8998f20b5afa7391e13f2d8864d099d57fc81cc2"), looks := true }, kinds := [], alts := [], laidByText := true, laidKinds := [.sentinel, .sentinel, .sentinel, .sentinel, .sentinel, .sentinel, .sentinel, .sentinel, .sentinel, .sentinel, .sentinel, .sentinel, .sentinel, .sentinel, .sentinel, .sentinel, .sentinel, .sentinel], laidTests := true, laidLooks := .later }
def BallotPlaysUptoCardSaid : Prop := Claim7.holds Tryd.pinned (.plain (OpenSpec.upto ballotPlaysSpec)) ballotPlaysUptoCard

/-- THE SECOND FORM's CARD OF 'bollardlaw09.BallotRises'. -/
def ballotRisesUptoCard : Claim7 := { stood := { row := ballotRisesUptoRow, standIns := [], harness := (true, "a4a27f2a982bcfed5a7de90f8998f20b5afa7391e13f2d8864d099d57fc81cc2"), looks := true }, kinds := [], alts := [], laidByText := true, laidKinds := [.sentinel, .sentinel, .sentinel], laidTests := true, laidLooks := .later }
def BallotRisesUptoCardSaid : Prop := Claim7.holds Tryd.pinned (.plain (OpenSpec.upto ballotRisesSpec)) ballotRisesUptoCard

/-- THE SECOND FORM's CARD OF 'bollardlaw10.CommandNames'. -/
def commandNamesUptoCard : Claim7 := { stood := { row := commandNamesUptoRow, standIns := [], harness := (true, "a4a27f2a982bcfed5a7de90f8998f20b5afa7391e13f2d8864d099d57fc81cc2"), looks := true }, kinds := [], alts := [], laidByText := true, laidKinds := [.sentinel, .sentinel], laidTests := true, laidLooks := .later }
def CommandNamesUptoCardSaid : Prop := Claim7.holds Tryd.pinned (.plain (OpenSpec.upto commandNamesSpec)) commandNamesUptoCard

/-- THE SECOND FORM's CARD OF 'bollardlaw10.CommandForms'. -/
def commandFormsUptoCard : Claim7 := { stood := { row := commandFormsUptoRow, standIns := [], harness := (true, "a4a27f2a982bcfed5a7de90f8998f20b5afa7391e13f2d8864d099d57fc81cc2"), looks := true }, kinds := [], alts := [], laidByText := true, laidKinds := [.sentinel, .sentinel, .sentinel], laidTests := true, laidLooks := .later }
def CommandFormsUptoCardSaid : Prop := Claim7.holds Tryd.pinned (.plain (OpenSpec.upto commandFormsSpec)) commandFormsUptoCard

/-- THE SECOND FORM's CARD OF 'bollardlaw10.CommandGets'. -/
def commandGetsUptoCard : Claim7 := { stood := { row := commandGetsUptoRow, standIns := [], harness := (true, "a4a27f2a982bcfed5a7de90f8998f20b5afa7391e13f2d8864d099d57fc81cc2"), looks := true }, kinds := [], alts := [], laidByText := true, laidKinds := [.sentinel, .sentinel, .sentinel], laidTests := true, laidLooks := .later }
def CommandGetsUptoCardSaid : Prop := Claim7.holds Tryd.pinned (.plain (OpenSpec.upto commandGetsSpec)) commandGetsUptoCard

/-- THE SECOND FORM's CARD OF 'bollardlaw13.RoundNewest'. -/
def roundNewestUptoCard : Claim7 := { stood := { row := roundNewestUptoRow, standIns := [], harness := (true, "a4a27f2a982bcfed5a7de90f8998f20b5afa7391e13f2d8864d099d57fc81cc2"), looks := true }, kinds := [], alts := [], laidByText := true, laidKinds := [.sentinel, .sentinel, .sentinel, .sentinel, .sentinel], laidTests := true, laidLooks := .later }
def RoundNewestUptoCardSaid : Prop := Claim7.holds Tryd.pinned (.plain (OpenSpec.upto roundNewestSpec)) roundNewestUptoCard

/-- THE SECOND FORM's CARD OF 'bollardlaw13.RoundHalves'. -/
def roundHalvesUptoCard : Claim7 := { stood := { row := roundHalvesUptoRow, standIns := [], harness := (true, "a4a27f2a982bcfed5a7de90f8998f20b5afa7391e13f2d8864d099d57fc81cc2"), looks := true }, kinds := [], alts := [], laidByText := true, laidKinds := [.sentinel, .sentinel, .sentinel, .sentinel, .sentinel], laidTests := true, laidLooks := .later }
def RoundHalvesUptoCardSaid : Prop := Claim7.holds Tryd.pinned (.plain (OpenSpec.upto roundHalvesSpec)) roundHalvesUptoCard

/-- THE SECOND FORM's CARD OF 'bollardlaw13.RoundReads'. -/
def roundReadsUptoCard : Claim7 := { stood := { row := roundReadsUptoRow, standIns := [], harness := (true, "a4a27f2a982bcfed5a7de90f8998f20b5afa7391e13f2d8864d099d57fc81cc2"), looks := true }, kinds := [], alts := [], laidByText := true, laidKinds := [.sentinel, .sentinel, .sentinel, .sentinel, .sentinel], laidTests := true, laidLooks := .later }
def RoundReadsUptoCardSaid : Prop := Claim7.holds Tryd.pinned (.plain (OpenSpec.upto roundReadsSpec)) roundReadsUptoCard

/-- THE SECOND FORM's CARD OF 'bollardlaw13.RoundPlays'. -/
def roundPlaysUptoCard : Claim7 := { stood := { row := roundPlaysUptoRow, standIns := [], harness := (true, "a4a27f2a982bcfed5a7de90f8998f20b5afa7391e13f2d8864d099d57fc81cc2"), looks := true }, kinds := [], alts := [], laidByText := true, laidKinds := [.sentinel, .sentinel, .sentinel, .sentinel, .sentinel, .sentinel, .sentinel, .sentinel, .sentinel, .sentinel, .sentinel, .sentinel, .sentinel, .sentinel, .sentinel, .sentinel, .sentinel, .sentinel], laidTests := true, laidLooks := .later }
def RoundPlaysUptoCardSaid : Prop := Claim7.holds Tryd.pinned (.plain (OpenSpec.upto roundPlaysSpec)) roundPlaysUptoCard

/-- THE SECOND FORM's CARD OF 'bollardlaw13.RoundAgrees'. -/
def roundAgreesUptoCard : Claim7 := { stood := { row := roundAgreesUptoRow, standIns := [], harness := (true, "a4a27f2a982bcfed5a7de90f8998f20b5afa7391e13f2d8864d099d57fc81cc2"), looks := true }, kinds := [], alts := [], laidByText := true, laidKinds := [.sentinel, .sentinel, .sentinel, .sentinel, .sentinel], laidTests := true, laidLooks := .later }
def RoundAgreesUptoCardSaid : Prop := Claim7.holds Tryd.pinned (.plain (OpenSpec.upto roundAgreesSpec)) roundAgreesUptoCard

/-- THE SECOND FORM's CARD OF 'bollardlaw10.CommandLedgers'. -/
def commandLedgersUptoCard : Claim7 := { stood := { row := commandLedgersUptoRow, standIns := [], harness := (true, "a4a27f2a982bcfed5a7de90f8998f20b5afa7391e13f2d8864d099d57fc81cc2"), looks := true }, kinds := [], alts := [], laidByText := true, laidKinds := [.sentinel, .sentinel, .sentinel, .sentinel, .sentinel, .sentinel, .sentinel, .sentinel, .sentinel, .sentinel, .sentinel, .sentinel, .sentinel, .sentinel, .sentinel, .sentinel, .sentinel, .sentinel], laidTests := true, laidLooks := .later }
def CommandLedgersUptoCardSaid : Prop := Claim7.holds Tryd.pinned (.plain (OpenSpec.upto commandLedgersSpec)) commandLedgersUptoCard

/-- THE SECOND FORM's CARD OF 'bollardlaw10.CommandReads'. -/
def commandReadsUptoCard : Claim7 := { stood := { row := commandReadsUptoRow, standIns := [], harness := (true, "a4a27f2a982bcfed5a7de90f8998f20b5afa7391e13f2d8864d099d57fc81cc2"), looks := true }, kinds := [], alts := [], laidByText := true, laidKinds := [.sentinel, .sentinel, .sentinel, .sentinel, .sentinel, .sentinel, .sentinel, .sentinel, .sentinel, .sentinel, .sentinel, .sentinel, .sentinel, .sentinel, .sentinel, .sentinel, .sentinel, .sentinel], laidTests := true, laidLooks := .later }
def CommandReadsUptoCardSaid : Prop := Claim7.holds Tryd.pinned (.plain (OpenSpec.upto commandReadsSpec)) commandReadsUptoCard

/-- THE SECOND FORM's CARD OF 'bollardlaw10.CommandLengths'. -/
def commandLengthsUptoCard : Claim7 := { stood := { row := commandLengthsUptoRow, standIns := [], harness := (true, "a4a27f2a982bcfed5a7de90f8998f20b5afa7391e13f2d8864d099d57fc81cc2"), looks := true }, kinds := [], alts := [], laidByText := true, laidKinds := [.sentinel, .sentinel, .sentinel, .sentinel, .sentinel], laidTests := true, laidLooks := .later }
def CommandLengthsUptoCardSaid : Prop := Claim7.holds Tryd.pinned (.plain (OpenSpec.upto commandLengthsSpec)) commandLengthsUptoCard

/-- THE SECOND FORM's CARD OF 'bollardlaw15.PostPuts'. -/
def postPutsUptoCard : Claim7 := { stood := { row := postPutsUptoRow, standIns := [], harness := (true, "a4a27f2a982bcfed5a7de90f8998f20b5afa7391e13f2d8864d099d57fc81cc2"), looks := true }, kinds := [], alts := [], laidByText := true, laidKinds := [.sentinel, .sentinel, .sentinel, .sentinel, .sentinel], laidTests := true, laidLooks := .later }
def PostPutsUptoCardSaid : Prop := Claim7.holds Tryd.pinned (.plain (OpenSpec.upto postPutsSpec)) postPutsUptoCard

/-- THE SECOND FORM's CARD OF 'bollardlaw15.PostGets'. -/
def postGetsUptoCard : Claim7 := { stood := { row := postGetsUptoRow, standIns := [], harness := (true, "a4a27f2a982bcfed5a7de90f8998f20b5afa7391e13f2d8864d099d57fc81cc2"), looks := true }, kinds := [], alts := [], laidByText := true, laidKinds := [.sentinel, .sentinel, .sentinel, .sentinel, .sentinel, .sentinel, .sentinel, .sentinel, .sentinel, .sentinel, .sentinel, .sentinel, .sentinel, .sentinel, .sentinel, .sentinel, .sentinel, .sentinel], laidTests := true, laidLooks := .later }
def PostGetsUptoCardSaid : Prop := Claim7.holds Tryd.pinned (.plain (OpenSpec.upto postGetsSpec)) postGetsUptoCard

/-- THE SECOND FORM's CARD OF 'bollardlaw15.PostSlips'. -/
def postSlipsUptoCard : Claim7 := { stood := { row := postSlipsUptoRow, standIns := [], harness := (true, "a4a27f2a982bcfed5a7de90f8998f20b5afa7391e13f2d8864d099d57fc81cc2"), looks := true }, kinds := [], alts := [], laidByText := true, laidKinds := [.sentinel, .sentinel, .sentinel, .sentinel, .sentinel], laidTests := true, laidLooks := .later }
def PostSlipsUptoCardSaid : Prop := Claim7.holds Tryd.pinned (.plain (OpenSpec.upto postSlipsSpec)) postSlipsUptoCard

/-- THE SECOND FORM's CARD OF 'bollardlaw15.PostUnlike'. -/
def postUnlikeUptoCard : Claim7 := { stood := { row := postUnlikeUptoRow, standIns := [], harness := (true, "a4a27f2a982bcfed5a7de90f8998f20b5afa7391e13f2d8864d099d57fc81cc2"), looks := true }, kinds := [], alts := [], laidByText := true, laidKinds := [.sentinel, .sentinel, .sentinel, .sentinel, .sentinel], laidTests := true, laidLooks := .later }
def PostUnlikeUptoCardSaid : Prop := Claim7.holds Tryd.pinned (.plain (OpenSpec.upto postUnlikeSpec)) postUnlikeUptoCard
end Rows
end Go.Proofs.YtnlncfjibbdimaaDoor
