/-
  NARROWER THAN 'FOR EVERY INPUT', by the rows' own cells (each row's printed sentence says how): BallotNumbers: laid · BallotAgrees: laid · BallotPlays: laid · BallotRises: laid · CommandNames: laid · CommandForms: laid · CommandGets: laid · RoundNewest: laid · RoundHalves: laid · RoundReads: laid · RoundPlays: laid · RoundAgrees: laid · CommandLedgers: laid · CommandReads: laid · CommandLengths: laid · PostPuts: laid · PostGets: laid · PostSlips: laid · PostUnlike: laid.
  DERIVED. THE GIVEN ROWS OF THIS SEAT. 19 by the template 'for every input the law returns true; each argument reads behind the call as it read before'; 0 by the template 'total and deterministic' (their statements: YtnlncfjibbdimaaDoorTotals.lean).
  GIVEN WITH THE SEED: the statements are not yours to turn. If you find one false, say at which input.
  Laid BY PROGRAM, IN A SANDBOX (cutbox-rows.mjs): the forced cells as the released guide's own fill.sh prints them over the translation c6d422431e70bf59… (all of the seat's roots in one cut). By AI agents, Wed Nov 11 2026. No macro, syntax, notation, axiom, sorry.
-/
import Derived.Test.YtnlncfjibbdimaaDoorChecked
import GoSem.Claim
import GoSem.ClaimJoined
import GoSem.ClaimMapViews
import Derived.JoinedTies
import Derived.KernelRfl
namespace Go.Proofs.YtnlncfjibbdimaaDoor
/- THE CELL 'sum', in the pinned program and in every row, IS THE sha256 OF THE DUMP (.gsa) THAT YtnlncfjibbdimaaDoorProg.lean LOADS. Nothing in Lean hashes anything: it is a label: what it is worth is what the hold of that sum in a sandbox is worth. -/
noncomputable def Tryd.pinned : Pinned := { name := "ytnlncfjibbdimaadoor", sum := "c6d422431e70bf5940958c55e6d60c111bc97632692d4ae99fa97d6a8f60031e", checked := Tryd.checked }
namespace Rows
def none {H : Type} : Left H := { results := [], args := [] }

/- WHAT THE LISTED PACKAGE-LEVEL VARIABLES READ AS WHEN THE CALL BEGINS. Each datum BY PROGRAM (the guide's laid-datum.mjs) off the statement by which the dump's own 'gosem.cut.vars' lays the variable. In a bare row this is a premise. The card (YtnlncfjibbdimaaDoorCards.lean) ties it to the program's text. -/
def laid_bollard_api_ErrNumber {H : Type} : DataW H := .iface "*errors.errorString" (.ptr (.agg [.lit (.string [98, 111, 108, 108, 97, 114, 100, 58, 32, 110, 117, 109, 98, 101, 114])]))
def laid_bollard_api_ErrBallot {H : Type} : DataW H := .iface "*errors.errorString" (.ptr (.agg [.lit (.string [98, 111, 108, 108, 97, 114, 100, 58, 32, 98, 97, 108, 108, 111, 116])]))
def laid_bollard_api_ErrParams {H : Type} : DataW H := .iface "*errors.errorString" (.ptr (.agg [.lit (.string [98, 111, 108, 108, 97, 114, 100, 58, 32, 112, 97, 114, 97, 109, 115])]))
def laid_bollard_api_ErrData {H : Type} : DataW H := .iface "*errors.errorString" (.ptr (.agg [.lit (.string [98, 111, 108, 108, 97, 114, 100, 58, 32, 100, 97, 116, 97])]))
def laid_bollard_api_ErrLost {H : Type} : DataW H := .iface "*errors.errorString" (.ptr (.agg [.lit (.string [98, 111, 108, 108, 97, 114, 100, 58, 32, 108, 111, 115, 116])]))
def laid_bollard_api_ErrBytes {H : Type} : DataW H := .iface "*errors.errorString" (.ptr (.agg [.lit (.string [98, 111, 108, 108, 97, 114, 100, 58, 32, 98, 121, 116, 101, 115])]))
def laid_bollard_api_ErrDigest {H : Type} : DataW H := .iface "*errors.errorString" (.ptr (.agg [.lit (.string [98, 111, 108, 108, 97, 114, 100, 58, 32, 100, 105, 103, 101, 115, 116])]))
def laid_bollard_api_ErrName {H : Type} : DataW H := .iface "*errors.errorString" (.ptr (.agg [.lit (.string [98, 111, 108, 108, 97, 114, 100, 58, 32, 110, 97, 109, 101])]))
def laid_bollard_api_ErrGone {H : Type} : DataW H := .iface "*errors.errorString" (.ptr (.agg [.lit (.string [98, 111, 108, 108, 97, 114, 100, 58, 32, 103, 111, 110, 101])]))
def laid_bollard_api_ErrThere {H : Type} : DataW H := .iface "*errors.errorString" (.ptr (.agg [.lit (.string [98, 111, 108, 108, 97, 114, 100, 58, 32, 116, 104, 101, 114, 101])]))
def laid_bollard_api_ErrFull {H : Type} : DataW H := .iface "*errors.errorString" (.ptr (.agg [.lit (.string [98, 111, 108, 108, 97, 114, 100, 58, 32, 102, 117, 108, 108])]))
def laid_bollard_api_ErrLarge {H : Type} : DataW H := .iface "*errors.errorString" (.ptr (.agg [.lit (.string [98, 111, 108, 108, 97, 114, 100, 58, 32, 108, 97, 114, 103, 101])]))
def laid_bollard_api_ErrRequest {H : Type} : DataW H := .iface "*errors.errorString" (.ptr (.agg [.lit (.string [98, 111, 108, 108, 97, 114, 100, 58, 32, 114, 101, 113, 117, 101, 115, 116])]))
def laid_bollard_api_ErrUri {H : Type} : DataW H := .iface "*errors.errorString" (.ptr (.agg [.lit (.string [98, 111, 108, 108, 97, 114, 100, 58, 32, 117, 114, 105])]))
def laid_bollard_api_ErrDenied {H : Type} : DataW H := .iface "*errors.errorString" (.ptr (.agg [.lit (.string [98, 111, 108, 108, 97, 114, 100, 58, 32, 100, 101, 110, 105, 101, 100])]))
def laid_bollard_api_ErrSkew {H : Type} : DataW H := .iface "*errors.errorString" (.ptr (.agg [.lit (.string [98, 111, 108, 108, 97, 114, 100, 58, 32, 115, 107, 101, 119])]))
def laid_bollard_api_ErrMethod {H : Type} : DataW H := .iface "*errors.errorString" (.ptr (.agg [.lit (.string [98, 111, 108, 108, 97, 114, 100, 58, 32, 109, 101, 116, 104, 111, 100])]))
def laid_bollard_api_ErrState {H : Type} : DataW H := .iface "*errors.errorString" (.ptr (.agg [.lit (.string [98, 111, 108, 108, 97, 114, 100, 58, 32, 115, 116, 97, 116, 101])]))

/-- 'bollardlaw09.BallotNumbers': WHATEVER THE INPUT: true; the input reads as it did. -/
def ballotNumbersSpec : ChangeSpec := { name := "ballotNumbers", fn := fun _ => fun
  | [d] => { results := [.lit (.bool true)], args := [d] }
  | _ => none }
def ballotNumbersRow : OpenClaim := { program := "ytnlncfjibbdimaadoor", sum := "c6d422431e70bf5940958c55e6d60c111bc97632692d4ae99fa97d6a8f60031e", func := "bollard/bollardlaw09.BallotNumbers", spec := "ballotNumbers", named := ["bollard/api.ErrBallot", "bollard/api.ErrNumber"], apart := false, laid := [("bollard/api.ErrNumber", laid_bollard_api_ErrNumber), ("bollard/api.ErrBallot", laid_bollard_api_ErrBallot)] }
def BallotNumbersSaid : Prop := ballotNumbersRow.holds Tryd.pinned (OpenSpec.ofChange ballotNumbersSpec)

/-- ITS FALSE NEIGHBOUR: 'it returns false'. Refute it at one input. -/
def ballotNumbersWrong : ChangeSpec := { name := "ballotNumbers", fn := fun _ => fun
  | [d] => { results := [.lit (.bool false)], args := [d] }
  | _ => none }
def BallotNumbersWrongFalsely : Prop := ballotNumbersRow.holds Tryd.pinned (OpenSpec.ofChange ballotNumbersWrong)

/-- 'bollardlaw09.BallotAgrees': WHATEVER THE INPUT: true; the input reads as it did. -/
def ballotAgreesSpec : ChangeSpec := { name := "ballotAgrees", fn := fun _ => fun
  | [d1, d2] => { results := [.lit (.bool true)], args := [d1, d2] }
  | _ => none }
def ballotAgreesRow : OpenClaim := { program := "ytnlncfjibbdimaadoor", sum := "c6d422431e70bf5940958c55e6d60c111bc97632692d4ae99fa97d6a8f60031e", func := "bollard/bollardlaw09.BallotAgrees", spec := "ballotAgrees", named := ["bollard/api.ErrBallot", "bollard/api.ErrNumber"], apart := false, laid := [("bollard/api.ErrNumber", laid_bollard_api_ErrNumber), ("bollard/api.ErrBallot", laid_bollard_api_ErrBallot)] }
def BallotAgreesSaid : Prop := ballotAgreesRow.holds Tryd.pinned (OpenSpec.ofChange ballotAgreesSpec)

/-- ITS FALSE NEIGHBOUR: 'it returns false'. Refute it at one input. -/
def ballotAgreesWrong : ChangeSpec := { name := "ballotAgrees", fn := fun _ => fun
  | [d1, d2] => { results := [.lit (.bool false)], args := [d1, d2] }
  | _ => none }
def BallotAgreesWrongFalsely : Prop := ballotAgreesRow.holds Tryd.pinned (OpenSpec.ofChange ballotAgreesWrong)

/-- 'bollardlaw09.BallotPlays': WHATEVER THE INPUT: true; the input reads as it did. -/
def ballotPlaysSpec : ChangeSpec := { name := "ballotPlays", fn := fun _ => fun
  | [d1, d2] => { results := [.lit (.bool true)], args := [d1, d2] }
  | _ => none }
def ballotPlaysRow : OpenClaim := { program := "ytnlncfjibbdimaadoor", sum := "c6d422431e70bf5940958c55e6d60c111bc97632692d4ae99fa97d6a8f60031e", func := "bollard/bollardlaw09.BallotPlays", spec := "ballotPlays", named := ["bollard/api.ErrNumber", "bollard/api.ErrBallot", "bollard/api.ErrParams", "bollard/api.ErrData", "bollard/api.ErrLost", "bollard/api.ErrBytes", "bollard/api.ErrDigest", "bollard/api.ErrName", "bollard/api.ErrGone", "bollard/api.ErrThere", "bollard/api.ErrFull", "bollard/api.ErrLarge", "bollard/api.ErrRequest", "bollard/api.ErrUri", "bollard/api.ErrDenied", "bollard/api.ErrSkew", "bollard/api.ErrMethod", "bollard/api.ErrState"], apart := false, laid := [("bollard/api.ErrParams", laid_bollard_api_ErrParams), ("bollard/api.ErrNumber", laid_bollard_api_ErrNumber), ("bollard/api.ErrData", laid_bollard_api_ErrData), ("bollard/api.ErrLost", laid_bollard_api_ErrLost), ("bollard/api.ErrBytes", laid_bollard_api_ErrBytes), ("bollard/api.ErrDigest", laid_bollard_api_ErrDigest), ("bollard/api.ErrName", laid_bollard_api_ErrName), ("bollard/api.ErrGone", laid_bollard_api_ErrGone), ("bollard/api.ErrThere", laid_bollard_api_ErrThere), ("bollard/api.ErrFull", laid_bollard_api_ErrFull), ("bollard/api.ErrLarge", laid_bollard_api_ErrLarge), ("bollard/api.ErrBallot", laid_bollard_api_ErrBallot), ("bollard/api.ErrRequest", laid_bollard_api_ErrRequest), ("bollard/api.ErrUri", laid_bollard_api_ErrUri), ("bollard/api.ErrDenied", laid_bollard_api_ErrDenied), ("bollard/api.ErrSkew", laid_bollard_api_ErrSkew), ("bollard/api.ErrMethod", laid_bollard_api_ErrMethod), ("bollard/api.ErrState", laid_bollard_api_ErrState)] }
def BallotPlaysSaid : Prop := ballotPlaysRow.holds Tryd.pinned (OpenSpec.ofChange ballotPlaysSpec)

/-- ITS FALSE NEIGHBOUR: 'it returns false'. Refute it at one input. -/
def ballotPlaysWrong : ChangeSpec := { name := "ballotPlays", fn := fun _ => fun
  | [d1, d2] => { results := [.lit (.bool false)], args := [d1, d2] }
  | _ => none }
def BallotPlaysWrongFalsely : Prop := ballotPlaysRow.holds Tryd.pinned (OpenSpec.ofChange ballotPlaysWrong)

/-- 'bollardlaw09.BallotRises': WHATEVER THE INPUT: true; the input reads as it did. -/
def ballotRisesSpec : ChangeSpec := { name := "ballotRises", fn := fun _ => fun
  | [d1, d2] => { results := [.lit (.bool true)], args := [d1, d2] }
  | _ => none }
def ballotRisesRow : OpenClaim := { program := "ytnlncfjibbdimaadoor", sum := "c6d422431e70bf5940958c55e6d60c111bc97632692d4ae99fa97d6a8f60031e", func := "bollard/bollardlaw09.BallotRises", spec := "ballotRises", named := ["bollard/api.ErrBallot", "bollard/api.ErrNumber", "bollard/api.ErrFull"], apart := false, laid := [("bollard/api.ErrNumber", laid_bollard_api_ErrNumber), ("bollard/api.ErrFull", laid_bollard_api_ErrFull), ("bollard/api.ErrBallot", laid_bollard_api_ErrBallot)] }
def BallotRisesSaid : Prop := ballotRisesRow.holds Tryd.pinned (OpenSpec.ofChange ballotRisesSpec)

/-- ITS FALSE NEIGHBOUR: 'it returns false'. Refute it at one input. -/
def ballotRisesWrong : ChangeSpec := { name := "ballotRises", fn := fun _ => fun
  | [d1, d2] => { results := [.lit (.bool false)], args := [d1, d2] }
  | _ => none }
def BallotRisesWrongFalsely : Prop := ballotRisesRow.holds Tryd.pinned (OpenSpec.ofChange ballotRisesWrong)

/-- 'bollardlaw10.CommandNames': WHATEVER THE INPUT: true; the input reads as it did. -/
def commandNamesSpec : ChangeSpec := { name := "commandNames", fn := fun _ => fun
  | [d1, d2] => { results := [.lit (.bool true)], args := [d1, d2] }
  | _ => none }
def commandNamesRow : OpenClaim := { program := "ytnlncfjibbdimaadoor", sum := "c6d422431e70bf5940958c55e6d60c111bc97632692d4ae99fa97d6a8f60031e", func := "bollard/bollardlaw10.CommandNames", spec := "commandNames", inPlace := ["internal/bytealg.IndexByteString"], named := ["bollard/api.ErrState", "bollard/api.ErrNumber"], apart := false, laid := [("bollard/api.ErrNumber", laid_bollard_api_ErrNumber), ("bollard/api.ErrState", laid_bollard_api_ErrState)] }
def CommandNamesSaid : Prop := commandNamesRow.holds Tryd.pinned (OpenSpec.ofChange commandNamesSpec)

/-- ITS FALSE NEIGHBOUR: 'it returns false'. Refute it at one input. -/
def commandNamesWrong : ChangeSpec := { name := "commandNames", fn := fun _ => fun
  | [d1, d2] => { results := [.lit (.bool false)], args := [d1, d2] }
  | _ => none }
def CommandNamesWrongFalsely : Prop := commandNamesRow.holds Tryd.pinned (OpenSpec.ofChange commandNamesWrong)

/-- 'bollardlaw10.CommandForms': WHATEVER THE INPUT: true; the input reads as it did. -/
def commandFormsSpec : ChangeSpec := { name := "commandForms", fn := fun _ => fun
  | [d] => { results := [.lit (.bool true)], args := [d] }
  | _ => none }
def commandFormsRow : OpenClaim := { program := "ytnlncfjibbdimaadoor", sum := "c6d422431e70bf5940958c55e6d60c111bc97632692d4ae99fa97d6a8f60031e", func := "bollard/bollardlaw10.CommandForms", spec := "commandForms", inPlace := ["internal/bytealg.IndexByteString"], unfollowed := true, recurses := true, named := ["bollard/api.ErrState", "bollard/api.ErrNumber", "bollard/api.ErrBytes"], apart := false, laid := [("bollard/api.ErrNumber", laid_bollard_api_ErrNumber), ("bollard/api.ErrBytes", laid_bollard_api_ErrBytes), ("bollard/api.ErrState", laid_bollard_api_ErrState)] }
def CommandFormsSaid : Prop := commandFormsRow.holds Tryd.pinned (OpenSpec.ofChange commandFormsSpec)

/-- ITS FALSE NEIGHBOUR: 'it returns false'. Refute it at one input. -/
def commandFormsWrong : ChangeSpec := { name := "commandForms", fn := fun _ => fun
  | [d] => { results := [.lit (.bool false)], args := [d] }
  | _ => none }
def CommandFormsWrongFalsely : Prop := commandFormsRow.holds Tryd.pinned (OpenSpec.ofChange commandFormsWrong)

/-- 'bollardlaw10.CommandGets': WHATEVER THE INPUT: true; the input reads as it did. -/
def commandGetsSpec : ChangeSpec := { name := "commandGets", fn := fun _ => fun
  | [d] => { results := [.lit (.bool true)], args := [d] }
  | _ => none }
def commandGetsRow : OpenClaim := { program := "ytnlncfjibbdimaadoor", sum := "c6d422431e70bf5940958c55e6d60c111bc97632692d4ae99fa97d6a8f60031e", func := "bollard/bollardlaw10.CommandGets", spec := "commandGets", inPlace := ["internal/bytealg.IndexByteString"], unfollowed := true, recurses := true, named := ["bollard/api.ErrBytes", "bollard/api.ErrState", "bollard/api.ErrNumber"], apart := false, laid := [("bollard/api.ErrNumber", laid_bollard_api_ErrNumber), ("bollard/api.ErrBytes", laid_bollard_api_ErrBytes), ("bollard/api.ErrState", laid_bollard_api_ErrState)] }
def CommandGetsSaid : Prop := commandGetsRow.holds Tryd.pinned (OpenSpec.ofChange commandGetsSpec)

/-- ITS FALSE NEIGHBOUR: 'it returns false'. Refute it at one input. -/
def commandGetsWrong : ChangeSpec := { name := "commandGets", fn := fun _ => fun
  | [d] => { results := [.lit (.bool false)], args := [d] }
  | _ => none }
def CommandGetsWrongFalsely : Prop := commandGetsRow.holds Tryd.pinned (OpenSpec.ofChange commandGetsWrong)

/-- 'bollardlaw13.RoundNewest': WHATEVER THE INPUT: true; the input reads as it did. -/
def roundNewestSpec : ChangeSpec := { name := "roundNewest", fn := fun _ => fun
  | [d1, d2, d3] => { results := [.lit (.bool true)], args := [d1, d2, d3] }
  | _ => none }
def roundNewestRow : OpenClaim := { program := "ytnlncfjibbdimaadoor", sum := "c6d422431e70bf5940958c55e6d60c111bc97632692d4ae99fa97d6a8f60031e", func := "bollard/bollardlaw13.RoundNewest", spec := "roundNewest", inPlace := ["internal/bytealg.IndexByteString"], unfollowed := true, recurses := true, named := ["bollard/api.ErrNumber", "bollard/api.ErrState", "bollard/api.ErrBallot", "bollard/api.ErrFull", "bollard/api.ErrGone"], apart := false, laid := [("bollard/api.ErrNumber", laid_bollard_api_ErrNumber), ("bollard/api.ErrGone", laid_bollard_api_ErrGone), ("bollard/api.ErrFull", laid_bollard_api_ErrFull), ("bollard/api.ErrBallot", laid_bollard_api_ErrBallot), ("bollard/api.ErrState", laid_bollard_api_ErrState)] }
def RoundNewestSaid : Prop := roundNewestRow.holds Tryd.pinned (OpenSpec.ofChange roundNewestSpec)

/-- ITS FALSE NEIGHBOUR: 'it returns false'. Refute it at one input. -/
def roundNewestWrong : ChangeSpec := { name := "roundNewest", fn := fun _ => fun
  | [d1, d2, d3] => { results := [.lit (.bool false)], args := [d1, d2, d3] }
  | _ => none }
def RoundNewestWrongFalsely : Prop := roundNewestRow.holds Tryd.pinned (OpenSpec.ofChange roundNewestWrong)

/-- 'bollardlaw13.RoundHalves': WHATEVER THE INPUT: true; the input reads as it did. -/
def roundHalvesSpec : ChangeSpec := { name := "roundHalves", fn := fun _ => fun
  | [d1, d2, d3] => { results := [.lit (.bool true)], args := [d1, d2, d3] }
  | _ => none }
def roundHalvesRow : OpenClaim := { program := "ytnlncfjibbdimaadoor", sum := "c6d422431e70bf5940958c55e6d60c111bc97632692d4ae99fa97d6a8f60031e", func := "bollard/bollardlaw13.RoundHalves", spec := "roundHalves", inPlace := ["internal/bytealg.IndexByteString"], unfollowed := true, recurses := true, named := ["bollard/api.ErrNumber", "bollard/api.ErrState", "bollard/api.ErrBallot", "bollard/api.ErrFull", "bollard/api.ErrGone"], apart := false, laid := [("bollard/api.ErrNumber", laid_bollard_api_ErrNumber), ("bollard/api.ErrGone", laid_bollard_api_ErrGone), ("bollard/api.ErrFull", laid_bollard_api_ErrFull), ("bollard/api.ErrBallot", laid_bollard_api_ErrBallot), ("bollard/api.ErrState", laid_bollard_api_ErrState)] }
def RoundHalvesSaid : Prop := roundHalvesRow.holds Tryd.pinned (OpenSpec.ofChange roundHalvesSpec)

/-- ITS FALSE NEIGHBOUR: 'it returns false'. Refute it at one input. -/
def roundHalvesWrong : ChangeSpec := { name := "roundHalves", fn := fun _ => fun
  | [d1, d2, d3] => { results := [.lit (.bool false)], args := [d1, d2, d3] }
  | _ => none }
def RoundHalvesWrongFalsely : Prop := roundHalvesRow.holds Tryd.pinned (OpenSpec.ofChange roundHalvesWrong)

/-- 'bollardlaw13.RoundReads': WHATEVER THE INPUT: true; the input reads as it did. -/
def roundReadsSpec : ChangeSpec := { name := "roundReads", fn := fun _ => fun
  | [d1, d2] => { results := [.lit (.bool true)], args := [d1, d2] }
  | _ => none }
def roundReadsRow : OpenClaim := { program := "ytnlncfjibbdimaadoor", sum := "c6d422431e70bf5940958c55e6d60c111bc97632692d4ae99fa97d6a8f60031e", func := "bollard/bollardlaw13.RoundReads", spec := "roundReads", inPlace := ["internal/bytealg.IndexByteString"], unfollowed := true, recurses := true, named := ["bollard/api.ErrState", "bollard/api.ErrNumber", "bollard/api.ErrBallot", "bollard/api.ErrFull", "bollard/api.ErrGone"], apart := false, laid := [("bollard/api.ErrNumber", laid_bollard_api_ErrNumber), ("bollard/api.ErrGone", laid_bollard_api_ErrGone), ("bollard/api.ErrFull", laid_bollard_api_ErrFull), ("bollard/api.ErrBallot", laid_bollard_api_ErrBallot), ("bollard/api.ErrState", laid_bollard_api_ErrState)] }
def RoundReadsSaid : Prop := roundReadsRow.holds Tryd.pinned (OpenSpec.ofChange roundReadsSpec)

/-- ITS FALSE NEIGHBOUR: 'it returns false'. Refute it at one input. -/
def roundReadsWrong : ChangeSpec := { name := "roundReads", fn := fun _ => fun
  | [d1, d2] => { results := [.lit (.bool false)], args := [d1, d2] }
  | _ => none }
def RoundReadsWrongFalsely : Prop := roundReadsRow.holds Tryd.pinned (OpenSpec.ofChange roundReadsWrong)

/-- 'bollardlaw13.RoundPlays': WHATEVER THE INPUT: true; the input reads as it did. -/
def roundPlaysSpec : ChangeSpec := { name := "roundPlays", fn := fun _ => fun
  | [d1, d2, d3] => { results := [.lit (.bool true)], args := [d1, d2, d3] }
  | _ => none }
def roundPlaysRow : OpenClaim := { program := "ytnlncfjibbdimaadoor", sum := "c6d422431e70bf5940958c55e6d60c111bc97632692d4ae99fa97d6a8f60031e", func := "bollard/bollardlaw13.RoundPlays", spec := "roundPlays", inPlace := ["internal/bytealg.IndexByteString"], unfollowed := true, recurses := true, named := ["bollard/api.ErrNumber", "bollard/api.ErrState", "bollard/api.ErrBallot", "bollard/api.ErrFull", "bollard/api.ErrGone", "bollard/api.ErrParams", "bollard/api.ErrData", "bollard/api.ErrLost", "bollard/api.ErrBytes", "bollard/api.ErrDigest", "bollard/api.ErrName", "bollard/api.ErrThere", "bollard/api.ErrLarge", "bollard/api.ErrRequest", "bollard/api.ErrUri", "bollard/api.ErrDenied", "bollard/api.ErrSkew", "bollard/api.ErrMethod"], apart := false, laid := [("bollard/api.ErrParams", laid_bollard_api_ErrParams), ("bollard/api.ErrNumber", laid_bollard_api_ErrNumber), ("bollard/api.ErrData", laid_bollard_api_ErrData), ("bollard/api.ErrLost", laid_bollard_api_ErrLost), ("bollard/api.ErrBytes", laid_bollard_api_ErrBytes), ("bollard/api.ErrDigest", laid_bollard_api_ErrDigest), ("bollard/api.ErrName", laid_bollard_api_ErrName), ("bollard/api.ErrGone", laid_bollard_api_ErrGone), ("bollard/api.ErrThere", laid_bollard_api_ErrThere), ("bollard/api.ErrFull", laid_bollard_api_ErrFull), ("bollard/api.ErrLarge", laid_bollard_api_ErrLarge), ("bollard/api.ErrBallot", laid_bollard_api_ErrBallot), ("bollard/api.ErrRequest", laid_bollard_api_ErrRequest), ("bollard/api.ErrUri", laid_bollard_api_ErrUri), ("bollard/api.ErrDenied", laid_bollard_api_ErrDenied), ("bollard/api.ErrSkew", laid_bollard_api_ErrSkew), ("bollard/api.ErrMethod", laid_bollard_api_ErrMethod), ("bollard/api.ErrState", laid_bollard_api_ErrState)] }
def RoundPlaysSaid : Prop := roundPlaysRow.holds Tryd.pinned (OpenSpec.ofChange roundPlaysSpec)

/-- ITS FALSE NEIGHBOUR: 'it returns false'. Refute it at one input. -/
def roundPlaysWrong : ChangeSpec := { name := "roundPlays", fn := fun _ => fun
  | [d1, d2, d3] => { results := [.lit (.bool false)], args := [d1, d2, d3] }
  | _ => none }
def RoundPlaysWrongFalsely : Prop := roundPlaysRow.holds Tryd.pinned (OpenSpec.ofChange roundPlaysWrong)

/-- 'bollardlaw13.RoundAgrees': WHATEVER THE INPUT: true; the input reads as it did. -/
def roundAgreesSpec : ChangeSpec := { name := "roundAgrees", fn := fun _ => fun
  | [d1, d2] => { results := [.lit (.bool true)], args := [d1, d2] }
  | _ => none }
def roundAgreesRow : OpenClaim := { program := "ytnlncfjibbdimaadoor", sum := "c6d422431e70bf5940958c55e6d60c111bc97632692d4ae99fa97d6a8f60031e", func := "bollard/bollardlaw13.RoundAgrees", spec := "roundAgrees", inPlace := ["internal/bytealg.IndexByteString"], unfollowed := true, recurses := true, named := ["bollard/api.ErrNumber", "bollard/api.ErrState", "bollard/api.ErrBallot", "bollard/api.ErrFull", "bollard/api.ErrGone"], apart := false, laid := [("bollard/api.ErrNumber", laid_bollard_api_ErrNumber), ("bollard/api.ErrGone", laid_bollard_api_ErrGone), ("bollard/api.ErrFull", laid_bollard_api_ErrFull), ("bollard/api.ErrBallot", laid_bollard_api_ErrBallot), ("bollard/api.ErrState", laid_bollard_api_ErrState)] }
def RoundAgreesSaid : Prop := roundAgreesRow.holds Tryd.pinned (OpenSpec.ofChange roundAgreesSpec)

/-- ITS FALSE NEIGHBOUR: 'it returns false'. Refute it at one input. -/
def roundAgreesWrong : ChangeSpec := { name := "roundAgrees", fn := fun _ => fun
  | [d1, d2] => { results := [.lit (.bool false)], args := [d1, d2] }
  | _ => none }
def RoundAgreesWrongFalsely : Prop := roundAgreesRow.holds Tryd.pinned (OpenSpec.ofChange roundAgreesWrong)

/-- 'bollardlaw10.CommandLedgers': WHATEVER THE INPUT: true; the input reads as it did. -/
def commandLedgersSpec : ChangeSpec := { name := "commandLedgers", fn := fun _ => fun
  | [d] => { results := [.lit (.bool true)], args := [d] }
  | _ => none }
def commandLedgersRow : OpenClaim := { program := "ytnlncfjibbdimaadoor", sum := "c6d422431e70bf5940958c55e6d60c111bc97632692d4ae99fa97d6a8f60031e", func := "bollard/bollardlaw10.CommandLedgers", spec := "commandLedgers", inPlace := ["internal/bytealg.IndexByteString"], unfollowed := true, recurses := true, named := ["bollard/api.ErrState", "bollard/api.ErrNumber", "bollard/api.ErrLarge", "bollard/api.ErrParams", "bollard/api.ErrData", "bollard/api.ErrLost", "bollard/api.ErrBytes", "bollard/api.ErrDigest", "bollard/api.ErrName", "bollard/api.ErrGone", "bollard/api.ErrThere", "bollard/api.ErrFull", "bollard/api.ErrBallot", "bollard/api.ErrRequest", "bollard/api.ErrUri", "bollard/api.ErrDenied", "bollard/api.ErrSkew", "bollard/api.ErrMethod"], apart := false, laid := [("bollard/api.ErrParams", laid_bollard_api_ErrParams), ("bollard/api.ErrNumber", laid_bollard_api_ErrNumber), ("bollard/api.ErrData", laid_bollard_api_ErrData), ("bollard/api.ErrLost", laid_bollard_api_ErrLost), ("bollard/api.ErrBytes", laid_bollard_api_ErrBytes), ("bollard/api.ErrDigest", laid_bollard_api_ErrDigest), ("bollard/api.ErrName", laid_bollard_api_ErrName), ("bollard/api.ErrGone", laid_bollard_api_ErrGone), ("bollard/api.ErrThere", laid_bollard_api_ErrThere), ("bollard/api.ErrFull", laid_bollard_api_ErrFull), ("bollard/api.ErrLarge", laid_bollard_api_ErrLarge), ("bollard/api.ErrBallot", laid_bollard_api_ErrBallot), ("bollard/api.ErrRequest", laid_bollard_api_ErrRequest), ("bollard/api.ErrUri", laid_bollard_api_ErrUri), ("bollard/api.ErrDenied", laid_bollard_api_ErrDenied), ("bollard/api.ErrSkew", laid_bollard_api_ErrSkew), ("bollard/api.ErrMethod", laid_bollard_api_ErrMethod), ("bollard/api.ErrState", laid_bollard_api_ErrState)] }
def CommandLedgersSaid : Prop := commandLedgersRow.holds Tryd.pinned (OpenSpec.ofChange commandLedgersSpec)

/-- ITS FALSE NEIGHBOUR: 'it returns false'. Refute it at one input. -/
def commandLedgersWrong : ChangeSpec := { name := "commandLedgers", fn := fun _ => fun
  | [d] => { results := [.lit (.bool false)], args := [d] }
  | _ => none }
def CommandLedgersWrongFalsely : Prop := commandLedgersRow.holds Tryd.pinned (OpenSpec.ofChange commandLedgersWrong)

/-- 'bollardlaw10.CommandReads': WHATEVER THE INPUT: true; the input reads as it did. -/
def commandReadsSpec : ChangeSpec := { name := "commandReads", fn := fun _ => fun
  | [d] => { results := [.lit (.bool true)], args := [d] }
  | _ => none }
def commandReadsRow : OpenClaim := { program := "ytnlncfjibbdimaadoor", sum := "c6d422431e70bf5940958c55e6d60c111bc97632692d4ae99fa97d6a8f60031e", func := "bollard/bollardlaw10.CommandReads", spec := "commandReads", inPlace := ["internal/bytealg.IndexByteString"], unfollowed := true, recurses := true, named := ["bollard/api.ErrState", "bollard/api.ErrNumber", "bollard/api.ErrBytes", "bollard/api.ErrDigest", "bollard/api.ErrParams", "bollard/api.ErrData", "bollard/api.ErrLost", "bollard/api.ErrName", "bollard/api.ErrGone", "bollard/api.ErrThere", "bollard/api.ErrFull", "bollard/api.ErrLarge", "bollard/api.ErrBallot", "bollard/api.ErrRequest", "bollard/api.ErrUri", "bollard/api.ErrDenied", "bollard/api.ErrSkew", "bollard/api.ErrMethod"], apart := false, laid := [("bollard/api.ErrParams", laid_bollard_api_ErrParams), ("bollard/api.ErrNumber", laid_bollard_api_ErrNumber), ("bollard/api.ErrData", laid_bollard_api_ErrData), ("bollard/api.ErrLost", laid_bollard_api_ErrLost), ("bollard/api.ErrBytes", laid_bollard_api_ErrBytes), ("bollard/api.ErrDigest", laid_bollard_api_ErrDigest), ("bollard/api.ErrName", laid_bollard_api_ErrName), ("bollard/api.ErrGone", laid_bollard_api_ErrGone), ("bollard/api.ErrThere", laid_bollard_api_ErrThere), ("bollard/api.ErrFull", laid_bollard_api_ErrFull), ("bollard/api.ErrLarge", laid_bollard_api_ErrLarge), ("bollard/api.ErrBallot", laid_bollard_api_ErrBallot), ("bollard/api.ErrRequest", laid_bollard_api_ErrRequest), ("bollard/api.ErrUri", laid_bollard_api_ErrUri), ("bollard/api.ErrDenied", laid_bollard_api_ErrDenied), ("bollard/api.ErrSkew", laid_bollard_api_ErrSkew), ("bollard/api.ErrMethod", laid_bollard_api_ErrMethod), ("bollard/api.ErrState", laid_bollard_api_ErrState)] }
def CommandReadsSaid : Prop := commandReadsRow.holds Tryd.pinned (OpenSpec.ofChange commandReadsSpec)

/-- ITS FALSE NEIGHBOUR: 'it returns false'. Refute it at one input. -/
def commandReadsWrong : ChangeSpec := { name := "commandReads", fn := fun _ => fun
  | [d] => { results := [.lit (.bool false)], args := [d] }
  | _ => none }
def CommandReadsWrongFalsely : Prop := commandReadsRow.holds Tryd.pinned (OpenSpec.ofChange commandReadsWrong)

/-- 'bollardlaw10.CommandLengths': WHATEVER THE INPUT: true; the input reads as it did. -/
def commandLengthsSpec : ChangeSpec := { name := "commandLengths", fn := fun _ => fun
  | [d1, d2] => { results := [.lit (.bool true)], args := [d1, d2] }
  | _ => none }
def commandLengthsRow : OpenClaim := { program := "ytnlncfjibbdimaadoor", sum := "c6d422431e70bf5940958c55e6d60c111bc97632692d4ae99fa97d6a8f60031e", func := "bollard/bollardlaw10.CommandLengths", spec := "commandLengths", inPlace := ["internal/bytealg.IndexByteString"], unfollowed := true, recurses := true, named := ["bollard/api.ErrState", "bollard/api.ErrNumber", "bollard/api.ErrLarge", "bollard/api.ErrBytes", "bollard/api.ErrDigest"], apart := false, laid := [("bollard/api.ErrNumber", laid_bollard_api_ErrNumber), ("bollard/api.ErrBytes", laid_bollard_api_ErrBytes), ("bollard/api.ErrDigest", laid_bollard_api_ErrDigest), ("bollard/api.ErrLarge", laid_bollard_api_ErrLarge), ("bollard/api.ErrState", laid_bollard_api_ErrState)] }
def CommandLengthsSaid : Prop := commandLengthsRow.holds Tryd.pinned (OpenSpec.ofChange commandLengthsSpec)

/-- ITS FALSE NEIGHBOUR: 'it returns false'. Refute it at one input. -/
def commandLengthsWrong : ChangeSpec := { name := "commandLengths", fn := fun _ => fun
  | [d1, d2] => { results := [.lit (.bool false)], args := [d1, d2] }
  | _ => none }
def CommandLengthsWrongFalsely : Prop := commandLengthsRow.holds Tryd.pinned (OpenSpec.ofChange commandLengthsWrong)

/-- 'bollardlaw15.PostPuts': WHATEVER THE INPUT: true; the input reads as it did. -/
def postPutsSpec : ChangeSpec := { name := "postPuts", fn := fun _ => fun
  | [d] => { results := [.lit (.bool true)], args := [d] }
  | _ => none }
def postPutsRow : OpenClaim := { program := "ytnlncfjibbdimaadoor", sum := "c6d422431e70bf5940958c55e6d60c111bc97632692d4ae99fa97d6a8f60031e", func := "bollard/bollardlaw15.PostPuts", spec := "postPuts", inPlace := ["internal/bytealg.IndexByteString"], unfollowed := true, recurses := true, named := ["bollard/api.ErrState", "bollard/api.ErrLarge", "bollard/api.ErrNumber", "bollard/api.ErrBytes", "bollard/api.ErrDigest"], apart := false, laid := [("bollard/api.ErrNumber", laid_bollard_api_ErrNumber), ("bollard/api.ErrBytes", laid_bollard_api_ErrBytes), ("bollard/api.ErrDigest", laid_bollard_api_ErrDigest), ("bollard/api.ErrLarge", laid_bollard_api_ErrLarge), ("bollard/api.ErrState", laid_bollard_api_ErrState)] }
def PostPutsSaid : Prop := postPutsRow.holds Tryd.pinned (OpenSpec.ofChange postPutsSpec)

/-- ITS FALSE NEIGHBOUR: 'it returns false'. Refute it at one input. -/
def postPutsWrong : ChangeSpec := { name := "postPuts", fn := fun _ => fun
  | [d] => { results := [.lit (.bool false)], args := [d] }
  | _ => none }
def PostPutsWrongFalsely : Prop := postPutsRow.holds Tryd.pinned (OpenSpec.ofChange postPutsWrong)

/-- 'bollardlaw15.PostGets': WHATEVER THE INPUT: true; the input reads as it did. -/
def postGetsSpec : ChangeSpec := { name := "postGets", fn := fun _ => fun
  | [d] => { results := [.lit (.bool true)], args := [d] }
  | _ => none }
def postGetsRow : OpenClaim := { program := "ytnlncfjibbdimaadoor", sum := "c6d422431e70bf5940958c55e6d60c111bc97632692d4ae99fa97d6a8f60031e", func := "bollard/bollardlaw15.PostGets", spec := "postGets", inPlace := ["internal/bytealg.IndexByteString"], unfollowed := true, recurses := true, named := ["bollard/api.ErrState", "bollard/api.ErrLarge", "bollard/api.ErrNumber", "bollard/api.ErrBytes", "bollard/api.ErrDigest", "bollard/api.ErrParams", "bollard/api.ErrData", "bollard/api.ErrLost", "bollard/api.ErrName", "bollard/api.ErrGone", "bollard/api.ErrThere", "bollard/api.ErrFull", "bollard/api.ErrBallot", "bollard/api.ErrRequest", "bollard/api.ErrUri", "bollard/api.ErrDenied", "bollard/api.ErrSkew", "bollard/api.ErrMethod"], apart := false, laid := [("bollard/api.ErrParams", laid_bollard_api_ErrParams), ("bollard/api.ErrNumber", laid_bollard_api_ErrNumber), ("bollard/api.ErrData", laid_bollard_api_ErrData), ("bollard/api.ErrLost", laid_bollard_api_ErrLost), ("bollard/api.ErrBytes", laid_bollard_api_ErrBytes), ("bollard/api.ErrDigest", laid_bollard_api_ErrDigest), ("bollard/api.ErrName", laid_bollard_api_ErrName), ("bollard/api.ErrGone", laid_bollard_api_ErrGone), ("bollard/api.ErrThere", laid_bollard_api_ErrThere), ("bollard/api.ErrFull", laid_bollard_api_ErrFull), ("bollard/api.ErrLarge", laid_bollard_api_ErrLarge), ("bollard/api.ErrBallot", laid_bollard_api_ErrBallot), ("bollard/api.ErrRequest", laid_bollard_api_ErrRequest), ("bollard/api.ErrUri", laid_bollard_api_ErrUri), ("bollard/api.ErrDenied", laid_bollard_api_ErrDenied), ("bollard/api.ErrSkew", laid_bollard_api_ErrSkew), ("bollard/api.ErrMethod", laid_bollard_api_ErrMethod), ("bollard/api.ErrState", laid_bollard_api_ErrState)] }
def PostGetsSaid : Prop := postGetsRow.holds Tryd.pinned (OpenSpec.ofChange postGetsSpec)

/-- ITS FALSE NEIGHBOUR: 'it returns false'. Refute it at one input. -/
def postGetsWrong : ChangeSpec := { name := "postGets", fn := fun _ => fun
  | [d] => { results := [.lit (.bool false)], args := [d] }
  | _ => none }
def PostGetsWrongFalsely : Prop := postGetsRow.holds Tryd.pinned (OpenSpec.ofChange postGetsWrong)

/-- 'bollardlaw15.PostSlips': WHATEVER THE INPUT: true; the input reads as it did. -/
def postSlipsSpec : ChangeSpec := { name := "postSlips", fn := fun _ => fun
  | [d1, d2, d3] => { results := [.lit (.bool true)], args := [d1, d2, d3] }
  | _ => none }
def postSlipsRow : OpenClaim := { program := "ytnlncfjibbdimaadoor", sum := "c6d422431e70bf5940958c55e6d60c111bc97632692d4ae99fa97d6a8f60031e", func := "bollard/bollardlaw15.PostSlips", spec := "postSlips", inPlace := ["internal/bytealg.IndexByteString"], unfollowed := true, recurses := true, named := ["bollard/api.ErrState", "bollard/api.ErrLarge", "bollard/api.ErrNumber", "bollard/api.ErrBytes", "bollard/api.ErrDigest"], apart := false, laid := [("bollard/api.ErrNumber", laid_bollard_api_ErrNumber), ("bollard/api.ErrBytes", laid_bollard_api_ErrBytes), ("bollard/api.ErrDigest", laid_bollard_api_ErrDigest), ("bollard/api.ErrLarge", laid_bollard_api_ErrLarge), ("bollard/api.ErrState", laid_bollard_api_ErrState)] }
def PostSlipsSaid : Prop := postSlipsRow.holds Tryd.pinned (OpenSpec.ofChange postSlipsSpec)

/-- ITS FALSE NEIGHBOUR: 'it returns false'. Refute it at one input. -/
def postSlipsWrong : ChangeSpec := { name := "postSlips", fn := fun _ => fun
  | [d1, d2, d3] => { results := [.lit (.bool false)], args := [d1, d2, d3] }
  | _ => none }
def PostSlipsWrongFalsely : Prop := postSlipsRow.holds Tryd.pinned (OpenSpec.ofChange postSlipsWrong)

/-- 'bollardlaw15.PostUnlike': WHATEVER THE INPUT: true; the input reads as it did. -/
def postUnlikeSpec : ChangeSpec := { name := "postUnlike", fn := fun _ => fun
  | [d1, d2] => { results := [.lit (.bool true)], args := [d1, d2] }
  | _ => none }
def postUnlikeRow : OpenClaim := { program := "ytnlncfjibbdimaadoor", sum := "c6d422431e70bf5940958c55e6d60c111bc97632692d4ae99fa97d6a8f60031e", func := "bollard/bollardlaw15.PostUnlike", spec := "postUnlike", inPlace := ["internal/bytealg.IndexByteString"], unfollowed := true, recurses := true, named := ["bollard/api.ErrState", "bollard/api.ErrLarge", "bollard/api.ErrNumber", "bollard/api.ErrBytes", "bollard/api.ErrDigest"], apart := false, laid := [("bollard/api.ErrNumber", laid_bollard_api_ErrNumber), ("bollard/api.ErrBytes", laid_bollard_api_ErrBytes), ("bollard/api.ErrDigest", laid_bollard_api_ErrDigest), ("bollard/api.ErrLarge", laid_bollard_api_ErrLarge), ("bollard/api.ErrState", laid_bollard_api_ErrState)] }
def PostUnlikeSaid : Prop := postUnlikeRow.holds Tryd.pinned (OpenSpec.ofChange postUnlikeSpec)

/-- ITS FALSE NEIGHBOUR: 'it returns false'. Refute it at one input. -/
def postUnlikeWrong : ChangeSpec := { name := "postUnlike", fn := fun _ => fun
  | [d1, d2] => { results := [.lit (.bool false)], args := [d1, d2] }
  | _ => none }
def PostUnlikeWrongFalsely : Prop := postUnlikeRow.holds Tryd.pinned (OpenSpec.ofChange postUnlikeWrong)

/- THE SECOND FORM. 'bulk': how many values and letters a reading holds, each counted each time it is reached (what is shared counts as often as it is met; a slice's spare places count too). A statement '..UptoSaid' is the law's where the arguments, and the package variables that the reading takes, are together of bulk at most 1048576: NARROWER than '..Said'. Prove '..Said' where nothing that the law and all that it calls make is longer than what came in: it says more and counts as full. Else prove '..UptoSaid'. A law counts once. -/
mutual
def uptoBulk {H : Type} : DataW H → Nat
  | .lit (.string bytes) => bytes.length + 1
  | .lit _ => 1
  | .nil => 1
  | .ptr d => uptoBulk d + 1
  | .slice elems spare => uptoBulkAll elems + uptoBulkAll spare + 1
  | .agg parts => uptoBulkAll parts + 1
  | .iface _ d => uptoBulk d + 1
  | .map entries => uptoBulkEntries entries + 1
  | .held _ => 1
def uptoBulkAll {H : Type} : List (DataW H) → Nat
  | [] => 0
  | d :: r => uptoBulk d + uptoBulkAll r
def uptoBulkEntries {H : Type} : List (Lit × DataW H) → Nat
  | [] => 0
  | x :: r => uptoBulkEntry x + uptoBulkEntries r
def uptoBulkEntry {H : Type} : Lit × DataW H → Nat
  | (.string bytes, d) => bytes.length + uptoBulk d + 1
  | (_, d) => uptoBulk d + 1
 end
def uptoSmall : (H : Type) → List (DataW H) → Bool := fun _ ds => decide (uptoBulkAll ds ≤ 1048576)
def OpenSpec.upto (s : _root_.Go.ChangeSpec) : _root_.Go.OpenSpec := { _root_.Go.OpenSpec.ofChange s with cond := some uptoSmall }

/-- 'bollardlaw09.BallotNumbers', WHERE WHAT IT READS IS OF BULK AT MOST 1048576: true; the input reads as it did. -/
def ballotNumbersUptoRow : OpenClaim := { program := "ytnlncfjibbdimaadoor", sum := "c6d422431e70bf5940958c55e6d60c111bc97632692d4ae99fa97d6a8f60031e", func := "bollard/bollardlaw09.BallotNumbers", spec := "ballotNumbers", named := ["bollard/api.ErrBallot", "bollard/api.ErrNumber"], apart := false, laid := [("bollard/api.ErrNumber", laid_bollard_api_ErrNumber), ("bollard/api.ErrBallot", laid_bollard_api_ErrBallot)], narrowed := true }
def BallotNumbersUptoSaid : Prop := ballotNumbersUptoRow.holds Tryd.pinned (OpenSpec.upto ballotNumbersSpec)

/-- 'bollardlaw09.BallotAgrees', WHERE WHAT IT READS IS OF BULK AT MOST 1048576: true; the input reads as it did. -/
def ballotAgreesUptoRow : OpenClaim := { program := "ytnlncfjibbdimaadoor", sum := "c6d422431e70bf5940958c55e6d60c111bc97632692d4ae99fa97d6a8f60031e", func := "bollard/bollardlaw09.BallotAgrees", spec := "ballotAgrees", named := ["bollard/api.ErrBallot", "bollard/api.ErrNumber"], apart := false, laid := [("bollard/api.ErrNumber", laid_bollard_api_ErrNumber), ("bollard/api.ErrBallot", laid_bollard_api_ErrBallot)], narrowed := true }
def BallotAgreesUptoSaid : Prop := ballotAgreesUptoRow.holds Tryd.pinned (OpenSpec.upto ballotAgreesSpec)

/-- 'bollardlaw09.BallotPlays', WHERE WHAT IT READS IS OF BULK AT MOST 1048576: true; the input reads as it did. -/
def ballotPlaysUptoRow : OpenClaim := { program := "ytnlncfjibbdimaadoor", sum := "c6d422431e70bf5940958c55e6d60c111bc97632692d4ae99fa97d6a8f60031e", func := "bollard/bollardlaw09.BallotPlays", spec := "ballotPlays", named := ["bollard/api.ErrNumber", "bollard/api.ErrBallot", "bollard/api.ErrParams", "bollard/api.ErrData", "bollard/api.ErrLost", "bollard/api.ErrBytes", "bollard/api.ErrDigest", "bollard/api.ErrName", "bollard/api.ErrGone", "bollard/api.ErrThere", "bollard/api.ErrFull", "bollard/api.ErrLarge", "bollard/api.ErrRequest", "bollard/api.ErrUri", "bollard/api.ErrDenied", "bollard/api.ErrSkew", "bollard/api.ErrMethod", "bollard/api.ErrState"], apart := false, laid := [("bollard/api.ErrParams", laid_bollard_api_ErrParams), ("bollard/api.ErrNumber", laid_bollard_api_ErrNumber), ("bollard/api.ErrData", laid_bollard_api_ErrData), ("bollard/api.ErrLost", laid_bollard_api_ErrLost), ("bollard/api.ErrBytes", laid_bollard_api_ErrBytes), ("bollard/api.ErrDigest", laid_bollard_api_ErrDigest), ("bollard/api.ErrName", laid_bollard_api_ErrName), ("bollard/api.ErrGone", laid_bollard_api_ErrGone), ("bollard/api.ErrThere", laid_bollard_api_ErrThere), ("bollard/api.ErrFull", laid_bollard_api_ErrFull), ("bollard/api.ErrLarge", laid_bollard_api_ErrLarge), ("bollard/api.ErrBallot", laid_bollard_api_ErrBallot), ("bollard/api.ErrRequest", laid_bollard_api_ErrRequest), ("bollard/api.ErrUri", laid_bollard_api_ErrUri), ("bollard/api.ErrDenied", laid_bollard_api_ErrDenied), ("bollard/api.ErrSkew", laid_bollard_api_ErrSkew), ("bollard/api.ErrMethod", laid_bollard_api_ErrMethod), ("bollard/api.ErrState", laid_bollard_api_ErrState)], narrowed := true }
def BallotPlaysUptoSaid : Prop := ballotPlaysUptoRow.holds Tryd.pinned (OpenSpec.upto ballotPlaysSpec)

/-- 'bollardlaw09.BallotRises', WHERE WHAT IT READS IS OF BULK AT MOST 1048576: true; the input reads as it did. -/
def ballotRisesUptoRow : OpenClaim := { program := "ytnlncfjibbdimaadoor", sum := "c6d422431e70bf5940958c55e6d60c111bc97632692d4ae99fa97d6a8f60031e", func := "bollard/bollardlaw09.BallotRises", spec := "ballotRises", named := ["bollard/api.ErrBallot", "bollard/api.ErrNumber", "bollard/api.ErrFull"], apart := false, laid := [("bollard/api.ErrNumber", laid_bollard_api_ErrNumber), ("bollard/api.ErrFull", laid_bollard_api_ErrFull), ("bollard/api.ErrBallot", laid_bollard_api_ErrBallot)], narrowed := true }
def BallotRisesUptoSaid : Prop := ballotRisesUptoRow.holds Tryd.pinned (OpenSpec.upto ballotRisesSpec)

/-- 'bollardlaw10.CommandNames', WHERE WHAT IT READS IS OF BULK AT MOST 1048576: true; the input reads as it did. -/
def commandNamesUptoRow : OpenClaim := { program := "ytnlncfjibbdimaadoor", sum := "c6d422431e70bf5940958c55e6d60c111bc97632692d4ae99fa97d6a8f60031e", func := "bollard/bollardlaw10.CommandNames", spec := "commandNames", inPlace := ["internal/bytealg.IndexByteString"], named := ["bollard/api.ErrState", "bollard/api.ErrNumber"], apart := false, laid := [("bollard/api.ErrNumber", laid_bollard_api_ErrNumber), ("bollard/api.ErrState", laid_bollard_api_ErrState)], narrowed := true }
def CommandNamesUptoSaid : Prop := commandNamesUptoRow.holds Tryd.pinned (OpenSpec.upto commandNamesSpec)

/-- 'bollardlaw10.CommandForms', WHERE WHAT IT READS IS OF BULK AT MOST 1048576: true; the input reads as it did. -/
def commandFormsUptoRow : OpenClaim := { program := "ytnlncfjibbdimaadoor", sum := "c6d422431e70bf5940958c55e6d60c111bc97632692d4ae99fa97d6a8f60031e", func := "bollard/bollardlaw10.CommandForms", spec := "commandForms", inPlace := ["internal/bytealg.IndexByteString"], unfollowed := true, recurses := true, named := ["bollard/api.ErrState", "bollard/api.ErrNumber", "bollard/api.ErrBytes"], apart := false, laid := [("bollard/api.ErrNumber", laid_bollard_api_ErrNumber), ("bollard/api.ErrBytes", laid_bollard_api_ErrBytes), ("bollard/api.ErrState", laid_bollard_api_ErrState)], narrowed := true }
def CommandFormsUptoSaid : Prop := commandFormsUptoRow.holds Tryd.pinned (OpenSpec.upto commandFormsSpec)

/-- 'bollardlaw10.CommandGets', WHERE WHAT IT READS IS OF BULK AT MOST 1048576: true; the input reads as it did. -/
def commandGetsUptoRow : OpenClaim := { program := "ytnlncfjibbdimaadoor", sum := "c6d422431e70bf5940958c55e6d60c111bc97632692d4ae99fa97d6a8f60031e", func := "bollard/bollardlaw10.CommandGets", spec := "commandGets", inPlace := ["internal/bytealg.IndexByteString"], unfollowed := true, recurses := true, named := ["bollard/api.ErrBytes", "bollard/api.ErrState", "bollard/api.ErrNumber"], apart := false, laid := [("bollard/api.ErrNumber", laid_bollard_api_ErrNumber), ("bollard/api.ErrBytes", laid_bollard_api_ErrBytes), ("bollard/api.ErrState", laid_bollard_api_ErrState)], narrowed := true }
def CommandGetsUptoSaid : Prop := commandGetsUptoRow.holds Tryd.pinned (OpenSpec.upto commandGetsSpec)

/-- 'bollardlaw13.RoundNewest', WHERE WHAT IT READS IS OF BULK AT MOST 1048576: true; the input reads as it did. -/
def roundNewestUptoRow : OpenClaim := { program := "ytnlncfjibbdimaadoor", sum := "c6d422431e70bf5940958c55e6d60c111bc97632692d4ae99fa97d6a8f60031e", func := "bollard/bollardlaw13.RoundNewest", spec := "roundNewest", inPlace := ["internal/bytealg.IndexByteString"], unfollowed := true, recurses := true, named := ["bollard/api.ErrNumber", "bollard/api.ErrState", "bollard/api.ErrBallot", "bollard/api.ErrFull", "bollard/api.ErrGone"], apart := false, laid := [("bollard/api.ErrNumber", laid_bollard_api_ErrNumber), ("bollard/api.ErrGone", laid_bollard_api_ErrGone), ("bollard/api.ErrFull", laid_bollard_api_ErrFull), ("bollard/api.ErrBallot", laid_bollard_api_ErrBallot), ("bollard/api.ErrState", laid_bollard_api_ErrState)], narrowed := true }
def RoundNewestUptoSaid : Prop := roundNewestUptoRow.holds Tryd.pinned (OpenSpec.upto roundNewestSpec)

/-- 'bollardlaw13.RoundHalves', WHERE WHAT IT READS IS OF BULK AT MOST 1048576: true; the input reads as it did. -/
def roundHalvesUptoRow : OpenClaim := { program := "ytnlncfjibbdimaadoor", sum := "c6d422431e70bf5940958c55e6d60c111bc97632692d4ae99fa97d6a8f60031e", func := "bollard/bollardlaw13.RoundHalves", spec := "roundHalves", inPlace := ["internal/bytealg.IndexByteString"], unfollowed := true, recurses := true, named := ["bollard/api.ErrNumber", "bollard/api.ErrState", "bollard/api.ErrBallot", "bollard/api.ErrFull", "bollard/api.ErrGone"], apart := false, laid := [("bollard/api.ErrNumber", laid_bollard_api_ErrNumber), ("bollard/api.ErrGone", laid_bollard_api_ErrGone), ("bollard/api.ErrFull", laid_bollard_api_ErrFull), ("bollard/api.ErrBallot", laid_bollard_api_ErrBallot), ("bollard/api.ErrState", laid_bollard_api_ErrState)], narrowed := true }
def RoundHalvesUptoSaid : Prop := roundHalvesUptoRow.holds Tryd.pinned (OpenSpec.upto roundHalvesSpec)

/-- 'bollardlaw13.RoundReads', WHERE WHAT IT READS IS OF BULK AT MOST 1048576: true; the input reads as it did. -/
def roundReadsUptoRow : OpenClaim := { program := "ytnlncfjibbdimaadoor", sum := "c6d422431e70bf5940958c55e6d60c111bc97632692d4ae99fa97d6a8f60031e", func := "bollard/bollardlaw13.RoundReads", spec := "roundReads", inPlace := ["internal/bytealg.IndexByteString"], unfollowed := true, recurses := true, named := ["bollard/api.ErrState", "bollard/api.ErrNumber", "bollard/api.ErrBallot", "bollard/api.ErrFull", "bollard/api.ErrGone"], apart := false, laid := [("bollard/api.ErrNumber", laid_bollard_api_ErrNumber), ("bollard/api.ErrGone", laid_bollard_api_ErrGone), ("bollard/api.ErrFull", laid_bollard_api_ErrFull), ("bollard/api.ErrBallot", laid_bollard_api_ErrBallot), ("bollard/api.ErrState", laid_bollard_api_ErrState)], narrowed := true }
def RoundReadsUptoSaid : Prop := roundReadsUptoRow.holds Tryd.pinned (OpenSpec.upto roundReadsSpec)

/-- 'bollardlaw13.RoundPlays', WHERE WHAT IT READS IS OF BULK AT MOST 1048576: true; the input reads as it did. -/
def roundPlaysUptoRow : OpenClaim := { program := "ytnlncfjibbdimaadoor", sum := "c6d422431e70bf5940958c55e6d60c111bc97632692d4ae99fa97d6a8f60031e", func := "bollard/bollardlaw13.RoundPlays", spec := "roundPlays", inPlace := ["internal/bytealg.IndexByteString"], unfollowed := true, recurses := true, named := ["bollard/api.ErrNumber", "bollard/api.ErrState", "bollard/api.ErrBallot", "bollard/api.ErrFull", "bollard/api.ErrGone", "bollard/api.ErrParams", "bollard/api.ErrData", "bollard/api.ErrLost", "bollard/api.ErrBytes", "bollard/api.ErrDigest", "bollard/api.ErrName", "bollard/api.ErrThere", "bollard/api.ErrLarge", "bollard/api.ErrRequest", "bollard/api.ErrUri", "bollard/api.ErrDenied", "bollard/api.ErrSkew", "bollard/api.ErrMethod"], apart := false, laid := [("bollard/api.ErrParams", laid_bollard_api_ErrParams), ("bollard/api.ErrNumber", laid_bollard_api_ErrNumber), ("bollard/api.ErrData", laid_bollard_api_ErrData), ("bollard/api.ErrLost", laid_bollard_api_ErrLost), ("bollard/api.ErrBytes", laid_bollard_api_ErrBytes), ("bollard/api.ErrDigest", laid_bollard_api_ErrDigest), ("bollard/api.ErrName", laid_bollard_api_ErrName), ("bollard/api.ErrGone", laid_bollard_api_ErrGone), ("bollard/api.ErrThere", laid_bollard_api_ErrThere), ("bollard/api.ErrFull", laid_bollard_api_ErrFull), ("bollard/api.ErrLarge", laid_bollard_api_ErrLarge), ("bollard/api.ErrBallot", laid_bollard_api_ErrBallot), ("bollard/api.ErrRequest", laid_bollard_api_ErrRequest), ("bollard/api.ErrUri", laid_bollard_api_ErrUri), ("bollard/api.ErrDenied", laid_bollard_api_ErrDenied), ("bollard/api.ErrSkew", laid_bollard_api_ErrSkew), ("bollard/api.ErrMethod", laid_bollard_api_ErrMethod), ("bollard/api.ErrState", laid_bollard_api_ErrState)], narrowed := true }
def RoundPlaysUptoSaid : Prop := roundPlaysUptoRow.holds Tryd.pinned (OpenSpec.upto roundPlaysSpec)

/-- 'bollardlaw13.RoundAgrees', WHERE WHAT IT READS IS OF BULK AT MOST 1048576: true; the input reads as it did. -/
def roundAgreesUptoRow : OpenClaim := { program := "ytnlncfjibbdimaadoor", sum := "c6d422431e70bf5940958c55e6d60c111bc97632692d4ae99fa97d6a8f60031e", func := "bollard/bollardlaw13.RoundAgrees", spec := "roundAgrees", inPlace := ["internal/bytealg.IndexByteString"], unfollowed := true, recurses := true, named := ["bollard/api.ErrNumber", "bollard/api.ErrState", "bollard/api.ErrBallot", "bollard/api.ErrFull", "bollard/api.ErrGone"], apart := false, laid := [("bollard/api.ErrNumber", laid_bollard_api_ErrNumber), ("bollard/api.ErrGone", laid_bollard_api_ErrGone), ("bollard/api.ErrFull", laid_bollard_api_ErrFull), ("bollard/api.ErrBallot", laid_bollard_api_ErrBallot), ("bollard/api.ErrState", laid_bollard_api_ErrState)], narrowed := true }
def RoundAgreesUptoSaid : Prop := roundAgreesUptoRow.holds Tryd.pinned (OpenSpec.upto roundAgreesSpec)

/-- 'bollardlaw10.CommandLedgers', WHERE WHAT IT READS IS OF BULK AT MOST 1048576: true; the input reads as it did. -/
def commandLedgersUptoRow : OpenClaim := { program := "ytnlncfjibbdimaadoor", sum := "c6d422431e70bf5940958c55e6d60c111bc97632692d4ae99fa97d6a8f60031e", func := "bollard/bollardlaw10.CommandLedgers", spec := "commandLedgers", inPlace := ["internal/bytealg.IndexByteString"], unfollowed := true, recurses := true, named := ["bollard/api.ErrState", "bollard/api.ErrNumber", "bollard/api.ErrLarge", "bollard/api.ErrParams", "bollard/api.ErrData", "bollard/api.ErrLost", "bollard/api.ErrBytes", "bollard/api.ErrDigest", "bollard/api.ErrName", "bollard/api.ErrGone", "bollard/api.ErrThere", "bollard/api.ErrFull", "bollard/api.ErrBallot", "bollard/api.ErrRequest", "bollard/api.ErrUri", "bollard/api.ErrDenied", "bollard/api.ErrSkew", "bollard/api.ErrMethod"], apart := false, laid := [("bollard/api.ErrParams", laid_bollard_api_ErrParams), ("bollard/api.ErrNumber", laid_bollard_api_ErrNumber), ("bollard/api.ErrData", laid_bollard_api_ErrData), ("bollard/api.ErrLost", laid_bollard_api_ErrLost), ("bollard/api.ErrBytes", laid_bollard_api_ErrBytes), ("bollard/api.ErrDigest", laid_bollard_api_ErrDigest), ("bollard/api.ErrName", laid_bollard_api_ErrName), ("bollard/api.ErrGone", laid_bollard_api_ErrGone), ("bollard/api.ErrThere", laid_bollard_api_ErrThere), ("bollard/api.ErrFull", laid_bollard_api_ErrFull), ("bollard/api.ErrLarge", laid_bollard_api_ErrLarge), ("bollard/api.ErrBallot", laid_bollard_api_ErrBallot), ("bollard/api.ErrRequest", laid_bollard_api_ErrRequest), ("bollard/api.ErrUri", laid_bollard_api_ErrUri), ("bollard/api.ErrDenied", laid_bollard_api_ErrDenied), ("bollard/api.ErrSkew", laid_bollard_api_ErrSkew), ("bollard/api.ErrMethod", laid_bollard_api_ErrMethod), ("bollard/api.ErrState", laid_bollard_api_ErrState)], narrowed := true }
def CommandLedgersUptoSaid : Prop := commandLedgersUptoRow.holds Tryd.pinned (OpenSpec.upto commandLedgersSpec)

/-- 'bollardlaw10.CommandReads', WHERE WHAT IT READS IS OF BULK AT MOST 1048576: true; the input reads as it did. -/
def commandReadsUptoRow : OpenClaim := { program := "ytnlncfjibbdimaadoor", sum := "c6d422431e70bf5940958c55e6d60c111bc97632692d4ae99fa97d6a8f60031e", func := "bollard/bollardlaw10.CommandReads", spec := "commandReads", inPlace := ["internal/bytealg.IndexByteString"], unfollowed := true, recurses := true, named := ["bollard/api.ErrState", "bollard/api.ErrNumber", "bollard/api.ErrBytes", "bollard/api.ErrDigest", "bollard/api.ErrParams", "bollard/api.ErrData", "bollard/api.ErrLost", "bollard/api.ErrName", "bollard/api.ErrGone", "bollard/api.ErrThere", "bollard/api.ErrFull", "bollard/api.ErrLarge", "bollard/api.ErrBallot", "bollard/api.ErrRequest", "bollard/api.ErrUri", "bollard/api.ErrDenied", "bollard/api.ErrSkew", "bollard/api.ErrMethod"], apart := false, laid := [("bollard/api.ErrParams", laid_bollard_api_ErrParams), ("bollard/api.ErrNumber", laid_bollard_api_ErrNumber), ("bollard/api.ErrData", laid_bollard_api_ErrData), ("bollard/api.ErrLost", laid_bollard_api_ErrLost), ("bollard/api.ErrBytes", laid_bollard_api_ErrBytes), ("bollard/api.ErrDigest", laid_bollard_api_ErrDigest), ("bollard/api.ErrName", laid_bollard_api_ErrName), ("bollard/api.ErrGone", laid_bollard_api_ErrGone), ("bollard/api.ErrThere", laid_bollard_api_ErrThere), ("bollard/api.ErrFull", laid_bollard_api_ErrFull), ("bollard/api.ErrLarge", laid_bollard_api_ErrLarge), ("bollard/api.ErrBallot", laid_bollard_api_ErrBallot), ("bollard/api.ErrRequest", laid_bollard_api_ErrRequest), ("bollard/api.ErrUri", laid_bollard_api_ErrUri), ("bollard/api.ErrDenied", laid_bollard_api_ErrDenied), ("bollard/api.ErrSkew", laid_bollard_api_ErrSkew), ("bollard/api.ErrMethod", laid_bollard_api_ErrMethod), ("bollard/api.ErrState", laid_bollard_api_ErrState)], narrowed := true }
def CommandReadsUptoSaid : Prop := commandReadsUptoRow.holds Tryd.pinned (OpenSpec.upto commandReadsSpec)

/-- 'bollardlaw10.CommandLengths', WHERE WHAT IT READS IS OF BULK AT MOST 1048576: true; the input reads as it did. -/
def commandLengthsUptoRow : OpenClaim := { program := "ytnlncfjibbdimaadoor", sum := "c6d422431e70bf5940958c55e6d60c111bc97632692d4ae99fa97d6a8f60031e", func := "bollard/bollardlaw10.CommandLengths", spec := "commandLengths", inPlace := ["internal/bytealg.IndexByteString"], unfollowed := true, recurses := true, named := ["bollard/api.ErrState", "bollard/api.ErrNumber", "bollard/api.ErrLarge", "bollard/api.ErrBytes", "bollard/api.ErrDigest"], apart := false, laid := [("bollard/api.ErrNumber", laid_bollard_api_ErrNumber), ("bollard/api.ErrBytes", laid_bollard_api_ErrBytes), ("bollard/api.ErrDigest", laid_bollard_api_ErrDigest), ("bollard/api.ErrLarge", laid_bollard_api_ErrLarge), ("bollard/api.ErrState", laid_bollard_api_ErrState)], narrowed := true }
def CommandLengthsUptoSaid : Prop := commandLengthsUptoRow.holds Tryd.pinned (OpenSpec.upto commandLengthsSpec)

/-- 'bollardlaw15.PostPuts', WHERE WHAT IT READS IS OF BULK AT MOST 1048576: true; the input reads as it did. -/
def postPutsUptoRow : OpenClaim := { program := "ytnlncfjibbdimaadoor", sum := "c6d422431e70bf5940958c55e6d60c111bc97632692d4ae99fa97d6a8f60031e", func := "bollard/bollardlaw15.PostPuts", spec := "postPuts", inPlace := ["internal/bytealg.IndexByteString"], unfollowed := true, recurses := true, named := ["bollard/api.ErrState", "bollard/api.ErrLarge", "bollard/api.ErrNumber", "bollard/api.ErrBytes", "bollard/api.ErrDigest"], apart := false, laid := [("bollard/api.ErrNumber", laid_bollard_api_ErrNumber), ("bollard/api.ErrBytes", laid_bollard_api_ErrBytes), ("bollard/api.ErrDigest", laid_bollard_api_ErrDigest), ("bollard/api.ErrLarge", laid_bollard_api_ErrLarge), ("bollard/api.ErrState", laid_bollard_api_ErrState)], narrowed := true }
def PostPutsUptoSaid : Prop := postPutsUptoRow.holds Tryd.pinned (OpenSpec.upto postPutsSpec)

/-- 'bollardlaw15.PostGets', WHERE WHAT IT READS IS OF BULK AT MOST 1048576: true; the input reads as it did. -/
def postGetsUptoRow : OpenClaim := { program := "ytnlncfjibbdimaadoor", sum := "c6d422431e70bf5940958c55e6d60c111bc97632692d4ae99fa97d6a8f60031e", func := "bollard/bollardlaw15.PostGets", spec := "postGets", inPlace := ["internal/bytealg.IndexByteString"], unfollowed := true, recurses := true, named := ["bollard/api.ErrState", "bollard/api.ErrLarge", "bollard/api.ErrNumber", "bollard/api.ErrBytes", "bollard/api.ErrDigest", "bollard/api.ErrParams", "bollard/api.ErrData", "bollard/api.ErrLost", "bollard/api.ErrName", "bollard/api.ErrGone", "bollard/api.ErrThere", "bollard/api.ErrFull", "bollard/api.ErrBallot", "bollard/api.ErrRequest", "bollard/api.ErrUri", "bollard/api.ErrDenied", "bollard/api.ErrSkew", "bollard/api.ErrMethod"], apart := false, laid := [("bollard/api.ErrParams", laid_bollard_api_ErrParams), ("bollard/api.ErrNumber", laid_bollard_api_ErrNumber), ("bollard/api.ErrData", laid_bollard_api_ErrData), ("bollard/api.ErrLost", laid_bollard_api_ErrLost), ("bollard/api.ErrBytes", laid_bollard_api_ErrBytes), ("bollard/api.ErrDigest", laid_bollard_api_ErrDigest), ("bollard/api.ErrName", laid_bollard_api_ErrName), ("bollard/api.ErrGone", laid_bollard_api_ErrGone), ("bollard/api.ErrThere", laid_bollard_api_ErrThere), ("bollard/api.ErrFull", laid_bollard_api_ErrFull), ("bollard/api.ErrLarge", laid_bollard_api_ErrLarge), ("bollard/api.ErrBallot", laid_bollard_api_ErrBallot), ("bollard/api.ErrRequest", laid_bollard_api_ErrRequest), ("bollard/api.ErrUri", laid_bollard_api_ErrUri), ("bollard/api.ErrDenied", laid_bollard_api_ErrDenied), ("bollard/api.ErrSkew", laid_bollard_api_ErrSkew), ("bollard/api.ErrMethod", laid_bollard_api_ErrMethod), ("bollard/api.ErrState", laid_bollard_api_ErrState)], narrowed := true }
def PostGetsUptoSaid : Prop := postGetsUptoRow.holds Tryd.pinned (OpenSpec.upto postGetsSpec)

/-- 'bollardlaw15.PostSlips', WHERE WHAT IT READS IS OF BULK AT MOST 1048576: true; the input reads as it did. -/
def postSlipsUptoRow : OpenClaim := { program := "ytnlncfjibbdimaadoor", sum := "c6d422431e70bf5940958c55e6d60c111bc97632692d4ae99fa97d6a8f60031e", func := "bollard/bollardlaw15.PostSlips", spec := "postSlips", inPlace := ["internal/bytealg.IndexByteString"], unfollowed := true, recurses := true, named := ["bollard/api.ErrState", "bollard/api.ErrLarge", "bollard/api.ErrNumber", "bollard/api.ErrBytes", "bollard/api.ErrDigest"], apart := false, laid := [("bollard/api.ErrNumber", laid_bollard_api_ErrNumber), ("bollard/api.ErrBytes", laid_bollard_api_ErrBytes), ("bollard/api.ErrDigest", laid_bollard_api_ErrDigest), ("bollard/api.ErrLarge", laid_bollard_api_ErrLarge), ("bollard/api.ErrState", laid_bollard_api_ErrState)], narrowed := true }
def PostSlipsUptoSaid : Prop := postSlipsUptoRow.holds Tryd.pinned (OpenSpec.upto postSlipsSpec)

/-- 'bollardlaw15.PostUnlike', WHERE WHAT IT READS IS OF BULK AT MOST 1048576: true; the input reads as it did. -/
def postUnlikeUptoRow : OpenClaim := { program := "ytnlncfjibbdimaadoor", sum := "c6d422431e70bf5940958c55e6d60c111bc97632692d4ae99fa97d6a8f60031e", func := "bollard/bollardlaw15.PostUnlike", spec := "postUnlike", inPlace := ["internal/bytealg.IndexByteString"], unfollowed := true, recurses := true, named := ["bollard/api.ErrState", "bollard/api.ErrLarge", "bollard/api.ErrNumber", "bollard/api.ErrBytes", "bollard/api.ErrDigest"], apart := false, laid := [("bollard/api.ErrNumber", laid_bollard_api_ErrNumber), ("bollard/api.ErrBytes", laid_bollard_api_ErrBytes), ("bollard/api.ErrDigest", laid_bollard_api_ErrDigest), ("bollard/api.ErrLarge", laid_bollard_api_ErrLarge), ("bollard/api.ErrState", laid_bollard_api_ErrState)], narrowed := true }
def PostUnlikeUptoSaid : Prop := postUnlikeUptoRow.holds Tryd.pinned (OpenSpec.upto postUnlikeSpec)

end Rows
end Go.Proofs.YtnlncfjibbdimaaDoor
