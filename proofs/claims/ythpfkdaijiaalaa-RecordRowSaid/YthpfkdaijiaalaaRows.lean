/-
  No cell of these rows narrows 'for every input' (looked for: loops, veiled, ifaces, maps, wideKeys, modest, calm, conditions, laid).
  DERIVED. THE GIVEN ROWS OF THIS SEAT. 22 by the template 'for every input the law returns true; each argument reads behind the call as it read before'; 0 by the template 'total and deterministic' (their statements: YthpfkdaijiaalaaTotals.lean).
  GIVEN WITH THE SEED: the statements are not yours to turn. If you find one false, say at which input.
  Laid BY PROGRAM, IN A SANDBOX (cutbox-rows.mjs): the forced cells as the released guide's own fill.sh prints them over the translation 865fa4e8829a80f2… (all of the seat's roots in one cut). By AI agents, Wed Nov 11 2026. No macro, syntax, notation, axiom, sorry.
-/
import Derived.Test.YthpfkdaijiaalaaChecked
import GoSem.Claim
import GoSem.ClaimJoined
import GoSem.ClaimMapViews
import Derived.JoinedTies
import Derived.KernelRfl
namespace Go.Proofs.Ythpfkdaijiaalaa
/- THE CELL 'sum', in the pinned program and in every row, IS THE sha256 OF THE DUMP (.gsa) THAT YthpfkdaijiaalaaProg.lean LOADS. Nothing in Lean hashes anything: it is a label: what it is worth is what the hold of that sum in a sandbox is worth. -/
noncomputable def Try.pinned : Pinned := { name := "ythpfkdaijiaalaa", sum := "865fa4e8829a80f2ebb43196806c7478c2632c4ed3aa7f07dc22e2caf2999cae", checked := Try.checked }
namespace Rows
def none {H : Type} : Left H := { results := [], args := [] }

/-- 'latticelaw06.PageChecks': WHATEVER THE INPUT: true; the input reads as it did. -/
def pageChecksSpec : ChangeSpec := { name := "pageChecks", fn := fun _ => fun
  | [d] => { results := [.lit (.bool true)], args := [d] }
  | _ => none }
def pageChecksRow : OpenClaim := { program := "ythpfkdaijiaalaa", sum := "865fa4e8829a80f2ebb43196806c7478c2632c4ed3aa7f07dc22e2caf2999cae", func := "lattice/latticelaw06.PageChecks", spec := "pageChecks", unfollowed := true, recurses := true, apart := false }
def PageChecksSaid : Prop := pageChecksRow.holds Try.pinned (OpenSpec.ofChange pageChecksSpec)

/-- ITS FALSE NEIGHBOUR: 'it returns false'. Refute it at one input. -/
def pageChecksWrong : ChangeSpec := { name := "pageChecks", fn := fun _ => fun
  | [d] => { results := [.lit (.bool false)], args := [d] }
  | _ => none }
def PageChecksWrongFalsely : Prop := pageChecksRow.holds Try.pinned (OpenSpec.ofChange pageChecksWrong)

/-- 'latticelaw06.PageEncodes': WHATEVER THE INPUT: true; the input reads as it did. -/
def pageEncodesSpec : ChangeSpec := { name := "pageEncodes", fn := fun _ => fun
  | [d] => { results := [.lit (.bool true)], args := [d] }
  | _ => none }
def pageEncodesRow : OpenClaim := { program := "ythpfkdaijiaalaa", sum := "865fa4e8829a80f2ebb43196806c7478c2632c4ed3aa7f07dc22e2caf2999cae", func := "lattice/latticelaw06.PageEncodes", spec := "pageEncodes", unfollowed := true, recurses := true, apart := false }
def PageEncodesSaid : Prop := pageEncodesRow.holds Try.pinned (OpenSpec.ofChange pageEncodesSpec)

/-- ITS FALSE NEIGHBOUR: 'it returns false'. Refute it at one input. -/
def pageEncodesWrong : ChangeSpec := { name := "pageEncodes", fn := fun _ => fun
  | [d] => { results := [.lit (.bool false)], args := [d] }
  | _ => none }
def PageEncodesWrongFalsely : Prop := pageEncodesRow.holds Try.pinned (OpenSpec.ofChange pageEncodesWrong)

/-- 'latticelaw06.PageDecodes': WHATEVER THE INPUT: true; the input reads as it did. -/
def pageDecodesSpec : ChangeSpec := { name := "pageDecodes", fn := fun _ => fun
  | [d] => { results := [.lit (.bool true)], args := [d] }
  | _ => none }
def pageDecodesRow : OpenClaim := { program := "ythpfkdaijiaalaa", sum := "865fa4e8829a80f2ebb43196806c7478c2632c4ed3aa7f07dc22e2caf2999cae", func := "lattice/latticelaw06.PageDecodes", spec := "pageDecodes", unfollowed := true, recurses := true, apart := false }
def PageDecodesSaid : Prop := pageDecodesRow.holds Try.pinned (OpenSpec.ofChange pageDecodesSpec)

/-- ITS FALSE NEIGHBOUR: 'it returns false'. Refute it at one input. -/
def pageDecodesWrong : ChangeSpec := { name := "pageDecodes", fn := fun _ => fun
  | [d] => { results := [.lit (.bool false)], args := [d] }
  | _ => none }
def PageDecodesWrongFalsely : Prop := pageDecodesRow.holds Try.pinned (OpenSpec.ofChange pageDecodesWrong)

/-- 'latticelaw06.PageBack': WHATEVER THE INPUT: true; the input reads as it did. -/
def pageBackSpec : ChangeSpec := { name := "pageBack", fn := fun _ => fun
  | [d1, d2] => { results := [.lit (.bool true)], args := [d1, d2] }
  | _ => none }
def pageBackRow : OpenClaim := { program := "ythpfkdaijiaalaa", sum := "865fa4e8829a80f2ebb43196806c7478c2632c4ed3aa7f07dc22e2caf2999cae", func := "lattice/latticelaw06.PageBack", spec := "pageBack", unfollowed := true, recurses := true, apart := false }
def PageBackSaid : Prop := pageBackRow.holds Try.pinned (OpenSpec.ofChange pageBackSpec)

/-- ITS FALSE NEIGHBOUR: 'it returns false'. Refute it at one input. -/
def pageBackWrong : ChangeSpec := { name := "pageBack", fn := fun _ => fun
  | [d1, d2] => { results := [.lit (.bool false)], args := [d1, d2] }
  | _ => none }
def PageBackWrongFalsely : Prop := pageBackRow.holds Try.pinned (OpenSpec.ofChange pageBackWrong)

/-- 'latticelaw06.PageTurned': WHATEVER THE INPUT: true; the input reads as it did. -/
def pageTurnedSpec : ChangeSpec := { name := "pageTurned", fn := fun _ => fun
  | [d1, d2] => { results := [.lit (.bool true)], args := [d1, d2] }
  | _ => none }
def pageTurnedRow : OpenClaim := { program := "ythpfkdaijiaalaa", sum := "865fa4e8829a80f2ebb43196806c7478c2632c4ed3aa7f07dc22e2caf2999cae", func := "lattice/latticelaw06.PageTurned", spec := "pageTurned", unfollowed := true, recurses := true, apart := false }
def PageTurnedSaid : Prop := pageTurnedRow.holds Try.pinned (OpenSpec.ofChange pageTurnedSpec)

/-- ITS FALSE NEIGHBOUR: 'it returns false'. Refute it at one input. -/
def pageTurnedWrong : ChangeSpec := { name := "pageTurned", fn := fun _ => fun
  | [d1, d2] => { results := [.lit (.bool false)], args := [d1, d2] }
  | _ => none }
def PageTurnedWrongFalsely : Prop := pageTurnedRow.holds Try.pinned (OpenSpec.ofChange pageTurnedWrong)

/-- 'latticelaw06.PageGrows': WHATEVER THE INPUT: true; the input reads as it did. -/
def pageGrowsSpec : ChangeSpec := { name := "pageGrows", fn := fun _ => fun
  | [d] => { results := [.lit (.bool true)], args := [d] }
  | _ => none }
def pageGrowsRow : OpenClaim := { program := "ythpfkdaijiaalaa", sum := "865fa4e8829a80f2ebb43196806c7478c2632c4ed3aa7f07dc22e2caf2999cae", func := "lattice/latticelaw06.PageGrows", spec := "pageGrows", unfollowed := true, recurses := true, apart := false }
def PageGrowsSaid : Prop := pageGrowsRow.holds Try.pinned (OpenSpec.ofChange pageGrowsSpec)

/-- ITS FALSE NEIGHBOUR: 'it returns false'. Refute it at one input. -/
def pageGrowsWrong : ChangeSpec := { name := "pageGrows", fn := fun _ => fun
  | [d] => { results := [.lit (.bool false)], args := [d] }
  | _ => none }
def PageGrowsWrongFalsely : Prop := pageGrowsRow.holds Try.pinned (OpenSpec.ofChange pageGrowsWrong)

/-- 'latticelaw09.RecordEncodes': WHATEVER THE INPUT: true; the input reads as it did. -/
def recordEncodesSpec : ChangeSpec := { name := "recordEncodes", fn := fun _ => fun
  | [d] => { results := [.lit (.bool true)], args := [d] }
  | _ => none }
def recordEncodesRow : OpenClaim := { program := "ythpfkdaijiaalaa", sum := "865fa4e8829a80f2ebb43196806c7478c2632c4ed3aa7f07dc22e2caf2999cae", func := "lattice/latticelaw09.RecordEncodes", spec := "recordEncodes", unfollowed := true, recurses := true, apart := false }
def RecordEncodesSaid : Prop := recordEncodesRow.holds Try.pinned (OpenSpec.ofChange recordEncodesSpec)

/-- ITS FALSE NEIGHBOUR: 'it returns false'. Refute it at one input. -/
def recordEncodesWrong : ChangeSpec := { name := "recordEncodes", fn := fun _ => fun
  | [d] => { results := [.lit (.bool false)], args := [d] }
  | _ => none }
def RecordEncodesWrongFalsely : Prop := recordEncodesRow.holds Try.pinned (OpenSpec.ofChange recordEncodesWrong)

/-- 'latticelaw09.RecordDecodes': WHATEVER THE INPUT: true; the input reads as it did. -/
def recordDecodesSpec : ChangeSpec := { name := "recordDecodes", fn := fun _ => fun
  | [d] => { results := [.lit (.bool true)], args := [d] }
  | _ => none }
def recordDecodesRow : OpenClaim := { program := "ythpfkdaijiaalaa", sum := "865fa4e8829a80f2ebb43196806c7478c2632c4ed3aa7f07dc22e2caf2999cae", func := "lattice/latticelaw09.RecordDecodes", spec := "recordDecodes", unfollowed := true, recurses := true, apart := false }
def RecordDecodesSaid : Prop := recordDecodesRow.holds Try.pinned (OpenSpec.ofChange recordDecodesSpec)

/-- ITS FALSE NEIGHBOUR: 'it returns false'. Refute it at one input. -/
def recordDecodesWrong : ChangeSpec := { name := "recordDecodes", fn := fun _ => fun
  | [d] => { results := [.lit (.bool false)], args := [d] }
  | _ => none }
def RecordDecodesWrongFalsely : Prop := recordDecodesRow.holds Try.pinned (OpenSpec.ofChange recordDecodesWrong)

/-- 'latticelaw09.RecordBack': WHATEVER THE INPUT: true; the input reads as it did. -/
def recordBackSpec : ChangeSpec := { name := "recordBack", fn := fun _ => fun
  | [d1, d2] => { results := [.lit (.bool true)], args := [d1, d2] }
  | _ => none }
def recordBackRow : OpenClaim := { program := "ythpfkdaijiaalaa", sum := "865fa4e8829a80f2ebb43196806c7478c2632c4ed3aa7f07dc22e2caf2999cae", func := "lattice/latticelaw09.RecordBack", spec := "recordBack", unfollowed := true, recurses := true, apart := false }
def RecordBackSaid : Prop := recordBackRow.holds Try.pinned (OpenSpec.ofChange recordBackSpec)

/-- ITS FALSE NEIGHBOUR: 'it returns false'. Refute it at one input. -/
def recordBackWrong : ChangeSpec := { name := "recordBack", fn := fun _ => fun
  | [d1, d2] => { results := [.lit (.bool false)], args := [d1, d2] }
  | _ => none }
def RecordBackWrongFalsely : Prop := recordBackRow.holds Try.pinned (OpenSpec.ofChange recordBackWrong)

/-- 'latticelaw09.RecordCut': WHATEVER THE INPUT: true; the input reads as it did. -/
def recordCutSpec : ChangeSpec := { name := "recordCut", fn := fun _ => fun
  | [d1, d2, d3] => { results := [.lit (.bool true)], args := [d1, d2, d3] }
  | _ => none }
def recordCutRow : OpenClaim := { program := "ythpfkdaijiaalaa", sum := "865fa4e8829a80f2ebb43196806c7478c2632c4ed3aa7f07dc22e2caf2999cae", func := "lattice/latticelaw09.RecordCut", spec := "recordCut", unfollowed := true, recurses := true, apart := false }
def RecordCutSaid : Prop := recordCutRow.holds Try.pinned (OpenSpec.ofChange recordCutSpec)

/-- ITS FALSE NEIGHBOUR: 'it returns false'. Refute it at one input. -/
def recordCutWrong : ChangeSpec := { name := "recordCut", fn := fun _ => fun
  | [d1, d2, d3] => { results := [.lit (.bool false)], args := [d1, d2, d3] }
  | _ => none }
def RecordCutWrongFalsely : Prop := recordCutRow.holds Try.pinned (OpenSpec.ofChange recordCutWrong)

/-- 'latticelaw09.RecordRow': WHATEVER THE INPUT: true; the input reads as it did. -/
def recordRowSpec : ChangeSpec := { name := "recordRow", fn := fun _ => fun
  | [d] => { results := [.lit (.bool true)], args := [d] }
  | _ => none }
def recordRowRow : OpenClaim := { program := "ythpfkdaijiaalaa", sum := "865fa4e8829a80f2ebb43196806c7478c2632c4ed3aa7f07dc22e2caf2999cae", func := "lattice/latticelaw09.RecordRow", spec := "recordRow", unfollowed := true, recurses := true, apart := false }
def RecordRowSaid : Prop := recordRowRow.holds Try.pinned (OpenSpec.ofChange recordRowSpec)

/-- ITS FALSE NEIGHBOUR: 'it returns false'. Refute it at one input. -/
def recordRowWrong : ChangeSpec := { name := "recordRow", fn := fun _ => fun
  | [d] => { results := [.lit (.bool false)], args := [d] }
  | _ => none }
def RecordRowWrongFalsely : Prop := recordRowRow.holds Try.pinned (OpenSpec.ofChange recordRowWrong)

/-- 'latticelaw20.ShipTakes': WHATEVER THE INPUT: true; the input reads as it did. -/
def shipTakesSpec : ChangeSpec := { name := "shipTakes", fn := fun _ => fun
  | [d1, d2, d3] => { results := [.lit (.bool true)], args := [d1, d2, d3] }
  | _ => none }
def shipTakesRow : OpenClaim := { program := "ythpfkdaijiaalaa", sum := "865fa4e8829a80f2ebb43196806c7478c2632c4ed3aa7f07dc22e2caf2999cae", func := "lattice/latticelaw20.ShipTakes", spec := "shipTakes", unfollowed := true, recurses := true, apart := false }
def ShipTakesSaid : Prop := shipTakesRow.holds Try.pinned (OpenSpec.ofChange shipTakesSpec)

/-- ITS FALSE NEIGHBOUR: 'it returns false'. Refute it at one input. -/
def shipTakesWrong : ChangeSpec := { name := "shipTakes", fn := fun _ => fun
  | [d1, d2, d3] => { results := [.lit (.bool false)], args := [d1, d2, d3] }
  | _ => none }
def ShipTakesWrongFalsely : Prop := shipTakesRow.holds Try.pinned (OpenSpec.ofChange shipTakesWrong)

/-- 'latticelaw20.ShipOne': WHATEVER THE INPUT: true; the input reads as it did. -/
def shipOneSpec : ChangeSpec := { name := "shipOne", fn := fun _ => fun
  | [d1, d2] => { results := [.lit (.bool true)], args := [d1, d2] }
  | _ => none }
def shipOneRow : OpenClaim := { program := "ythpfkdaijiaalaa", sum := "865fa4e8829a80f2ebb43196806c7478c2632c4ed3aa7f07dc22e2caf2999cae", func := "lattice/latticelaw20.ShipOne", spec := "shipOne", unfollowed := true, recurses := true, apart := false }
def ShipOneSaid : Prop := shipOneRow.holds Try.pinned (OpenSpec.ofChange shipOneSpec)

/-- ITS FALSE NEIGHBOUR: 'it returns false'. Refute it at one input. -/
def shipOneWrong : ChangeSpec := { name := "shipOne", fn := fun _ => fun
  | [d1, d2] => { results := [.lit (.bool false)], args := [d1, d2] }
  | _ => none }
def ShipOneWrongFalsely : Prop := shipOneRow.holds Try.pinned (OpenSpec.ofChange shipOneWrong)

/-- 'latticelaw20.ShipCut': WHATEVER THE INPUT: true; the input reads as it did. -/
def shipCutSpec : ChangeSpec := { name := "shipCut", fn := fun _ => fun
  | [d1, d2, d3] => { results := [.lit (.bool true)], args := [d1, d2, d3] }
  | _ => none }
def shipCutRow : OpenClaim := { program := "ythpfkdaijiaalaa", sum := "865fa4e8829a80f2ebb43196806c7478c2632c4ed3aa7f07dc22e2caf2999cae", func := "lattice/latticelaw20.ShipCut", spec := "shipCut", unfollowed := true, recurses := true, apart := false }
def ShipCutSaid : Prop := shipCutRow.holds Try.pinned (OpenSpec.ofChange shipCutSpec)

/-- ITS FALSE NEIGHBOUR: 'it returns false'. Refute it at one input. -/
def shipCutWrong : ChangeSpec := { name := "shipCut", fn := fun _ => fun
  | [d1, d2, d3] => { results := [.lit (.bool false)], args := [d1, d2, d3] }
  | _ => none }
def ShipCutWrongFalsely : Prop := shipCutRow.holds Try.pinned (OpenSpec.ofChange shipCutWrong)

/-- 'latticelaw10.WalTorn': WHATEVER THE INPUT: true; the input reads as it did. -/
def walTornSpec : ChangeSpec := { name := "walTorn", fn := fun _ => fun
  | [d1, d2, d3] => { results := [.lit (.bool true)], args := [d1, d2, d3] }
  | _ => none }
def walTornRow : OpenClaim := { program := "ythpfkdaijiaalaa", sum := "865fa4e8829a80f2ebb43196806c7478c2632c4ed3aa7f07dc22e2caf2999cae", func := "lattice/latticelaw10.WalTorn", spec := "walTorn", unfollowed := true, recurses := true, apart := false }
def WalTornSaid : Prop := walTornRow.holds Try.pinned (OpenSpec.ofChange walTornSpec)

/-- ITS FALSE NEIGHBOUR: 'it returns false'. Refute it at one input. -/
def walTornWrong : ChangeSpec := { name := "walTorn", fn := fun _ => fun
  | [d1, d2, d3] => { results := [.lit (.bool false)], args := [d1, d2, d3] }
  | _ => none }
def WalTornWrongFalsely : Prop := walTornRow.holds Try.pinned (OpenSpec.ofChange walTornWrong)

/-- 'latticelaw10.WalReads': WHATEVER THE INPUT: true; the input reads as it did. -/
def walReadsSpec : ChangeSpec := { name := "walReads", fn := fun _ => fun
  | [d1, d2] => { results := [.lit (.bool true)], args := [d1, d2] }
  | _ => none }
def walReadsRow : OpenClaim := { program := "ythpfkdaijiaalaa", sum := "865fa4e8829a80f2ebb43196806c7478c2632c4ed3aa7f07dc22e2caf2999cae", func := "lattice/latticelaw10.WalReads", spec := "walReads", unfollowed := true, recurses := true, apart := false }
def WalReadsSaid : Prop := walReadsRow.holds Try.pinned (OpenSpec.ofChange walReadsSpec)

/-- ITS FALSE NEIGHBOUR: 'it returns false'. Refute it at one input. -/
def walReadsWrong : ChangeSpec := { name := "walReads", fn := fun _ => fun
  | [d1, d2] => { results := [.lit (.bool false)], args := [d1, d2] }
  | _ => none }
def WalReadsWrongFalsely : Prop := walReadsRow.holds Try.pinned (OpenSpec.ofChange walReadsWrong)

/-- 'latticelaw20.ShipSends': WHATEVER THE INPUT: true; the input reads as it did. -/
def shipSendsSpec : ChangeSpec := { name := "shipSends", fn := fun _ => fun
  | [d1, d2, d3] => { results := [.lit (.bool true)], args := [d1, d2, d3] }
  | _ => none }
def shipSendsRow : OpenClaim := { program := "ythpfkdaijiaalaa", sum := "865fa4e8829a80f2ebb43196806c7478c2632c4ed3aa7f07dc22e2caf2999cae", func := "lattice/latticelaw20.ShipSends", spec := "shipSends", unfollowed := true, recurses := true, apart := false }
def ShipSendsSaid : Prop := shipSendsRow.holds Try.pinned (OpenSpec.ofChange shipSendsSpec)

/-- ITS FALSE NEIGHBOUR: 'it returns false'. Refute it at one input. -/
def shipSendsWrong : ChangeSpec := { name := "shipSends", fn := fun _ => fun
  | [d1, d2, d3] => { results := [.lit (.bool false)], args := [d1, d2, d3] }
  | _ => none }
def ShipSendsWrongFalsely : Prop := shipSendsRow.holds Try.pinned (OpenSpec.ofChange shipSendsWrong)

/-- 'latticelaw20.ShipNil': WHATEVER THE INPUT: true; the input reads as it did. -/
def shipNilSpec : ChangeSpec := { name := "shipNil", fn := fun _ => fun
  | [d] => { results := [.lit (.bool true)], args := [d] }
  | _ => none }
def shipNilRow : OpenClaim := { program := "ythpfkdaijiaalaa", sum := "865fa4e8829a80f2ebb43196806c7478c2632c4ed3aa7f07dc22e2caf2999cae", func := "lattice/latticelaw20.ShipNil", spec := "shipNil", unfollowed := true, recurses := true, apart := false }
def ShipNilSaid : Prop := shipNilRow.holds Try.pinned (OpenSpec.ofChange shipNilSpec)

/-- ITS FALSE NEIGHBOUR: 'it returns false'. Refute it at one input. -/
def shipNilWrong : ChangeSpec := { name := "shipNil", fn := fun _ => fun
  | [d] => { results := [.lit (.bool false)], args := [d] }
  | _ => none }
def ShipNilWrongFalsely : Prop := shipNilRow.holds Try.pinned (OpenSpec.ofChange shipNilWrong)

/-- 'latticelaw20.ShipComes': WHATEVER THE INPUT: true; the input reads as it did. -/
def shipComesSpec : ChangeSpec := { name := "shipComes", fn := fun _ => fun
  | [d1, d2, d3] => { results := [.lit (.bool true)], args := [d1, d2, d3] }
  | _ => none }
def shipComesRow : OpenClaim := { program := "ythpfkdaijiaalaa", sum := "865fa4e8829a80f2ebb43196806c7478c2632c4ed3aa7f07dc22e2caf2999cae", func := "lattice/latticelaw20.ShipComes", spec := "shipComes", unfollowed := true, recurses := true, apart := false }
def ShipComesSaid : Prop := shipComesRow.holds Try.pinned (OpenSpec.ofChange shipComesSpec)

/-- ITS FALSE NEIGHBOUR: 'it returns false'. Refute it at one input. -/
def shipComesWrong : ChangeSpec := { name := "shipComes", fn := fun _ => fun
  | [d1, d2, d3] => { results := [.lit (.bool false)], args := [d1, d2, d3] }
  | _ => none }
def ShipComesWrongFalsely : Prop := shipComesRow.holds Try.pinned (OpenSpec.ofChange shipComesWrong)

/-- 'latticelaw10.WalGrows': WHATEVER THE INPUT: true; the input reads as it did. -/
def walGrowsSpec : ChangeSpec := { name := "walGrows", fn := fun _ => fun
  | [d] => { results := [.lit (.bool true)], args := [d] }
  | _ => none }
def walGrowsRow : OpenClaim := { program := "ythpfkdaijiaalaa", sum := "865fa4e8829a80f2ebb43196806c7478c2632c4ed3aa7f07dc22e2caf2999cae", func := "lattice/latticelaw10.WalGrows", spec := "walGrows", unfollowed := true, recurses := true, apart := false }
def WalGrowsSaid : Prop := walGrowsRow.holds Try.pinned (OpenSpec.ofChange walGrowsSpec)

/-- ITS FALSE NEIGHBOUR: 'it returns false'. Refute it at one input. -/
def walGrowsWrong : ChangeSpec := { name := "walGrows", fn := fun _ => fun
  | [d] => { results := [.lit (.bool false)], args := [d] }
  | _ => none }
def WalGrowsWrongFalsely : Prop := walGrowsRow.holds Try.pinned (OpenSpec.ofChange walGrowsWrong)

/-- 'latticelaw10.WalSteps': WHATEVER THE INPUT: true; the input reads as it did. -/
def walStepsSpec : ChangeSpec := { name := "walSteps", fn := fun _ => fun
  | [d] => { results := [.lit (.bool true)], args := [d] }
  | _ => none }
def walStepsRow : OpenClaim := { program := "ythpfkdaijiaalaa", sum := "865fa4e8829a80f2ebb43196806c7478c2632c4ed3aa7f07dc22e2caf2999cae", func := "lattice/latticelaw10.WalSteps", spec := "walSteps", unfollowed := true, recurses := true, apart := false }
def WalStepsSaid : Prop := walStepsRow.holds Try.pinned (OpenSpec.ofChange walStepsSpec)

/-- ITS FALSE NEIGHBOUR: 'it returns false'. Refute it at one input. -/
def walStepsWrong : ChangeSpec := { name := "walSteps", fn := fun _ => fun
  | [d] => { results := [.lit (.bool false)], args := [d] }
  | _ => none }
def WalStepsWrongFalsely : Prop := walStepsRow.holds Try.pinned (OpenSpec.ofChange walStepsWrong)

/-- 'latticelaw10.WalNil': WHATEVER THE INPUT: true; the input reads as it did. -/
def walNilSpec : ChangeSpec := { name := "walNil", fn := fun _ => fun
  | [d] => { results := [.lit (.bool true)], args := [d] }
  | _ => none }
def walNilRow : OpenClaim := { program := "ythpfkdaijiaalaa", sum := "865fa4e8829a80f2ebb43196806c7478c2632c4ed3aa7f07dc22e2caf2999cae", func := "lattice/latticelaw10.WalNil", spec := "walNil", unfollowed := true, recurses := true, apart := false }
def WalNilSaid : Prop := walNilRow.holds Try.pinned (OpenSpec.ofChange walNilSpec)

/-- ITS FALSE NEIGHBOUR: 'it returns false'. Refute it at one input. -/
def walNilWrong : ChangeSpec := { name := "walNil", fn := fun _ => fun
  | [d] => { results := [.lit (.bool false)], args := [d] }
  | _ => none }
def WalNilWrongFalsely : Prop := walNilRow.holds Try.pinned (OpenSpec.ofChange walNilWrong)

/- THE SECOND FORM. 'bulk': how many values and letters a reading holds, each counted each time it is reached (what is shared counts as often as it is met; a slice's spare places count too). A statement '..UptoSaid' is the law's where the arguments, and the package variables that the reading takes, are together of bulk at most 1048576: NARROWER than '..Said'. Prove '..Said' where nothing that the law and all that it calls make is longer than what came in: it says more and counts as full. Else prove '..UptoSaid'. A law counts once. -/
mutual
def uptoBulk {H : Type} : DataW H → Nat
  | .lit (.string bytes) => bytes.length + 1
  | .lit _ => 1
  | .nil => 1
  | .ptr d => uptoBulk d + 1
  | .slice elems spare => uptoBulkAll elems + uptoBulkAll spare + 1
  | .agg parts => uptoBulkAll parts + 1
  | .iface _ d => uptoBulk d + 1
  | .map entries => uptoBulkEntries entries + 1
  | .held _ => 1
def uptoBulkAll {H : Type} : List (DataW H) → Nat
  | [] => 0
  | d :: r => uptoBulk d + uptoBulkAll r
def uptoBulkEntries {H : Type} : List (Lit × DataW H) → Nat
  | [] => 0
  | x :: r => uptoBulkEntry x + uptoBulkEntries r
def uptoBulkEntry {H : Type} : Lit × DataW H → Nat
  | (.string bytes, d) => bytes.length + uptoBulk d + 1
  | (_, d) => uptoBulk d + 1
 end
def uptoSmall : (H : Type) → List (DataW H) → Bool := fun _ ds => decide (uptoBulkAll ds ≤ 1048576)
def OpenSpec.upto (s : _root_.Go.ChangeSpec) : _root_.Go.OpenSpec := { _root_.Go.OpenSpec.ofChange s with cond := some uptoSmall }

/-- 'latticelaw06.PageChecks', WHERE WHAT IT READS IS OF BULK AT MOST 1048576: true; the input reads as it did. -/
def pageChecksUptoRow : OpenClaim := { program := "ythpfkdaijiaalaa", sum := "865fa4e8829a80f2ebb43196806c7478c2632c4ed3aa7f07dc22e2caf2999cae", func := "lattice/latticelaw06.PageChecks", spec := "pageChecks", unfollowed := true, recurses := true, apart := false, narrowed := true }
def PageChecksUptoSaid : Prop := pageChecksUptoRow.holds Try.pinned (OpenSpec.upto pageChecksSpec)

/-- 'latticelaw06.PageEncodes', WHERE WHAT IT READS IS OF BULK AT MOST 1048576: true; the input reads as it did. -/
def pageEncodesUptoRow : OpenClaim := { program := "ythpfkdaijiaalaa", sum := "865fa4e8829a80f2ebb43196806c7478c2632c4ed3aa7f07dc22e2caf2999cae", func := "lattice/latticelaw06.PageEncodes", spec := "pageEncodes", unfollowed := true, recurses := true, apart := false, narrowed := true }
def PageEncodesUptoSaid : Prop := pageEncodesUptoRow.holds Try.pinned (OpenSpec.upto pageEncodesSpec)

/-- 'latticelaw06.PageDecodes', WHERE WHAT IT READS IS OF BULK AT MOST 1048576: true; the input reads as it did. -/
def pageDecodesUptoRow : OpenClaim := { program := "ythpfkdaijiaalaa", sum := "865fa4e8829a80f2ebb43196806c7478c2632c4ed3aa7f07dc22e2caf2999cae", func := "lattice/latticelaw06.PageDecodes", spec := "pageDecodes", unfollowed := true, recurses := true, apart := false, narrowed := true }
def PageDecodesUptoSaid : Prop := pageDecodesUptoRow.holds Try.pinned (OpenSpec.upto pageDecodesSpec)

/-- 'latticelaw06.PageBack', WHERE WHAT IT READS IS OF BULK AT MOST 1048576: true; the input reads as it did. -/
def pageBackUptoRow : OpenClaim := { program := "ythpfkdaijiaalaa", sum := "865fa4e8829a80f2ebb43196806c7478c2632c4ed3aa7f07dc22e2caf2999cae", func := "lattice/latticelaw06.PageBack", spec := "pageBack", unfollowed := true, recurses := true, apart := false, narrowed := true }
def PageBackUptoSaid : Prop := pageBackUptoRow.holds Try.pinned (OpenSpec.upto pageBackSpec)

/-- 'latticelaw06.PageTurned', WHERE WHAT IT READS IS OF BULK AT MOST 1048576: true; the input reads as it did. -/
def pageTurnedUptoRow : OpenClaim := { program := "ythpfkdaijiaalaa", sum := "865fa4e8829a80f2ebb43196806c7478c2632c4ed3aa7f07dc22e2caf2999cae", func := "lattice/latticelaw06.PageTurned", spec := "pageTurned", unfollowed := true, recurses := true, apart := false, narrowed := true }
def PageTurnedUptoSaid : Prop := pageTurnedUptoRow.holds Try.pinned (OpenSpec.upto pageTurnedSpec)

/-- 'latticelaw06.PageGrows', WHERE WHAT IT READS IS OF BULK AT MOST 1048576: true; the input reads as it did. -/
def pageGrowsUptoRow : OpenClaim := { program := "ythpfkdaijiaalaa", sum := "865fa4e8829a80f2ebb43196806c7478c2632c4ed3aa7f07dc22e2caf2999cae", func := "lattice/latticelaw06.PageGrows", spec := "pageGrows", unfollowed := true, recurses := true, apart := false, narrowed := true }
def PageGrowsUptoSaid : Prop := pageGrowsUptoRow.holds Try.pinned (OpenSpec.upto pageGrowsSpec)

/-- 'latticelaw09.RecordEncodes', WHERE WHAT IT READS IS OF BULK AT MOST 1048576: true; the input reads as it did. -/
def recordEncodesUptoRow : OpenClaim := { program := "ythpfkdaijiaalaa", sum := "865fa4e8829a80f2ebb43196806c7478c2632c4ed3aa7f07dc22e2caf2999cae", func := "lattice/latticelaw09.RecordEncodes", spec := "recordEncodes", unfollowed := true, recurses := true, apart := false, narrowed := true }
def RecordEncodesUptoSaid : Prop := recordEncodesUptoRow.holds Try.pinned (OpenSpec.upto recordEncodesSpec)

/-- 'latticelaw09.RecordDecodes', WHERE WHAT IT READS IS OF BULK AT MOST 1048576: true; the input reads as it did. -/
def recordDecodesUptoRow : OpenClaim := { program := "ythpfkdaijiaalaa", sum := "865fa4e8829a80f2ebb43196806c7478c2632c4ed3aa7f07dc22e2caf2999cae", func := "lattice/latticelaw09.RecordDecodes", spec := "recordDecodes", unfollowed := true, recurses := true, apart := false, narrowed := true }
def RecordDecodesUptoSaid : Prop := recordDecodesUptoRow.holds Try.pinned (OpenSpec.upto recordDecodesSpec)

/-- 'latticelaw09.RecordBack', WHERE WHAT IT READS IS OF BULK AT MOST 1048576: true; the input reads as it did. -/
def recordBackUptoRow : OpenClaim := { program := "ythpfkdaijiaalaa", sum := "865fa4e8829a80f2ebb43196806c7478c2632c4ed3aa7f07dc22e2caf2999cae", func := "lattice/latticelaw09.RecordBack", spec := "recordBack", unfollowed := true, recurses := true, apart := false, narrowed := true }
def RecordBackUptoSaid : Prop := recordBackUptoRow.holds Try.pinned (OpenSpec.upto recordBackSpec)

/-- 'latticelaw09.RecordCut', WHERE WHAT IT READS IS OF BULK AT MOST 1048576: true; the input reads as it did. -/
def recordCutUptoRow : OpenClaim := { program := "ythpfkdaijiaalaa", sum := "865fa4e8829a80f2ebb43196806c7478c2632c4ed3aa7f07dc22e2caf2999cae", func := "lattice/latticelaw09.RecordCut", spec := "recordCut", unfollowed := true, recurses := true, apart := false, narrowed := true }
def RecordCutUptoSaid : Prop := recordCutUptoRow.holds Try.pinned (OpenSpec.upto recordCutSpec)

/-- 'latticelaw09.RecordRow', WHERE WHAT IT READS IS OF BULK AT MOST 1048576: true; the input reads as it did. -/
def recordRowUptoRow : OpenClaim := { program := "ythpfkdaijiaalaa", sum := "865fa4e8829a80f2ebb43196806c7478c2632c4ed3aa7f07dc22e2caf2999cae", func := "lattice/latticelaw09.RecordRow", spec := "recordRow", unfollowed := true, recurses := true, apart := false, narrowed := true }
def RecordRowUptoSaid : Prop := recordRowUptoRow.holds Try.pinned (OpenSpec.upto recordRowSpec)

/-- 'latticelaw20.ShipTakes', WHERE WHAT IT READS IS OF BULK AT MOST 1048576: true; the input reads as it did. -/
def shipTakesUptoRow : OpenClaim := { program := "ythpfkdaijiaalaa", sum := "865fa4e8829a80f2ebb43196806c7478c2632c4ed3aa7f07dc22e2caf2999cae", func := "lattice/latticelaw20.ShipTakes", spec := "shipTakes", unfollowed := true, recurses := true, apart := false, narrowed := true }
def ShipTakesUptoSaid : Prop := shipTakesUptoRow.holds Try.pinned (OpenSpec.upto shipTakesSpec)

/-- 'latticelaw20.ShipOne', WHERE WHAT IT READS IS OF BULK AT MOST 1048576: true; the input reads as it did. -/
def shipOneUptoRow : OpenClaim := { program := "ythpfkdaijiaalaa", sum := "865fa4e8829a80f2ebb43196806c7478c2632c4ed3aa7f07dc22e2caf2999cae", func := "lattice/latticelaw20.ShipOne", spec := "shipOne", unfollowed := true, recurses := true, apart := false, narrowed := true }
def ShipOneUptoSaid : Prop := shipOneUptoRow.holds Try.pinned (OpenSpec.upto shipOneSpec)

/-- 'latticelaw20.ShipCut', WHERE WHAT IT READS IS OF BULK AT MOST 1048576: true; the input reads as it did. -/
def shipCutUptoRow : OpenClaim := { program := "ythpfkdaijiaalaa", sum := "865fa4e8829a80f2ebb43196806c7478c2632c4ed3aa7f07dc22e2caf2999cae", func := "lattice/latticelaw20.ShipCut", spec := "shipCut", unfollowed := true, recurses := true, apart := false, narrowed := true }
def ShipCutUptoSaid : Prop := shipCutUptoRow.holds Try.pinned (OpenSpec.upto shipCutSpec)

/-- 'latticelaw10.WalTorn', WHERE WHAT IT READS IS OF BULK AT MOST 1048576: true; the input reads as it did. -/
def walTornUptoRow : OpenClaim := { program := "ythpfkdaijiaalaa", sum := "865fa4e8829a80f2ebb43196806c7478c2632c4ed3aa7f07dc22e2caf2999cae", func := "lattice/latticelaw10.WalTorn", spec := "walTorn", unfollowed := true, recurses := true, apart := false, narrowed := true }
def WalTornUptoSaid : Prop := walTornUptoRow.holds Try.pinned (OpenSpec.upto walTornSpec)

/-- 'latticelaw10.WalReads', WHERE WHAT IT READS IS OF BULK AT MOST 1048576: true; the input reads as it did. -/
def walReadsUptoRow : OpenClaim := { program := "ythpfkdaijiaalaa", sum := "865fa4e8829a80f2ebb43196806c7478c2632c4ed3aa7f07dc22e2caf2999cae", func := "lattice/latticelaw10.WalReads", spec := "walReads", unfollowed := true, recurses := true, apart := false, narrowed := true }
def WalReadsUptoSaid : Prop := walReadsUptoRow.holds Try.pinned (OpenSpec.upto walReadsSpec)

/-- 'latticelaw20.ShipSends', WHERE WHAT IT READS IS OF BULK AT MOST 1048576: true; the input reads as it did. -/
def shipSendsUptoRow : OpenClaim := { program := "ythpfkdaijiaalaa", sum := "865fa4e8829a80f2ebb43196806c7478c2632c4ed3aa7f07dc22e2caf2999cae", func := "lattice/latticelaw20.ShipSends", spec := "shipSends", unfollowed := true, recurses := true, apart := false, narrowed := true }
def ShipSendsUptoSaid : Prop := shipSendsUptoRow.holds Try.pinned (OpenSpec.upto shipSendsSpec)

/-- 'latticelaw20.ShipNil', WHERE WHAT IT READS IS OF BULK AT MOST 1048576: true; the input reads as it did. -/
def shipNilUptoRow : OpenClaim := { program := "ythpfkdaijiaalaa", sum := "865fa4e8829a80f2ebb43196806c7478c2632c4ed3aa7f07dc22e2caf2999cae", func := "lattice/latticelaw20.ShipNil", spec := "shipNil", unfollowed := true, recurses := true, apart := false, narrowed := true }
def ShipNilUptoSaid : Prop := shipNilUptoRow.holds Try.pinned (OpenSpec.upto shipNilSpec)

/-- 'latticelaw20.ShipComes', WHERE WHAT IT READS IS OF BULK AT MOST 1048576: true; the input reads as it did. -/
def shipComesUptoRow : OpenClaim := { program := "ythpfkdaijiaalaa", sum := "865fa4e8829a80f2ebb43196806c7478c2632c4ed3aa7f07dc22e2caf2999cae", func := "lattice/latticelaw20.ShipComes", spec := "shipComes", unfollowed := true, recurses := true, apart := false, narrowed := true }
def ShipComesUptoSaid : Prop := shipComesUptoRow.holds Try.pinned (OpenSpec.upto shipComesSpec)

/-- 'latticelaw10.WalGrows', WHERE WHAT IT READS IS OF BULK AT MOST 1048576: true; the input reads as it did. -/
def walGrowsUptoRow : OpenClaim := { program := "ythpfkdaijiaalaa", sum := "865fa4e8829a80f2ebb43196806c7478c2632c4ed3aa7f07dc22e2caf2999cae", func := "lattice/latticelaw10.WalGrows", spec := "walGrows", unfollowed := true, recurses := true, apart := false, narrowed := true }
def WalGrowsUptoSaid : Prop := walGrowsUptoRow.holds Try.pinned (OpenSpec.upto walGrowsSpec)

/-- 'latticelaw10.WalSteps', WHERE WHAT IT READS IS OF BULK AT MOST 1048576: true; the input reads as it did. -/
def walStepsUptoRow : OpenClaim := { program := "ythpfkdaijiaalaa", sum := "865fa4e8829a80f2ebb43196806c7478c2632c4ed3aa7f07dc22e2caf2999cae", func := "lattice/latticelaw10.WalSteps", spec := "walSteps", unfollowed := true, recurses := true, apart := false, narrowed := true }
def WalStepsUptoSaid : Prop := walStepsUptoRow.holds Try.pinned (OpenSpec.upto walStepsSpec)

/-- 'latticelaw10.WalNil', WHERE WHAT IT READS IS OF BULK AT MOST 1048576: true; the input reads as it did. -/
def walNilUptoRow : OpenClaim := { program := "ythpfkdaijiaalaa", sum := "865fa4e8829a80f2ebb43196806c7478c2632c4ed3aa7f07dc22e2caf2999cae", func := "lattice/latticelaw10.WalNil", spec := "walNil", unfollowed := true, recurses := true, apart := false, narrowed := true }
def WalNilUptoSaid : Prop := walNilUptoRow.holds Try.pinned (OpenSpec.upto walNilSpec)

end Rows
end Go.Proofs.Ythpfkdaijiaalaa
