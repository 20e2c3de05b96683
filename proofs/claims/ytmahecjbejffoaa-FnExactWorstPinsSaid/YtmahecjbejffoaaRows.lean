/-
  No cell of these rows narrows 'for every input' (looked for: loops, veiled, ifaces, maps, wideKeys, modest, calm, conditions, laid).
  DERIVED. THE GIVEN ROWS OF THIS SEAT. 12 by the template 'for every input the law returns true; each argument reads behind the call as it read before'; 0 by the template 'total and deterministic' (their statements: YtmahecjbejffoaaTotals.lean).
  GIVEN WITH THE SEED: the statements are not yours to turn. If you find one false, say at which input.
  Laid BY PROGRAM, IN A SANDBOX (cutbox-rows.mjs): the forced cells as the released guide's own fill.sh prints them over the translation 15592b6a35036960… (all of the seat's roots in one cut). By AI agents, Wed Nov 11 2026. No macro, syntax, notation, axiom, sorry.
-/
import Derived.Test.YtmahecjbejffoaaChecked
import GoSem.Claim
import GoSem.ClaimJoined
import GoSem.ClaimMapViews
import Derived.JoinedTies
import Derived.KernelRfl
namespace Go.Proofs.Ytmahecjbejffoaa
/- THE CELL 'sum', in the pinned program and in every row, IS THE sha256 OF THE DUMP (.gsa) THAT YtmahecjbejffoaaProg.lean LOADS. Nothing in Lean hashes anything: it is a label: what it is worth is what the hold of that sum in a sandbox is worth. -/
noncomputable def Try.pinned : Pinned := { name := "ytmahecjbejffoaa", sum := "15592b6a35036960c1b239bd1a566440eb4235d2b5251ec2c6b97e6946c46f29", checked := Try.checked }
namespace Rows
def none {H : Type} : Left H := { results := [], args := [] }

/-- 'laws.FnCircuits': WHATEVER THE INPUT: true; the input reads as it did. -/
def fnCircuitsSpec : ChangeSpec := { name := "fnCircuits", fn := fun _ => fun
  | [d] => { results := [.lit (.bool true)], args := [d] }
  | _ => none }
def fnCircuitsRow : OpenClaim := { program := "ytmahecjbejffoaa", sum := "15592b6a35036960c1b239bd1a566440eb4235d2b5251ec2c6b97e6946c46f29", func := "loop.example/g01049/laws.FnCircuits", spec := "fnCircuits", apart := false }
def FnCircuitsSaid : Prop := fnCircuitsRow.holds Try.pinned (OpenSpec.ofChange fnCircuitsSpec)

/-- ITS FALSE NEIGHBOUR: 'it returns false'. Refute it at one input. -/
def fnCircuitsWrong : ChangeSpec := { name := "fnCircuits", fn := fun _ => fun
  | [d] => { results := [.lit (.bool false)], args := [d] }
  | _ => none }
def FnCircuitsWrongFalsely : Prop := fnCircuitsRow.holds Try.pinned (OpenSpec.ofChange fnCircuitsWrong)

/-- 'laws.FnModules': WHATEVER THE INPUT: true; the input reads as it did. -/
def fnModulesSpec : ChangeSpec := { name := "fnModules", fn := fun _ => fun
  | [d] => { results := [.lit (.bool true)], args := [d] }
  | _ => none }
def fnModulesRow : OpenClaim := { program := "ytmahecjbejffoaa", sum := "15592b6a35036960c1b239bd1a566440eb4235d2b5251ec2c6b97e6946c46f29", func := "loop.example/g01049/laws.FnModules", spec := "fnModules", apart := false }
def FnModulesSaid : Prop := fnModulesRow.holds Try.pinned (OpenSpec.ofChange fnModulesSpec)

/-- ITS FALSE NEIGHBOUR: 'it returns false'. Refute it at one input. -/
def fnModulesWrong : ChangeSpec := { name := "fnModules", fn := fun _ => fun
  | [d] => { results := [.lit (.bool false)], args := [d] }
  | _ => none }
def FnModulesWrongFalsely : Prop := fnModulesRow.holds Try.pinned (OpenSpec.ofChange fnModulesWrong)

/-- 'laws.FnExactWorstPins': WHATEVER THE INPUT: true; the input reads as it did. -/
def fnExactWorstPinsSpec : ChangeSpec := { name := "fnExactWorstPins", fn := fun _ => fun
  | [d1, d2, d3] => { results := [.lit (.bool true)], args := [d1, d2, d3] }
  | _ => none }
def fnExactWorstPinsRow : OpenClaim := { program := "ytmahecjbejffoaa", sum := "15592b6a35036960c1b239bd1a566440eb4235d2b5251ec2c6b97e6946c46f29", func := "loop.example/g01049/laws.FnExactWorstPins", spec := "fnExactWorstPins", apart := false }
def FnExactWorstPinsSaid : Prop := fnExactWorstPinsRow.holds Try.pinned (OpenSpec.ofChange fnExactWorstPinsSpec)

/-- ITS FALSE NEIGHBOUR: 'it returns false'. Refute it at one input. -/
def fnExactWorstPinsWrong : ChangeSpec := { name := "fnExactWorstPins", fn := fun _ => fun
  | [d1, d2, d3] => { results := [.lit (.bool false)], args := [d1, d2, d3] }
  | _ => none }
def FnExactWorstPinsWrongFalsely : Prop := fnExactWorstPinsRow.holds Try.pinned (OpenSpec.ofChange fnExactWorstPinsWrong)

/-- 'laws.FnExactFreePins': WHATEVER THE INPUT: true; the input reads as it did. -/
def fnExactFreePinsSpec : ChangeSpec := { name := "fnExactFreePins", fn := fun _ => fun
  | [d1, d2, d3, d4] => { results := [.lit (.bool true)], args := [d1, d2, d3, d4] }
  | _ => none }
def fnExactFreePinsRow : OpenClaim := { program := "ytmahecjbejffoaa", sum := "15592b6a35036960c1b239bd1a566440eb4235d2b5251ec2c6b97e6946c46f29", func := "loop.example/g01049/laws.FnExactFreePins", spec := "fnExactFreePins", apart := false }
def FnExactFreePinsSaid : Prop := fnExactFreePinsRow.holds Try.pinned (OpenSpec.ofChange fnExactFreePinsSpec)

/-- ITS FALSE NEIGHBOUR: 'it returns false'. Refute it at one input. -/
def fnExactFreePinsWrong : ChangeSpec := { name := "fnExactFreePins", fn := fun _ => fun
  | [d1, d2, d3, d4] => { results := [.lit (.bool false)], args := [d1, d2, d3, d4] }
  | _ => none }
def FnExactFreePinsWrongFalsely : Prop := fnExactFreePinsRow.holds Try.pinned (OpenSpec.ofChange fnExactFreePinsWrong)

/-- 'laws.FnExactCutWire': WHATEVER THE INPUT: true; the input reads as it did. -/
def fnExactCutWireSpec : ChangeSpec := { name := "fnExactCutWire", fn := fun _ => fun
  | [d1, d2, d3, d4] => { results := [.lit (.bool true)], args := [d1, d2, d3, d4] }
  | _ => none }
def fnExactCutWireRow : OpenClaim := { program := "ytmahecjbejffoaa", sum := "15592b6a35036960c1b239bd1a566440eb4235d2b5251ec2c6b97e6946c46f29", func := "loop.example/g01049/laws.FnExactCutWire", spec := "fnExactCutWire", apart := false }
def FnExactCutWireSaid : Prop := fnExactCutWireRow.holds Try.pinned (OpenSpec.ofChange fnExactCutWireSpec)

/-- ITS FALSE NEIGHBOUR: 'it returns false'. Refute it at one input. -/
def fnExactCutWireWrong : ChangeSpec := { name := "fnExactCutWire", fn := fun _ => fun
  | [d1, d2, d3, d4] => { results := [.lit (.bool false)], args := [d1, d2, d3, d4] }
  | _ => none }
def FnExactCutWireWrongFalsely : Prop := fnExactCutWireRow.holds Try.pinned (OpenSpec.ofChange fnExactCutWireWrong)

/-- 'laws.FnModuleChanges': WHATEVER THE INPUT: true; the input reads as it did. -/
def fnModuleChangesSpec : ChangeSpec := { name := "fnModuleChanges", fn := fun _ => fun
  | [d] => { results := [.lit (.bool true)], args := [d] }
  | _ => none }
def fnModuleChangesRow : OpenClaim := { program := "ytmahecjbejffoaa", sum := "15592b6a35036960c1b239bd1a566440eb4235d2b5251ec2c6b97e6946c46f29", func := "loop.example/g01049/laws.FnModuleChanges", spec := "fnModuleChanges", apart := false }
def FnModuleChangesSaid : Prop := fnModuleChangesRow.holds Try.pinned (OpenSpec.ofChange fnModuleChangesSpec)

/-- ITS FALSE NEIGHBOUR: 'it returns false'. Refute it at one input. -/
def fnModuleChangesWrong : ChangeSpec := { name := "fnModuleChanges", fn := fun _ => fun
  | [d] => { results := [.lit (.bool false)], args := [d] }
  | _ => none }
def FnModuleChangesWrongFalsely : Prop := fnModuleChangesRow.holds Try.pinned (OpenSpec.ofChange fnModuleChangesWrong)

/-- 'laws.FnExactIsAllowed': WHATEVER THE INPUT: true; the input reads as it did. -/
def fnExactIsAllowedSpec : ChangeSpec := { name := "fnExactIsAllowed", fn := fun _ => fun
  | [d1, d2, d3, d4, d5] => { results := [.lit (.bool true)], args := [d1, d2, d3, d4, d5] }
  | _ => none }
def fnExactIsAllowedRow : OpenClaim := { program := "ytmahecjbejffoaa", sum := "15592b6a35036960c1b239bd1a566440eb4235d2b5251ec2c6b97e6946c46f29", func := "loop.example/g01049/laws.FnExactIsAllowed", spec := "fnExactIsAllowed", apart := false }
def FnExactIsAllowedSaid : Prop := fnExactIsAllowedRow.holds Try.pinned (OpenSpec.ofChange fnExactIsAllowedSpec)

/-- ITS FALSE NEIGHBOUR: 'it returns false'. Refute it at one input. -/
def fnExactIsAllowedWrong : ChangeSpec := { name := "fnExactIsAllowed", fn := fun _ => fun
  | [d1, d2, d3, d4, d5] => { results := [.lit (.bool false)], args := [d1, d2, d3, d4, d5] }
  | _ => none }
def FnExactIsAllowedWrongFalsely : Prop := fnExactIsAllowedRow.holds Try.pinned (OpenSpec.ofChange fnExactIsAllowedWrong)

/-- 'laws.FnExactLooseCues': WHATEVER THE INPUT: true; the input reads as it did. -/
def fnExactLooseCuesSpec : ChangeSpec := { name := "fnExactLooseCues", fn := fun _ => fun
  | [d1, d2, d3] => { results := [.lit (.bool true)], args := [d1, d2, d3] }
  | _ => none }
def fnExactLooseCuesRow : OpenClaim := { program := "ytmahecjbejffoaa", sum := "15592b6a35036960c1b239bd1a566440eb4235d2b5251ec2c6b97e6946c46f29", func := "loop.example/g01049/laws.FnExactLooseCues", spec := "fnExactLooseCues", apart := false }
def FnExactLooseCuesSaid : Prop := fnExactLooseCuesRow.holds Try.pinned (OpenSpec.ofChange fnExactLooseCuesSpec)

/-- ITS FALSE NEIGHBOUR: 'it returns false'. Refute it at one input. -/
def fnExactLooseCuesWrong : ChangeSpec := { name := "fnExactLooseCues", fn := fun _ => fun
  | [d1, d2, d3] => { results := [.lit (.bool false)], args := [d1, d2, d3] }
  | _ => none }
def FnExactLooseCuesWrongFalsely : Prop := fnExactLooseCuesRow.holds Try.pinned (OpenSpec.ofChange fnExactLooseCuesWrong)

/-- 'laws.FnExactMoveWire': WHATEVER THE INPUT: true; the input reads as it did. -/
def fnExactMoveWireSpec : ChangeSpec := { name := "fnExactMoveWire", fn := fun _ => fun
  | [d1, d2, d3, d4, d5, d6] => { results := [.lit (.bool true)], args := [d1, d2, d3, d4, d5, d6] }
  | _ => none }
def fnExactMoveWireRow : OpenClaim := { program := "ytmahecjbejffoaa", sum := "15592b6a35036960c1b239bd1a566440eb4235d2b5251ec2c6b97e6946c46f29", func := "loop.example/g01049/laws.FnExactMoveWire", spec := "fnExactMoveWire", apart := false }
def FnExactMoveWireSaid : Prop := fnExactMoveWireRow.holds Try.pinned (OpenSpec.ofChange fnExactMoveWireSpec)

/-- ITS FALSE NEIGHBOUR: 'it returns false'. Refute it at one input. -/
def fnExactMoveWireWrong : ChangeSpec := { name := "fnExactMoveWire", fn := fun _ => fun
  | [d1, d2, d3, d4, d5, d6] => { results := [.lit (.bool false)], args := [d1, d2, d3, d4, d5, d6] }
  | _ => none }
def FnExactMoveWireWrongFalsely : Prop := fnExactMoveWireRow.holds Try.pinned (OpenSpec.ofChange fnExactMoveWireWrong)

/-- 'laws.FnExactGreatestCalibre': WHATEVER THE INPUT: true; the input reads as it did. -/
def fnExactGreatestCalibreSpec : ChangeSpec := { name := "fnExactGreatestCalibre", fn := fun _ => fun
  | [d1, d2, d3, d4] => { results := [.lit (.bool true)], args := [d1, d2, d3, d4] }
  | _ => none }
def fnExactGreatestCalibreRow : OpenClaim := { program := "ytmahecjbejffoaa", sum := "15592b6a35036960c1b239bd1a566440eb4235d2b5251ec2c6b97e6946c46f29", func := "loop.example/g01049/laws.FnExactGreatestCalibre", spec := "fnExactGreatestCalibre", apart := false }
def FnExactGreatestCalibreSaid : Prop := fnExactGreatestCalibreRow.holds Try.pinned (OpenSpec.ofChange fnExactGreatestCalibreSpec)

/-- ITS FALSE NEIGHBOUR: 'it returns false'. Refute it at one input. -/
def fnExactGreatestCalibreWrong : ChangeSpec := { name := "fnExactGreatestCalibre", fn := fun _ => fun
  | [d1, d2, d3, d4] => { results := [.lit (.bool false)], args := [d1, d2, d3, d4] }
  | _ => none }
def FnExactGreatestCalibreWrongFalsely : Prop := fnExactGreatestCalibreRow.holds Try.pinned (OpenSpec.ofChange fnExactGreatestCalibreWrong)

/-- 'laws.FnExactCuesBelow': WHATEVER THE INPUT: true; the input reads as it did. -/
def fnExactCuesBelowSpec : ChangeSpec := { name := "fnExactCuesBelow", fn := fun _ => fun
  | [d1, d2, d3, d4] => { results := [.lit (.bool true)], args := [d1, d2, d3, d4] }
  | _ => none }
def fnExactCuesBelowRow : OpenClaim := { program := "ytmahecjbejffoaa", sum := "15592b6a35036960c1b239bd1a566440eb4235d2b5251ec2c6b97e6946c46f29", func := "loop.example/g01049/laws.FnExactCuesBelow", spec := "fnExactCuesBelow", apart := false }
def FnExactCuesBelowSaid : Prop := fnExactCuesBelowRow.holds Try.pinned (OpenSpec.ofChange fnExactCuesBelowSpec)

/-- ITS FALSE NEIGHBOUR: 'it returns false'. Refute it at one input. -/
def fnExactCuesBelowWrong : ChangeSpec := { name := "fnExactCuesBelow", fn := fun _ => fun
  | [d1, d2, d3, d4] => { results := [.lit (.bool false)], args := [d1, d2, d3, d4] }
  | _ => none }
def FnExactCuesBelowWrongFalsely : Prop := fnExactCuesBelowRow.holds Try.pinned (OpenSpec.ofChange fnExactCuesBelowWrong)

/-- 'laws.FnExactIsRack': WHATEVER THE INPUT: true; the input reads as it did. -/
def fnExactIsRackSpec : ChangeSpec := { name := "fnExactIsRack", fn := fun _ => fun
  | [d1, d2] => { results := [.lit (.bool true)], args := [d1, d2] }
  | _ => none }
def fnExactIsRackRow : OpenClaim := { program := "ytmahecjbejffoaa", sum := "15592b6a35036960c1b239bd1a566440eb4235d2b5251ec2c6b97e6946c46f29", func := "loop.example/g01049/laws.FnExactIsRack", spec := "fnExactIsRack", apart := false }
def FnExactIsRackSaid : Prop := fnExactIsRackRow.holds Try.pinned (OpenSpec.ofChange fnExactIsRackSpec)

/-- ITS FALSE NEIGHBOUR: 'it returns false'. Refute it at one input. -/
def fnExactIsRackWrong : ChangeSpec := { name := "fnExactIsRack", fn := fun _ => fun
  | [d1, d2] => { results := [.lit (.bool false)], args := [d1, d2] }
  | _ => none }
def FnExactIsRackWrongFalsely : Prop := fnExactIsRackRow.holds Try.pinned (OpenSpec.ofChange fnExactIsRackWrong)

/- THE SECOND FORM. 'bulk': how many values and letters a reading holds, each counted each time it is reached (what is shared counts as often as it is met; a slice's spare places count too). A statement '..UptoSaid' is the law's where the arguments, and the package variables that the reading takes, are together of bulk at most 1048576: NARROWER than '..Said'. Prove '..Said' where nothing that the law and all that it calls make is longer than what came in: it says more and counts as full. Else prove '..UptoSaid'. A law counts once. -/
mutual
def uptoBulk {H : Type} : DataW H → Nat
  | .lit (.string bytes) => bytes.length + 1
  | .lit _ => 1
  | .nil => 1
  | .ptr d => uptoBulk d + 1
  | .slice elems spare => uptoBulkAll elems + uptoBulkAll spare + 1
  | .agg parts => uptoBulkAll parts + 1
  | .iface _ d => uptoBulk d + 1
  | .map entries => uptoBulkEntries entries + 1
  | .held _ => 1
def uptoBulkAll {H : Type} : List (DataW H) → Nat
  | [] => 0
  | d :: r => uptoBulk d + uptoBulkAll r
def uptoBulkEntries {H : Type} : List (Lit × DataW H) → Nat
  | [] => 0
  | x :: r => uptoBulkEntry x + uptoBulkEntries r
def uptoBulkEntry {H : Type} : Lit × DataW H → Nat
  | (.string bytes, d) => bytes.length + uptoBulk d + 1
  | (_, d) => uptoBulk d + 1
 end
def uptoSmall : (H : Type) → List (DataW H) → Bool := fun _ ds => decide (uptoBulkAll ds ≤ 1048576)
def OpenSpec.upto (s : _root_.Go.ChangeSpec) : _root_.Go.OpenSpec := { _root_.Go.OpenSpec.ofChange s with cond := some uptoSmall }

/-- 'laws.FnCircuits', WHERE WHAT IT READS IS OF BULK AT MOST 1048576: true; the input reads as it did. -/
def fnCircuitsUptoRow : OpenClaim := { program := "ytmahecjbejffoaa", sum := "15592b6a35036960c1b239bd1a566440eb4235d2b5251ec2c6b97e6946c46f29", func := "loop.example/g01049/laws.FnCircuits", spec := "fnCircuits", apart := false, narrowed := true }
def FnCircuitsUptoSaid : Prop := fnCircuitsUptoRow.holds Try.pinned (OpenSpec.upto fnCircuitsSpec)

/-- 'laws.FnModules', WHERE WHAT IT READS IS OF BULK AT MOST 1048576: true; the input reads as it did. -/
def fnModulesUptoRow : OpenClaim := { program := "ytmahecjbejffoaa", sum := "15592b6a35036960c1b239bd1a566440eb4235d2b5251ec2c6b97e6946c46f29", func := "loop.example/g01049/laws.FnModules", spec := "fnModules", apart := false, narrowed := true }
def FnModulesUptoSaid : Prop := fnModulesUptoRow.holds Try.pinned (OpenSpec.upto fnModulesSpec)

/-- 'laws.FnExactWorstPins', WHERE WHAT IT READS IS OF BULK AT MOST 1048576: true; the input reads as it did. -/
def fnExactWorstPinsUptoRow : OpenClaim := { program := "ytmahecjbejffoaa", sum := "15592b6a35036960c1b239bd1a566440eb4235d2b5251ec2c6b97e6946c46f29", func := "loop.example/g01049/laws.FnExactWorstPins", spec := "fnExactWorstPins", apart := false, narrowed := true }
def FnExactWorstPinsUptoSaid : Prop := fnExactWorstPinsUptoRow.holds Try.pinned (OpenSpec.upto fnExactWorstPinsSpec)

/-- 'laws.FnExactFreePins', WHERE WHAT IT READS IS OF BULK AT MOST 1048576: true; the input reads as it did. -/
def fnExactFreePinsUptoRow : OpenClaim := { program := "ytmahecjbejffoaa", sum := "15592b6a35036960c1b239bd1a566440eb4235d2b5251ec2c6b97e6946c46f29", func := "loop.example/g01049/laws.FnExactFreePins", spec := "fnExactFreePins", apart := false, narrowed := true }
def FnExactFreePinsUptoSaid : Prop := fnExactFreePinsUptoRow.holds Try.pinned (OpenSpec.upto fnExactFreePinsSpec)

/-- 'laws.FnExactCutWire', WHERE WHAT IT READS IS OF BULK AT MOST 1048576: true; the input reads as it did. -/
def fnExactCutWireUptoRow : OpenClaim := { program := "ytmahecjbejffoaa", sum := "15592b6a35036960c1b239bd1a566440eb4235d2b5251ec2c6b97e6946c46f29", func := "loop.example/g01049/laws.FnExactCutWire", spec := "fnExactCutWire", apart := false, narrowed := true }
def FnExactCutWireUptoSaid : Prop := fnExactCutWireUptoRow.holds Try.pinned (OpenSpec.upto fnExactCutWireSpec)

/-- 'laws.FnModuleChanges', WHERE WHAT IT READS IS OF BULK AT MOST 1048576: true; the input reads as it did. -/
def fnModuleChangesUptoRow : OpenClaim := { program := "ytmahecjbejffoaa", sum := "15592b6a35036960c1b239bd1a566440eb4235d2b5251ec2c6b97e6946c46f29", func := "loop.example/g01049/laws.FnModuleChanges", spec := "fnModuleChanges", apart := false, narrowed := true }
def FnModuleChangesUptoSaid : Prop := fnModuleChangesUptoRow.holds Try.pinned (OpenSpec.upto fnModuleChangesSpec)

/-- 'laws.FnExactIsAllowed', WHERE WHAT IT READS IS OF BULK AT MOST 1048576: true; the input reads as it did. -/
def fnExactIsAllowedUptoRow : OpenClaim := { program := "ytmahecjbejffoaa", sum := "15592b6a35036960c1b239bd1a566440eb4235d2b5251ec2c6b97e6946c46f29", func := "loop.example/g01049/laws.FnExactIsAllowed", spec := "fnExactIsAllowed", apart := false, narrowed := true }
def FnExactIsAllowedUptoSaid : Prop := fnExactIsAllowedUptoRow.holds Try.pinned (OpenSpec.upto fnExactIsAllowedSpec)

/-- 'laws.FnExactLooseCues', WHERE WHAT IT READS IS OF BULK AT MOST 1048576: true; the input reads as it did. -/
def fnExactLooseCuesUptoRow : OpenClaim := { program := "ytmahecjbejffoaa", sum := "15592b6a35036960c1b239bd1a566440eb4235d2b5251ec2c6b97e6946c46f29", func := "loop.example/g01049/laws.FnExactLooseCues", spec := "fnExactLooseCues", apart := false, narrowed := true }
def FnExactLooseCuesUptoSaid : Prop := fnExactLooseCuesUptoRow.holds Try.pinned (OpenSpec.upto fnExactLooseCuesSpec)

/-- 'laws.FnExactMoveWire', WHERE WHAT IT READS IS OF BULK AT MOST 1048576: true; the input reads as it did. -/
def fnExactMoveWireUptoRow : OpenClaim := { program := "ytmahecjbejffoaa", sum := "15592b6a35036960c1b239bd1a566440eb4235d2b5251ec2c6b97e6946c46f29", func := "loop.example/g01049/laws.FnExactMoveWire", spec := "fnExactMoveWire", apart := false, narrowed := true }
def FnExactMoveWireUptoSaid : Prop := fnExactMoveWireUptoRow.holds Try.pinned (OpenSpec.upto fnExactMoveWireSpec)

/-- 'laws.FnExactGreatestCalibre', WHERE WHAT IT READS IS OF BULK AT MOST 1048576: true; the input reads as it did. -/
def fnExactGreatestCalibreUptoRow : OpenClaim := { program := "ytmahecjbejffoaa", sum := "15592b6a35036960c1b239bd1a566440eb4235d2b5251ec2c6b97e6946c46f29", func := "loop.example/g01049/laws.FnExactGreatestCalibre", spec := "fnExactGreatestCalibre", apart := false, narrowed := true }
def FnExactGreatestCalibreUptoSaid : Prop := fnExactGreatestCalibreUptoRow.holds Try.pinned (OpenSpec.upto fnExactGreatestCalibreSpec)

/-- 'laws.FnExactCuesBelow', WHERE WHAT IT READS IS OF BULK AT MOST 1048576: true; the input reads as it did. -/
def fnExactCuesBelowUptoRow : OpenClaim := { program := "ytmahecjbejffoaa", sum := "15592b6a35036960c1b239bd1a566440eb4235d2b5251ec2c6b97e6946c46f29", func := "loop.example/g01049/laws.FnExactCuesBelow", spec := "fnExactCuesBelow", apart := false, narrowed := true }
def FnExactCuesBelowUptoSaid : Prop := fnExactCuesBelowUptoRow.holds Try.pinned (OpenSpec.upto fnExactCuesBelowSpec)

/-- 'laws.FnExactIsRack', WHERE WHAT IT READS IS OF BULK AT MOST 1048576: true; the input reads as it did. -/
def fnExactIsRackUptoRow : OpenClaim := { program := "ytmahecjbejffoaa", sum := "15592b6a35036960c1b239bd1a566440eb4235d2b5251ec2c6b97e6946c46f29", func := "loop.example/g01049/laws.FnExactIsRack", spec := "fnExactIsRack", apart := false, narrowed := true }
def FnExactIsRackUptoSaid : Prop := fnExactIsRackUptoRow.holds Try.pinned (OpenSpec.upto fnExactIsRackSpec)

end Rows
end Go.Proofs.Ytmahecjbejffoaa
