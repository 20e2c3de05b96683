/-
  No cell of these rows narrows 'for every input' (looked for: loops, veiled, ifaces, maps, wideKeys, modest, calm, conditions, laid).
  DERIVED. THE GIVEN ROWS OF THIS SEAT. 8 by the template 'for every input the law returns true; each argument reads behind the call as it read before'; 0 by the template 'total and deterministic' (their statements: YtfplnebeojdgcaaTotals.lean).
  GIVEN WITH THE SEED: the statements are not yours to turn. If you find one false, say at which input.
  Laid BY PROGRAM, IN A SANDBOX (cutbox-rows.mjs): the forced cells as the released guide's own fill.sh prints them over the translation bafda9ebafcc9acd… (all of the seat's roots in one cut). By AI agents, Wed Nov 11 2026. No macro, syntax, notation, axiom, sorry.
-/
import Derived.Test.YtfplnebeojdgcaaChecked
import GoSem.Claim
import GoSem.ClaimJoined
import GoSem.ClaimMapViews
import Derived.JoinedTies
import Derived.KernelRfl
namespace Go.Proofs.Ytfplnebeojdgcaa
/- THE CELL 'sum', in the pinned program and in every row, IS THE sha256 OF THE DUMP (.gsa) THAT YtfplnebeojdgcaaProg.lean LOADS. Nothing in Lean hashes anything: it is a label: what it is worth is what the hold of that sum in a sandbox is worth. -/
noncomputable def Try.pinned : Pinned := { name := "ytfplnebeojdgcaa", sum := "bafda9ebafcc9acd3d0620ece45f06898771b01113a90f95fca451178a9caa58", checked := Try.checked }
namespace Rows
def none {H : Type} : Left H := { results := [], args := [] }

/-- 'laws.FnExactIsArea': WHATEVER THE INPUT: true; the input reads as it did. -/
def fnExactIsAreaSpec : ChangeSpec := { name := "fnExactIsArea", fn := fun _ => fun
  | [d] => { results := [.lit (.bool true)], args := [d] }
  | _ => none }
def fnExactIsAreaRow : OpenClaim := { program := "ytfplnebeojdgcaa", sum := "bafda9ebafcc9acd3d0620ece45f06898771b01113a90f95fca451178a9caa58", func := "loop.example/g01049/laws.FnExactIsArea", spec := "fnExactIsArea", apart := false }
def FnExactIsAreaSaid : Prop := fnExactIsAreaRow.holds Try.pinned (OpenSpec.ofChange fnExactIsAreaSpec)

/-- ITS FALSE NEIGHBOUR: 'it returns false'. Refute it at one input. -/
def fnExactIsAreaWrong : ChangeSpec := { name := "fnExactIsArea", fn := fun _ => fun
  | [d] => { results := [.lit (.bool false)], args := [d] }
  | _ => none }
def FnExactIsAreaWrongFalsely : Prop := fnExactIsAreaRow.holds Try.pinned (OpenSpec.ofChange fnExactIsAreaWrong)

/-- 'laws.FnExactMostIgniters': WHATEVER THE INPUT: true; the input reads as it did. -/
def fnExactMostIgnitersSpec : ChangeSpec := { name := "fnExactMostIgniters", fn := fun _ => fun
  | [d1, d2, d3, d4] => { results := [.lit (.bool true)], args := [d1, d2, d3, d4] }
  | _ => none }
def fnExactMostIgnitersRow : OpenClaim := { program := "ytfplnebeojdgcaa", sum := "bafda9ebafcc9acd3d0620ece45f06898771b01113a90f95fca451178a9caa58", func := "loop.example/g01049/laws.FnExactMostIgniters", spec := "fnExactMostIgniters", apart := false }
def FnExactMostIgnitersSaid : Prop := fnExactMostIgnitersRow.holds Try.pinned (OpenSpec.ofChange fnExactMostIgnitersSpec)

/-- ITS FALSE NEIGHBOUR: 'it returns false'. Refute it at one input. -/
def fnExactMostIgnitersWrong : ChangeSpec := { name := "fnExactMostIgniters", fn := fun _ => fun
  | [d1, d2, d3, d4] => { results := [.lit (.bool false)], args := [d1, d2, d3, d4] }
  | _ => none }
def FnExactMostIgnitersWrongFalsely : Prop := fnExactMostIgnitersRow.holds Try.pinned (OpenSpec.ofChange fnExactMostIgnitersWrong)

/-- 'laws.FnExactSquareTo': WHATEVER THE INPUT: true; the input reads as it did. -/
def fnExactSquareToSpec : ChangeSpec := { name := "fnExactSquareTo", fn := fun _ => fun
  | [d1, d2, d3] => { results := [.lit (.bool true)], args := [d1, d2, d3] }
  | _ => none }
def fnExactSquareToRow : OpenClaim := { program := "ytfplnebeojdgcaa", sum := "bafda9ebafcc9acd3d0620ece45f06898771b01113a90f95fca451178a9caa58", func := "loop.example/g01049/laws.FnExactSquareTo", spec := "fnExactSquareTo", apart := false }
def FnExactSquareToSaid : Prop := fnExactSquareToRow.holds Try.pinned (OpenSpec.ofChange fnExactSquareToSpec)

/-- ITS FALSE NEIGHBOUR: 'it returns false'. Refute it at one input. -/
def fnExactSquareToWrong : ChangeSpec := { name := "fnExactSquareTo", fn := fun _ => fun
  | [d1, d2, d3] => { results := [.lit (.bool false)], args := [d1, d2, d3] }
  | _ => none }
def FnExactSquareToWrongFalsely : Prop := fnExactSquareToRow.holds Try.pinned (OpenSpec.ofChange fnExactSquareToWrong)

/-- 'laws.FnExactAreaText': WHATEVER THE INPUT: true; the input reads as it did. -/
def fnExactAreaTextSpec : ChangeSpec := { name := "fnExactAreaText", fn := fun _ => fun
  | [d] => { results := [.lit (.bool true)], args := [d] }
  | _ => none }
def fnExactAreaTextRow : OpenClaim := { program := "ytfplnebeojdgcaa", sum := "bafda9ebafcc9acd3d0620ece45f06898771b01113a90f95fca451178a9caa58", func := "loop.example/g01049/laws.FnExactAreaText", spec := "fnExactAreaText", recurses := true, apart := false }
def FnExactAreaTextSaid : Prop := fnExactAreaTextRow.holds Try.pinned (OpenSpec.ofChange fnExactAreaTextSpec)

/-- ITS FALSE NEIGHBOUR: 'it returns false'. Refute it at one input. -/
def fnExactAreaTextWrong : ChangeSpec := { name := "fnExactAreaText", fn := fun _ => fun
  | [d] => { results := [.lit (.bool false)], args := [d] }
  | _ => none }
def FnExactAreaTextWrongFalsely : Prop := fnExactAreaTextRow.holds Try.pinned (OpenSpec.ofChange fnExactAreaTextWrong)

/-- 'laws.FnExactAreModules': WHATEVER THE INPUT: true; the input reads as it did. -/
def fnExactAreModulesSpec : ChangeSpec := { name := "fnExactAreModules", fn := fun _ => fun
  | [d] => { results := [.lit (.bool true)], args := [d] }
  | _ => none }
def fnExactAreModulesRow : OpenClaim := { program := "ytfplnebeojdgcaa", sum := "bafda9ebafcc9acd3d0620ece45f06898771b01113a90f95fca451178a9caa58", func := "loop.example/g01049/laws.FnExactAreModules", spec := "fnExactAreModules", apart := false }
def FnExactAreModulesSaid : Prop := fnExactAreModulesRow.holds Try.pinned (OpenSpec.ofChange fnExactAreModulesSpec)

/-- ITS FALSE NEIGHBOUR: 'it returns false'. Refute it at one input. -/
def fnExactAreModulesWrong : ChangeSpec := { name := "fnExactAreModules", fn := fun _ => fun
  | [d] => { results := [.lit (.bool false)], args := [d] }
  | _ => none }
def FnExactAreModulesWrongFalsely : Prop := fnExactAreModulesRow.holds Try.pinned (OpenSpec.ofChange fnExactAreModulesWrong)

/-- 'laws.FnExactIsCircuit': WHATEVER THE INPUT: true; the input reads as it did. -/
def fnExactIsCircuitSpec : ChangeSpec := { name := "fnExactIsCircuit", fn := fun _ => fun
  | [d] => { results := [.lit (.bool true)], args := [d] }
  | _ => none }
def fnExactIsCircuitRow : OpenClaim := { program := "ytfplnebeojdgcaa", sum := "bafda9ebafcc9acd3d0620ece45f06898771b01113a90f95fca451178a9caa58", func := "loop.example/g01049/laws.FnExactIsCircuit", spec := "fnExactIsCircuit", apart := false }
def FnExactIsCircuitSaid : Prop := fnExactIsCircuitRow.holds Try.pinned (OpenSpec.ofChange fnExactIsCircuitSpec)

/-- ITS FALSE NEIGHBOUR: 'it returns false'. Refute it at one input. -/
def fnExactIsCircuitWrong : ChangeSpec := { name := "fnExactIsCircuit", fn := fun _ => fun
  | [d] => { results := [.lit (.bool false)], args := [d] }
  | _ => none }
def FnExactIsCircuitWrongFalsely : Prop := fnExactIsCircuitRow.holds Try.pinned (OpenSpec.ofChange fnExactIsCircuitWrong)

/-- 'laws.FnExactIsTable': WHATEVER THE INPUT: true; the input reads as it did. -/
def fnExactIsTableSpec : ChangeSpec := { name := "fnExactIsTable", fn := fun _ => fun
  | [d] => { results := [.lit (.bool true)], args := [d] }
  | _ => none }
def fnExactIsTableRow : OpenClaim := { program := "ytfplnebeojdgcaa", sum := "bafda9ebafcc9acd3d0620ece45f06898771b01113a90f95fca451178a9caa58", func := "loop.example/g01049/laws.FnExactIsTable", spec := "fnExactIsTable", apart := false }
def FnExactIsTableSaid : Prop := fnExactIsTableRow.holds Try.pinned (OpenSpec.ofChange fnExactIsTableSpec)

/-- ITS FALSE NEIGHBOUR: 'it returns false'. Refute it at one input. -/
def fnExactIsTableWrong : ChangeSpec := { name := "fnExactIsTable", fn := fun _ => fun
  | [d] => { results := [.lit (.bool false)], args := [d] }
  | _ => none }
def FnExactIsTableWrongFalsely : Prop := fnExactIsTableRow.holds Try.pinned (OpenSpec.ofChange fnExactIsTableWrong)

/-- 'laws.FnExactAllowedPlaces': WHATEVER THE INPUT: true; the input reads as it did. -/
def fnExactAllowedPlacesSpec : ChangeSpec := { name := "fnExactAllowedPlaces", fn := fun _ => fun
  | [d1, d2, d3, d4, d5] => { results := [.lit (.bool true)], args := [d1, d2, d3, d4, d5] }
  | _ => none }
def fnExactAllowedPlacesRow : OpenClaim := { program := "ytfplnebeojdgcaa", sum := "bafda9ebafcc9acd3d0620ece45f06898771b01113a90f95fca451178a9caa58", func := "loop.example/g01049/laws.FnExactAllowedPlaces", spec := "fnExactAllowedPlaces", apart := false }
def FnExactAllowedPlacesSaid : Prop := fnExactAllowedPlacesRow.holds Try.pinned (OpenSpec.ofChange fnExactAllowedPlacesSpec)

/-- ITS FALSE NEIGHBOUR: 'it returns false'. Refute it at one input. -/
def fnExactAllowedPlacesWrong : ChangeSpec := { name := "fnExactAllowedPlaces", fn := fun _ => fun
  | [d1, d2, d3, d4, d5] => { results := [.lit (.bool false)], args := [d1, d2, d3, d4, d5] }
  | _ => none }
def FnExactAllowedPlacesWrongFalsely : Prop := fnExactAllowedPlacesRow.holds Try.pinned (OpenSpec.ofChange fnExactAllowedPlacesWrong)

/- THE SECOND FORM. 'bulk': how many values and letters a reading holds, each counted each time it is reached (what is shared counts as often as it is met; a slice's spare places count too). A statement '..UptoSaid' is the law's where the arguments, and the package variables that the reading takes, are together of bulk at most 1048576: NARROWER than '..Said'. Prove '..Said' where nothing that the law and all that it calls make is longer than what came in: it says more and counts as full. Else prove '..UptoSaid'. A law counts once. -/
mutual
def uptoBulk {H : Type} : DataW H → Nat
  | .lit (.string bytes) => bytes.length + 1
  | .lit _ => 1
  | .nil => 1
  | .ptr d => uptoBulk d + 1
  | .slice elems spare => uptoBulkAll elems + uptoBulkAll spare + 1
  | .agg parts => uptoBulkAll parts + 1
  | .iface _ d => uptoBulk d + 1
  | .map entries => uptoBulkEntries entries + 1
  | .held _ => 1
def uptoBulkAll {H : Type} : List (DataW H) → Nat
  | [] => 0
  | d :: r => uptoBulk d + uptoBulkAll r
def uptoBulkEntries {H : Type} : List (Lit × DataW H) → Nat
  | [] => 0
  | x :: r => uptoBulkEntry x + uptoBulkEntries r
def uptoBulkEntry {H : Type} : Lit × DataW H → Nat
  | (.string bytes, d) => bytes.length + uptoBulk d + 1
  | (_, d) => uptoBulk d + 1
 end
def uptoSmall : (H : Type) → List (DataW H) → Bool := fun _ ds => decide (uptoBulkAll ds ≤ 1048576)
def OpenSpec.upto (s : _root_.Go.ChangeSpec) : _root_.Go.OpenSpec := { _root_.Go.OpenSpec.ofChange s with cond := some uptoSmall }

/-- 'laws.FnExactIsArea', WHERE WHAT IT READS IS OF BULK AT MOST 1048576: true; the input reads as it did. -/
def fnExactIsAreaUptoRow : OpenClaim := { program := "ytfplnebeojdgcaa", sum := "bafda9ebafcc9acd3d0620ece45f06898771b01113a90f95fca451178a9caa58", func := "loop.example/g01049/laws.FnExactIsArea", spec := "fnExactIsArea", apart := false, narrowed := true }
def FnExactIsAreaUptoSaid : Prop := fnExactIsAreaUptoRow.holds Try.pinned (OpenSpec.upto fnExactIsAreaSpec)

/-- 'laws.FnExactMostIgniters', WHERE WHAT IT READS IS OF BULK AT MOST 1048576: true; the input reads as it did. -/
def fnExactMostIgnitersUptoRow : OpenClaim := { program := "ytfplnebeojdgcaa", sum := "bafda9ebafcc9acd3d0620ece45f06898771b01113a90f95fca451178a9caa58", func := "loop.example/g01049/laws.FnExactMostIgniters", spec := "fnExactMostIgniters", apart := false, narrowed := true }
def FnExactMostIgnitersUptoSaid : Prop := fnExactMostIgnitersUptoRow.holds Try.pinned (OpenSpec.upto fnExactMostIgnitersSpec)

/-- 'laws.FnExactSquareTo', WHERE WHAT IT READS IS OF BULK AT MOST 1048576: true; the input reads as it did. -/
def fnExactSquareToUptoRow : OpenClaim := { program := "ytfplnebeojdgcaa", sum := "bafda9ebafcc9acd3d0620ece45f06898771b01113a90f95fca451178a9caa58", func := "loop.example/g01049/laws.FnExactSquareTo", spec := "fnExactSquareTo", apart := false, narrowed := true }
def FnExactSquareToUptoSaid : Prop := fnExactSquareToUptoRow.holds Try.pinned (OpenSpec.upto fnExactSquareToSpec)

/-- 'laws.FnExactAreaText', WHERE WHAT IT READS IS OF BULK AT MOST 1048576: true; the input reads as it did. -/
def fnExactAreaTextUptoRow : OpenClaim := { program := "ytfplnebeojdgcaa", sum := "bafda9ebafcc9acd3d0620ece45f06898771b01113a90f95fca451178a9caa58", func := "loop.example/g01049/laws.FnExactAreaText", spec := "fnExactAreaText", recurses := true, apart := false, narrowed := true }
def FnExactAreaTextUptoSaid : Prop := fnExactAreaTextUptoRow.holds Try.pinned (OpenSpec.upto fnExactAreaTextSpec)

/-- 'laws.FnExactAreModules', WHERE WHAT IT READS IS OF BULK AT MOST 1048576: true; the input reads as it did. -/
def fnExactAreModulesUptoRow : OpenClaim := { program := "ytfplnebeojdgcaa", sum := "bafda9ebafcc9acd3d0620ece45f06898771b01113a90f95fca451178a9caa58", func := "loop.example/g01049/laws.FnExactAreModules", spec := "fnExactAreModules", apart := false, narrowed := true }
def FnExactAreModulesUptoSaid : Prop := fnExactAreModulesUptoRow.holds Try.pinned (OpenSpec.upto fnExactAreModulesSpec)

/-- 'laws.FnExactIsCircuit', WHERE WHAT IT READS IS OF BULK AT MOST 1048576: true; the input reads as it did. -/
def fnExactIsCircuitUptoRow : OpenClaim := { program := "ytfplnebeojdgcaa", sum := "bafda9ebafcc9acd3d0620ece45f06898771b01113a90f95fca451178a9caa58", func := "loop.example/g01049/laws.FnExactIsCircuit", spec := "fnExactIsCircuit", apart := false, narrowed := true }
def FnExactIsCircuitUptoSaid : Prop := fnExactIsCircuitUptoRow.holds Try.pinned (OpenSpec.upto fnExactIsCircuitSpec)

/-- 'laws.FnExactIsTable', WHERE WHAT IT READS IS OF BULK AT MOST 1048576: true; the input reads as it did. -/
def fnExactIsTableUptoRow : OpenClaim := { program := "ytfplnebeojdgcaa", sum := "bafda9ebafcc9acd3d0620ece45f06898771b01113a90f95fca451178a9caa58", func := "loop.example/g01049/laws.FnExactIsTable", spec := "fnExactIsTable", apart := false, narrowed := true }
def FnExactIsTableUptoSaid : Prop := fnExactIsTableUptoRow.holds Try.pinned (OpenSpec.upto fnExactIsTableSpec)

/-- 'laws.FnExactAllowedPlaces', WHERE WHAT IT READS IS OF BULK AT MOST 1048576: true; the input reads as it did. -/
def fnExactAllowedPlacesUptoRow : OpenClaim := { program := "ytfplnebeojdgcaa", sum := "bafda9ebafcc9acd3d0620ece45f06898771b01113a90f95fca451178a9caa58", func := "loop.example/g01049/laws.FnExactAllowedPlaces", spec := "fnExactAllowedPlaces", apart := false, narrowed := true }
def FnExactAllowedPlacesUptoSaid : Prop := fnExactAllowedPlacesUptoRow.holds Try.pinned (OpenSpec.upto fnExactAllowedPlacesSpec)

end Rows
end Go.Proofs.Ytfplnebeojdgcaa
