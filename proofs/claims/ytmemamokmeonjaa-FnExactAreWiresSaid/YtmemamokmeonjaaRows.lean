/-
  No cell of these rows narrows 'for every input' (looked for: loops, veiled, ifaces, maps, wideKeys, modest, calm, conditions, laid).
  DERIVED. THE GIVEN ROWS OF THIS SEAT. 12 by the template 'for every input the law returns true; each argument reads behind the call as it read before'; 0 by the template 'total and deterministic' (their statements: YtmemamokmeonjaaTotals.lean).
  GIVEN WITH THE SEED: the statements are not yours to turn. If you find one false, say at which input.
  Laid BY PROGRAM, IN A SANDBOX (cutbox-rows.mjs): the forced cells as the released guide's own fill.sh prints them over the translation 583f9022f45933a5… (all of the seat's roots in one cut). By AI agents, Wed Nov 11 2026. No macro, syntax, notation, axiom, sorry.
-/
import Derived.Test.YtmemamokmeonjaaChecked
import GoSem.Claim
import GoSem.ClaimJoined
import GoSem.ClaimMapViews
import Derived.JoinedTies
import Derived.KernelRfl
namespace Go.Proofs.Ytmemamokmeonjaa
/- THE CELL 'sum', in the pinned program and in every row, IS THE sha256 OF THE DUMP (.gsa) THAT YtmemamokmeonjaaProg.lean LOADS. Nothing in Lean hashes anything: it is a label: what it is worth is what the hold of that sum in a sandbox is worth. -/
noncomputable def Try.pinned : Pinned := { name := "ytmemamokmeonjaa", sum := "583f9022f45933a5f3cdad181c5dd44689d007119772d484cd617ad78f4cfa4f", checked := Try.checked }
namespace Rows
def none {H : Type} : Left H := { results := [], args := [] }

/-- 'laws.FnExactPinsBelow': WHATEVER THE INPUT: true; the input reads as it did. -/
def fnExactPinsBelowSpec : ChangeSpec := { name := "fnExactPinsBelow", fn := fun _ => fun
  | [d1, d2] => { results := [.lit (.bool true)], args := [d1, d2] }
  | _ => none }
def fnExactPinsBelowRow : OpenClaim := { program := "ytmemamokmeonjaa", sum := "583f9022f45933a5f3cdad181c5dd44689d007119772d484cd617ad78f4cfa4f", func := "loop.example/g01049/laws.FnExactPinsBelow", spec := "fnExactPinsBelow", apart := false }
def FnExactPinsBelowSaid : Prop := fnExactPinsBelowRow.holds Try.pinned (OpenSpec.ofChange fnExactPinsBelowSpec)

/-- ITS FALSE NEIGHBOUR: 'it returns false'. Refute it at one input. -/
def fnExactPinsBelowWrong : ChangeSpec := { name := "fnExactPinsBelow", fn := fun _ => fun
  | [d1, d2] => { results := [.lit (.bool false)], args := [d1, d2] }
  | _ => none }
def FnExactPinsBelowWrongFalsely : Prop := fnExactPinsBelowRow.holds Try.pinned (OpenSpec.ofChange fnExactPinsBelowWrong)

/-- 'laws.FnExactChildrenOf': WHATEVER THE INPUT: true; the input reads as it did. -/
def fnExactChildrenOfSpec : ChangeSpec := { name := "fnExactChildrenOf", fn := fun _ => fun
  | [d1, d2] => { results := [.lit (.bool true)], args := [d1, d2] }
  | _ => none }
def fnExactChildrenOfRow : OpenClaim := { program := "ytmemamokmeonjaa", sum := "583f9022f45933a5f3cdad181c5dd44689d007119772d484cd617ad78f4cfa4f", func := "loop.example/g01049/laws.FnExactChildrenOf", spec := "fnExactChildrenOf", apart := false }
def FnExactChildrenOfSaid : Prop := fnExactChildrenOfRow.holds Try.pinned (OpenSpec.ofChange fnExactChildrenOfSpec)

/-- ITS FALSE NEIGHBOUR: 'it returns false'. Refute it at one input. -/
def fnExactChildrenOfWrong : ChangeSpec := { name := "fnExactChildrenOf", fn := fun _ => fun
  | [d1, d2] => { results := [.lit (.bool false)], args := [d1, d2] }
  | _ => none }
def FnExactChildrenOfWrongFalsely : Prop := fnExactChildrenOfRow.holds Try.pinned (OpenSpec.ofChange fnExactChildrenOfWrong)

/-- 'laws.FnExactNearestArea': WHATEVER THE INPUT: true; the input reads as it did. -/
def fnExactNearestAreaSpec : ChangeSpec := { name := "fnExactNearestArea", fn := fun _ => fun
  | [d1, d2, d3, d4] => { results := [.lit (.bool true)], args := [d1, d2, d3, d4] }
  | _ => none }
def fnExactNearestAreaRow : OpenClaim := { program := "ytmemamokmeonjaa", sum := "583f9022f45933a5f3cdad181c5dd44689d007119772d484cd617ad78f4cfa4f", func := "loop.example/g01049/laws.FnExactNearestArea", spec := "fnExactNearestArea", apart := false }
def FnExactNearestAreaSaid : Prop := fnExactNearestAreaRow.holds Try.pinned (OpenSpec.ofChange fnExactNearestAreaSpec)

/-- ITS FALSE NEIGHBOUR: 'it returns false'. Refute it at one input. -/
def fnExactNearestAreaWrong : ChangeSpec := { name := "fnExactNearestArea", fn := fun _ => fun
  | [d1, d2, d3, d4] => { results := [.lit (.bool false)], args := [d1, d2, d3, d4] }
  | _ => none }
def FnExactNearestAreaWrongFalsely : Prop := fnExactNearestAreaRow.holds Try.pinned (OpenSpec.ofChange fnExactNearestAreaWrong)

/-- 'laws.FnTables': WHATEVER THE INPUT: true; the input reads as it did. -/
def fnTablesSpec : ChangeSpec := { name := "fnTables", fn := fun _ => fun
  | [d] => { results := [.lit (.bool true)], args := [d] }
  | _ => none }
def fnTablesRow : OpenClaim := { program := "ytmemamokmeonjaa", sum := "583f9022f45933a5f3cdad181c5dd44689d007119772d484cd617ad78f4cfa4f", func := "loop.example/g01049/laws.FnTables", spec := "fnTables", apart := false }
def FnTablesSaid : Prop := fnTablesRow.holds Try.pinned (OpenSpec.ofChange fnTablesSpec)

/-- ITS FALSE NEIGHBOUR: 'it returns false'. Refute it at one input. -/
def fnTablesWrong : ChangeSpec := { name := "fnTables", fn := fun _ => fun
  | [d] => { results := [.lit (.bool false)], args := [d] }
  | _ => none }
def FnTablesWrongFalsely : Prop := fnTablesRow.holds Try.pinned (OpenSpec.ofChange fnTablesWrong)

/-- 'laws.FnExactWayToMaster': WHATEVER THE INPUT: true; the input reads as it did. -/
def fnExactWayToMasterSpec : ChangeSpec := { name := "fnExactWayToMaster", fn := fun _ => fun
  | [d1, d2] => { results := [.lit (.bool true)], args := [d1, d2] }
  | _ => none }
def fnExactWayToMasterRow : OpenClaim := { program := "ytmemamokmeonjaa", sum := "583f9022f45933a5f3cdad181c5dd44689d007119772d484cd617ad78f4cfa4f", func := "loop.example/g01049/laws.FnExactWayToMaster", spec := "fnExactWayToMaster", apart := false }
def FnExactWayToMasterSaid : Prop := fnExactWayToMasterRow.holds Try.pinned (OpenSpec.ofChange fnExactWayToMasterSpec)

/-- ITS FALSE NEIGHBOUR: 'it returns false'. Refute it at one input. -/
def fnExactWayToMasterWrong : ChangeSpec := { name := "fnExactWayToMaster", fn := fun _ => fun
  | [d1, d2] => { results := [.lit (.bool false)], args := [d1, d2] }
  | _ => none }
def FnExactWayToMasterWrongFalsely : Prop := fnExactWayToMasterRow.holds Try.pinned (OpenSpec.ofChange fnExactWayToMasterWrong)

/-- 'laws.FnExactStateOf': WHATEVER THE INPUT: true; the input reads as it did. -/
def fnExactStateOfSpec : ChangeSpec := { name := "fnExactStateOf", fn := fun _ => fun
  | [d1, d2, d3] => { results := [.lit (.bool true)], args := [d1, d2, d3] }
  | _ => none }
def fnExactStateOfRow : OpenClaim := { program := "ytmemamokmeonjaa", sum := "583f9022f45933a5f3cdad181c5dd44689d007119772d484cd617ad78f4cfa4f", func := "loop.example/g01049/laws.FnExactStateOf", spec := "fnExactStateOf", apart := false }
def FnExactStateOfSaid : Prop := fnExactStateOfRow.holds Try.pinned (OpenSpec.ofChange fnExactStateOfSpec)

/-- ITS FALSE NEIGHBOUR: 'it returns false'. Refute it at one input. -/
def fnExactStateOfWrong : ChangeSpec := { name := "fnExactStateOf", fn := fun _ => fun
  | [d1, d2, d3] => { results := [.lit (.bool false)], args := [d1, d2, d3] }
  | _ => none }
def FnExactStateOfWrongFalsely : Prop := fnExactStateOfRow.holds Try.pinned (OpenSpec.ofChange fnExactStateOfWrong)

/-- 'laws.FnExactWidenTable': WHATEVER THE INPUT: true; the input reads as it did. -/
def fnExactWidenTableSpec : ChangeSpec := { name := "fnExactWidenTable", fn := fun _ => fun
  | [d1, d2] => { results := [.lit (.bool true)], args := [d1, d2] }
  | _ => none }
def fnExactWidenTableRow : OpenClaim := { program := "ytmemamokmeonjaa", sum := "583f9022f45933a5f3cdad181c5dd44689d007119772d484cd617ad78f4cfa4f", func := "loop.example/g01049/laws.FnExactWidenTable", spec := "fnExactWidenTable", apart := false }
def FnExactWidenTableSaid : Prop := fnExactWidenTableRow.holds Try.pinned (OpenSpec.ofChange fnExactWidenTableSpec)

/-- ITS FALSE NEIGHBOUR: 'it returns false'. Refute it at one input. -/
def fnExactWidenTableWrong : ChangeSpec := { name := "fnExactWidenTable", fn := fun _ => fun
  | [d1, d2] => { results := [.lit (.bool false)], args := [d1, d2] }
  | _ => none }
def FnExactWidenTableWrongFalsely : Prop := fnExactWidenTableRow.holds Try.pinned (OpenSpec.ofChange fnExactWidenTableWrong)

/-- 'laws.FnExactReadArea': WHATEVER THE INPUT: true; the input reads as it did. -/
def fnExactReadAreaSpec : ChangeSpec := { name := "fnExactReadArea", fn := fun _ => fun
  | [d] => { results := [.lit (.bool true)], args := [d] }
  | _ => none }
def fnExactReadAreaRow : OpenClaim := { program := "ytmemamokmeonjaa", sum := "583f9022f45933a5f3cdad181c5dd44689d007119772d484cd617ad78f4cfa4f", func := "loop.example/g01049/laws.FnExactReadArea", spec := "fnExactReadArea", recurses := true, apart := false }
def FnExactReadAreaSaid : Prop := fnExactReadAreaRow.holds Try.pinned (OpenSpec.ofChange fnExactReadAreaSpec)

/-- ITS FALSE NEIGHBOUR: 'it returns false'. Refute it at one input. -/
def fnExactReadAreaWrong : ChangeSpec := { name := "fnExactReadArea", fn := fun _ => fun
  | [d] => { results := [.lit (.bool false)], args := [d] }
  | _ => none }
def FnExactReadAreaWrongFalsely : Prop := fnExactReadAreaRow.holds Try.pinned (OpenSpec.ofChange fnExactReadAreaWrong)

/-- 'laws.FnExactChainTimes': WHATEVER THE INPUT: true; the input reads as it did. -/
def fnExactChainTimesSpec : ChangeSpec := { name := "fnExactChainTimes", fn := fun _ => fun
  | [d] => { results := [.lit (.bool true)], args := [d] }
  | _ => none }
def fnExactChainTimesRow : OpenClaim := { program := "ytmemamokmeonjaa", sum := "583f9022f45933a5f3cdad181c5dd44689d007119772d484cd617ad78f4cfa4f", func := "loop.example/g01049/laws.FnExactChainTimes", spec := "fnExactChainTimes", apart := false }
def FnExactChainTimesSaid : Prop := fnExactChainTimesRow.holds Try.pinned (OpenSpec.ofChange fnExactChainTimesSpec)

/-- ITS FALSE NEIGHBOUR: 'it returns false'. Refute it at one input. -/
def fnExactChainTimesWrong : ChangeSpec := { name := "fnExactChainTimes", fn := fun _ => fun
  | [d] => { results := [.lit (.bool false)], args := [d] }
  | _ => none }
def FnExactChainTimesWrongFalsely : Prop := fnExactChainTimesRow.holds Try.pinned (OpenSpec.ofChange fnExactChainTimesWrong)

/-- 'laws.FnExactMergeTables': WHATEVER THE INPUT: true; the input reads as it did. -/
def fnExactMergeTablesSpec : ChangeSpec := { name := "fnExactMergeTables", fn := fun _ => fun
  | [d1, d2] => { results := [.lit (.bool true)], args := [d1, d2] }
  | _ => none }
def fnExactMergeTablesRow : OpenClaim := { program := "ytmemamokmeonjaa", sum := "583f9022f45933a5f3cdad181c5dd44689d007119772d484cd617ad78f4cfa4f", func := "loop.example/g01049/laws.FnExactMergeTables", spec := "fnExactMergeTables", apart := false }
def FnExactMergeTablesSaid : Prop := fnExactMergeTablesRow.holds Try.pinned (OpenSpec.ofChange fnExactMergeTablesSpec)

/-- ITS FALSE NEIGHBOUR: 'it returns false'. Refute it at one input. -/
def fnExactMergeTablesWrong : ChangeSpec := { name := "fnExactMergeTables", fn := fun _ => fun
  | [d1, d2] => { results := [.lit (.bool false)], args := [d1, d2] }
  | _ => none }
def FnExactMergeTablesWrongFalsely : Prop := fnExactMergeTablesRow.holds Try.pinned (OpenSpec.ofChange fnExactMergeTablesWrong)

/-- 'laws.FnChains': WHATEVER THE INPUT: true; the input reads as it did. -/
def fnChainsSpec : ChangeSpec := { name := "fnChains", fn := fun _ => fun
  | [d] => { results := [.lit (.bool true)], args := [d] }
  | _ => none }
def fnChainsRow : OpenClaim := { program := "ytmemamokmeonjaa", sum := "583f9022f45933a5f3cdad181c5dd44689d007119772d484cd617ad78f4cfa4f", func := "loop.example/g01049/laws.FnChains", spec := "fnChains", apart := false }
def FnChainsSaid : Prop := fnChainsRow.holds Try.pinned (OpenSpec.ofChange fnChainsSpec)

/-- ITS FALSE NEIGHBOUR: 'it returns false'. Refute it at one input. -/
def fnChainsWrong : ChangeSpec := { name := "fnChains", fn := fun _ => fun
  | [d] => { results := [.lit (.bool false)], args := [d] }
  | _ => none }
def FnChainsWrongFalsely : Prop := fnChainsRow.holds Try.pinned (OpenSpec.ofChange fnChainsWrong)

/-- 'laws.FnExactAreWires': WHATEVER THE INPUT: true; the input reads as it did. -/
def fnExactAreWiresSpec : ChangeSpec := { name := "fnExactAreWires", fn := fun _ => fun
  | [d1, d2, d3] => { results := [.lit (.bool true)], args := [d1, d2, d3] }
  | _ => none }
def fnExactAreWiresRow : OpenClaim := { program := "ytmemamokmeonjaa", sum := "583f9022f45933a5f3cdad181c5dd44689d007119772d484cd617ad78f4cfa4f", func := "loop.example/g01049/laws.FnExactAreWires", spec := "fnExactAreWires", apart := false }
def FnExactAreWiresSaid : Prop := fnExactAreWiresRow.holds Try.pinned (OpenSpec.ofChange fnExactAreWiresSpec)

/-- ITS FALSE NEIGHBOUR: 'it returns false'. Refute it at one input. -/
def fnExactAreWiresWrong : ChangeSpec := { name := "fnExactAreWires", fn := fun _ => fun
  | [d1, d2, d3] => { results := [.lit (.bool false)], args := [d1, d2, d3] }
  | _ => none }
def FnExactAreWiresWrongFalsely : Prop := fnExactAreWiresRow.holds Try.pinned (OpenSpec.ofChange fnExactAreWiresWrong)

/- THE SECOND FORM. 'bulk': how many values and letters a reading holds, each counted each time it is reached (what is shared counts as often as it is met; a slice's spare places count too). A statement '..UptoSaid' is the law's where the arguments, and the package variables that the reading takes, are together of bulk at most 1048576: NARROWER than '..Said'. Prove '..Said' where nothing that the law and all that it calls make is longer than what came in: it says more and counts as full. Else prove '..UptoSaid'. A law counts once. -/
mutual
def uptoBulk {H : Type} : DataW H → Nat
  | .lit (.string bytes) => bytes.length + 1
  | .lit _ => 1
  | .nil => 1
  | .ptr d => uptoBulk d + 1
  | .slice elems spare => uptoBulkAll elems + uptoBulkAll spare + 1
  | .agg parts => uptoBulkAll parts + 1
  | .iface _ d => uptoBulk d + 1
  | .map entries => uptoBulkEntries entries + 1
  | .held _ => 1
def uptoBulkAll {H : Type} : List (DataW H) → Nat
  | [] => 0
  | d :: r => uptoBulk d + uptoBulkAll r
def uptoBulkEntries {H : Type} : List (Lit × DataW H) → Nat
  | [] => 0
  | x :: r => uptoBulkEntry x + uptoBulkEntries r
def uptoBulkEntry {H : Type} : Lit × DataW H → Nat
  | (.string bytes, d) => bytes.length + uptoBulk d + 1
  | (_, d) => uptoBulk d + 1
 end
def uptoSmall : (H : Type) → List (DataW H) → Bool := fun _ ds => decide (uptoBulkAll ds ≤ 1048576)
def OpenSpec.upto (s : _root_.Go.ChangeSpec) : _root_.Go.OpenSpec := { _root_.Go.OpenSpec.ofChange s with cond := some uptoSmall }

/-- 'laws.FnExactPinsBelow', WHERE WHAT IT READS IS OF BULK AT MOST 1048576: true; the input reads as it did. -/
def fnExactPinsBelowUptoRow : OpenClaim := { program := "ytmemamokmeonjaa", sum := "583f9022f45933a5f3cdad181c5dd44689d007119772d484cd617ad78f4cfa4f", func := "loop.example/g01049/laws.FnExactPinsBelow", spec := "fnExactPinsBelow", apart := false, narrowed := true }
def FnExactPinsBelowUptoSaid : Prop := fnExactPinsBelowUptoRow.holds Try.pinned (OpenSpec.upto fnExactPinsBelowSpec)

/-- 'laws.FnExactChildrenOf', WHERE WHAT IT READS IS OF BULK AT MOST 1048576: true; the input reads as it did. -/
def fnExactChildrenOfUptoRow : OpenClaim := { program := "ytmemamokmeonjaa", sum := "583f9022f45933a5f3cdad181c5dd44689d007119772d484cd617ad78f4cfa4f", func := "loop.example/g01049/laws.FnExactChildrenOf", spec := "fnExactChildrenOf", apart := false, narrowed := true }
def FnExactChildrenOfUptoSaid : Prop := fnExactChildrenOfUptoRow.holds Try.pinned (OpenSpec.upto fnExactChildrenOfSpec)

/-- 'laws.FnExactNearestArea', WHERE WHAT IT READS IS OF BULK AT MOST 1048576: true; the input reads as it did. -/
def fnExactNearestAreaUptoRow : OpenClaim := { program := "ytmemamokmeonjaa", sum := "583f9022f45933a5f3cdad181c5dd44689d007119772d484cd617ad78f4cfa4f", func := "loop.example/g01049/laws.FnExactNearestArea", spec := "fnExactNearestArea", apart := false, narrowed := true }
def FnExactNearestAreaUptoSaid : Prop := fnExactNearestAreaUptoRow.holds Try.pinned (OpenSpec.upto fnExactNearestAreaSpec)

/-- 'laws.FnTables', WHERE WHAT IT READS IS OF BULK AT MOST 1048576: true; the input reads as it did. -/
def fnTablesUptoRow : OpenClaim := { program := "ytmemamokmeonjaa", sum := "583f9022f45933a5f3cdad181c5dd44689d007119772d484cd617ad78f4cfa4f", func := "loop.example/g01049/laws.FnTables", spec := "fnTables", apart := false, narrowed := true }
def FnTablesUptoSaid : Prop := fnTablesUptoRow.holds Try.pinned (OpenSpec.upto fnTablesSpec)

/-- 'laws.FnExactWayToMaster', WHERE WHAT IT READS IS OF BULK AT MOST 1048576: true; the input reads as it did. -/
def fnExactWayToMasterUptoRow : OpenClaim := { program := "ytmemamokmeonjaa", sum := "583f9022f45933a5f3cdad181c5dd44689d007119772d484cd617ad78f4cfa4f", func := "loop.example/g01049/laws.FnExactWayToMaster", spec := "fnExactWayToMaster", apart := false, narrowed := true }
def FnExactWayToMasterUptoSaid : Prop := fnExactWayToMasterUptoRow.holds Try.pinned (OpenSpec.upto fnExactWayToMasterSpec)

/-- 'laws.FnExactStateOf', WHERE WHAT IT READS IS OF BULK AT MOST 1048576: true; the input reads as it did. -/
def fnExactStateOfUptoRow : OpenClaim := { program := "ytmemamokmeonjaa", sum := "583f9022f45933a5f3cdad181c5dd44689d007119772d484cd617ad78f4cfa4f", func := "loop.example/g01049/laws.FnExactStateOf", spec := "fnExactStateOf", apart := false, narrowed := true }
def FnExactStateOfUptoSaid : Prop := fnExactStateOfUptoRow.holds Try.pinned (OpenSpec.upto fnExactStateOfSpec)

/-- 'laws.FnExactWidenTable', WHERE WHAT IT READS IS OF BULK AT MOST 1048576: true; the input reads as it did. -/
def fnExactWidenTableUptoRow : OpenClaim := { program := "ytmemamokmeonjaa", sum := "583f9022f45933a5f3cdad181c5dd44689d007119772d484cd617ad78f4cfa4f", func := "loop.example/g01049/laws.FnExactWidenTable", spec := "fnExactWidenTable", apart := false, narrowed := true }
def FnExactWidenTableUptoSaid : Prop := fnExactWidenTableUptoRow.holds Try.pinned (OpenSpec.upto fnExactWidenTableSpec)

/-- 'laws.FnExactReadArea', WHERE WHAT IT READS IS OF BULK AT MOST 1048576: true; the input reads as it did. -/
def fnExactReadAreaUptoRow : OpenClaim := { program := "ytmemamokmeonjaa", sum := "583f9022f45933a5f3cdad181c5dd44689d007119772d484cd617ad78f4cfa4f", func := "loop.example/g01049/laws.FnExactReadArea", spec := "fnExactReadArea", recurses := true, apart := false, narrowed := true }
def FnExactReadAreaUptoSaid : Prop := fnExactReadAreaUptoRow.holds Try.pinned (OpenSpec.upto fnExactReadAreaSpec)

/-- 'laws.FnExactChainTimes', WHERE WHAT IT READS IS OF BULK AT MOST 1048576: true; the input reads as it did. -/
def fnExactChainTimesUptoRow : OpenClaim := { program := "ytmemamokmeonjaa", sum := "583f9022f45933a5f3cdad181c5dd44689d007119772d484cd617ad78f4cfa4f", func := "loop.example/g01049/laws.FnExactChainTimes", spec := "fnExactChainTimes", apart := false, narrowed := true }
def FnExactChainTimesUptoSaid : Prop := fnExactChainTimesUptoRow.holds Try.pinned (OpenSpec.upto fnExactChainTimesSpec)

/-- 'laws.FnExactMergeTables', WHERE WHAT IT READS IS OF BULK AT MOST 1048576: true; the input reads as it did. -/
def fnExactMergeTablesUptoRow : OpenClaim := { program := "ytmemamokmeonjaa", sum := "583f9022f45933a5f3cdad181c5dd44689d007119772d484cd617ad78f4cfa4f", func := "loop.example/g01049/laws.FnExactMergeTables", spec := "fnExactMergeTables", apart := false, narrowed := true }
def FnExactMergeTablesUptoSaid : Prop := fnExactMergeTablesUptoRow.holds Try.pinned (OpenSpec.upto fnExactMergeTablesSpec)

/-- 'laws.FnChains', WHERE WHAT IT READS IS OF BULK AT MOST 1048576: true; the input reads as it did. -/
def fnChainsUptoRow : OpenClaim := { program := "ytmemamokmeonjaa", sum := "583f9022f45933a5f3cdad181c5dd44689d007119772d484cd617ad78f4cfa4f", func := "loop.example/g01049/laws.FnChains", spec := "fnChains", apart := false, narrowed := true }
def FnChainsUptoSaid : Prop := fnChainsUptoRow.holds Try.pinned (OpenSpec.upto fnChainsSpec)

/-- 'laws.FnExactAreWires', WHERE WHAT IT READS IS OF BULK AT MOST 1048576: true; the input reads as it did. -/
def fnExactAreWiresUptoRow : OpenClaim := { program := "ytmemamokmeonjaa", sum := "583f9022f45933a5f3cdad181c5dd44689d007119772d484cd617ad78f4cfa4f", func := "loop.example/g01049/laws.FnExactAreWires", spec := "fnExactAreWires", apart := false, narrowed := true }
def FnExactAreWiresUptoSaid : Prop := fnExactAreWiresUptoRow.holds Try.pinned (OpenSpec.upto fnExactAreWiresSpec)

end Rows
end Go.Proofs.Ytmemamokmeonjaa
