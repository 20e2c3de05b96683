/-
  No cell of these rows narrows 'for every input' (looked for: loops, veiled, ifaces, maps, wideKeys, modest, calm, conditions, laid).
  DERIVED. THE GIVEN ROWS OF THIS SEAT. 11 by the template 'for every input the law returns true; each argument reads behind the call as it read before'; 0 by the template 'total and deterministic' (their statements: YtedcdhnbceaaeaaTotals.lean).
  GIVEN WITH THE SEED: the statements are not yours to turn. If you find one false, say at which input.
  Laid BY PROGRAM, IN A SANDBOX (cutbox-rows.mjs): the forced cells as the released guide's own fill.sh prints them over the translation dd0e4ad31d242e49… (all of the seat's roots in one cut). By AI agents, Wed Nov 11 2026. No macro, syntax, notation, axiom, sorry.
-/
import Derived.Test.YtedcdhnbceaaeaaChecked
import GoSem.Claim
import GoSem.ClaimJoined
import GoSem.ClaimMapViews
import Derived.JoinedTies
import Derived.KernelRfl
namespace Go.Proofs.Ytedcdhnbceaaeaa
/- THE CELL 'sum', in the pinned program and in every row, IS THE sha256 OF THE DUMP (.gsa) THAT YtedcdhnbceaaeaaProg.lean LOADS. Nothing in Lean hashes anything: it is a label: what it is worth is what the hold of that sum in a sandbox is worth. -/
noncomputable def Try.pinned : Pinned := { name := "ytedcdhnbceaaeaa", sum := "dd0e4ad31d242e49c2fd4c77c4d0846ca7d5039a51b939d50ed7b684930845e5", checked := Try.checked }
namespace Rows
def none {H : Type} : Left H := { results := [], args := [] }

/-- 'laws.FnExactAllowedPlaces': WHATEVER THE INPUT: true; the input reads as it did. -/
def fnExactAllowedPlacesSpec : ChangeSpec := { name := "fnExactAllowedPlaces", fn := fun _ => fun
  | [d1, d2, d3, d4, d5] => { results := [.lit (.bool true)], args := [d1, d2, d3, d4, d5] }
  | _ => none }
def fnExactAllowedPlacesRow : OpenClaim := { program := "ytedcdhnbceaaeaa", sum := "dd0e4ad31d242e49c2fd4c77c4d0846ca7d5039a51b939d50ed7b684930845e5", func := "loop.example/g01049/laws.FnExactAllowedPlaces", spec := "fnExactAllowedPlaces", apart := false }
def FnExactAllowedPlacesSaid : Prop := fnExactAllowedPlacesRow.holds Try.pinned (OpenSpec.ofChange fnExactAllowedPlacesSpec)

/-- ITS FALSE NEIGHBOUR: 'it returns false'. Refute it at one input. -/
def fnExactAllowedPlacesWrong : ChangeSpec := { name := "fnExactAllowedPlaces", fn := fun _ => fun
  | [d1, d2, d3, d4, d5] => { results := [.lit (.bool false)], args := [d1, d2, d3, d4, d5] }
  | _ => none }
def FnExactAllowedPlacesWrongFalsely : Prop := fnExactAllowedPlacesRow.holds Try.pinned (OpenSpec.ofChange fnExactAllowedPlacesWrong)

/-- 'laws.FnWired': WHATEVER THE INPUT: true; the input reads as it did. -/
def fnWiredSpec : ChangeSpec := { name := "fnWired", fn := fun _ => fun
  | [d] => { results := [.lit (.bool true)], args := [d] }
  | _ => none }
def fnWiredRow : OpenClaim := { program := "ytedcdhnbceaaeaa", sum := "dd0e4ad31d242e49c2fd4c77c4d0846ca7d5039a51b939d50ed7b684930845e5", func := "loop.example/g01049/laws.FnWired", spec := "fnWired", apart := false }
def FnWiredSaid : Prop := fnWiredRow.holds Try.pinned (OpenSpec.ofChange fnWiredSpec)

/-- ITS FALSE NEIGHBOUR: 'it returns false'. Refute it at one input. -/
def fnWiredWrong : ChangeSpec := { name := "fnWired", fn := fun _ => fun
  | [d] => { results := [.lit (.bool false)], args := [d] }
  | _ => none }
def FnWiredWrongFalsely : Prop := fnWiredRow.holds Try.pinned (OpenSpec.ofChange fnWiredWrong)

/-- 'laws.FnTables': WHATEVER THE INPUT: true; the input reads as it did. -/
def fnTablesSpec : ChangeSpec := { name := "fnTables", fn := fun _ => fun
  | [d] => { results := [.lit (.bool true)], args := [d] }
  | _ => none }
def fnTablesRow : OpenClaim := { program := "ytedcdhnbceaaeaa", sum := "dd0e4ad31d242e49c2fd4c77c4d0846ca7d5039a51b939d50ed7b684930845e5", func := "loop.example/g01049/laws.FnTables", spec := "fnTables", apart := false }
def FnTablesSaid : Prop := fnTablesRow.holds Try.pinned (OpenSpec.ofChange fnTablesSpec)

/-- ITS FALSE NEIGHBOUR: 'it returns false'. Refute it at one input. -/
def fnTablesWrong : ChangeSpec := { name := "fnTables", fn := fun _ => fun
  | [d] => { results := [.lit (.bool false)], args := [d] }
  | _ => none }
def FnTablesWrongFalsely : Prop := fnTablesRow.holds Try.pinned (OpenSpec.ofChange fnTablesWrong)

/-- 'laws.FnExactReadArea': WHATEVER THE INPUT: true; the input reads as it did. -/
def fnExactReadAreaSpec : ChangeSpec := { name := "fnExactReadArea", fn := fun _ => fun
  | [d] => { results := [.lit (.bool true)], args := [d] }
  | _ => none }
def fnExactReadAreaRow : OpenClaim := { program := "ytedcdhnbceaaeaa", sum := "dd0e4ad31d242e49c2fd4c77c4d0846ca7d5039a51b939d50ed7b684930845e5", func := "loop.example/g01049/laws.FnExactReadArea", spec := "fnExactReadArea", recurses := true, apart := false }
def FnExactReadAreaSaid : Prop := fnExactReadAreaRow.holds Try.pinned (OpenSpec.ofChange fnExactReadAreaSpec)

/-- ITS FALSE NEIGHBOUR: 'it returns false'. Refute it at one input. -/
def fnExactReadAreaWrong : ChangeSpec := { name := "fnExactReadArea", fn := fun _ => fun
  | [d] => { results := [.lit (.bool false)], args := [d] }
  | _ => none }
def FnExactReadAreaWrongFalsely : Prop := fnExactReadAreaRow.holds Try.pinned (OpenSpec.ofChange fnExactReadAreaWrong)

/-- 'laws.FnExactChainTimes': WHATEVER THE INPUT: true; the input reads as it did. -/
def fnExactChainTimesSpec : ChangeSpec := { name := "fnExactChainTimes", fn := fun _ => fun
  | [d] => { results := [.lit (.bool true)], args := [d] }
  | _ => none }
def fnExactChainTimesRow : OpenClaim := { program := "ytedcdhnbceaaeaa", sum := "dd0e4ad31d242e49c2fd4c77c4d0846ca7d5039a51b939d50ed7b684930845e5", func := "loop.example/g01049/laws.FnExactChainTimes", spec := "fnExactChainTimes", apart := false }
def FnExactChainTimesSaid : Prop := fnExactChainTimesRow.holds Try.pinned (OpenSpec.ofChange fnExactChainTimesSpec)

/-- ITS FALSE NEIGHBOUR: 'it returns false'. Refute it at one input. -/
def fnExactChainTimesWrong : ChangeSpec := { name := "fnExactChainTimes", fn := fun _ => fun
  | [d] => { results := [.lit (.bool false)], args := [d] }
  | _ => none }
def FnExactChainTimesWrongFalsely : Prop := fnExactChainTimesRow.holds Try.pinned (OpenSpec.ofChange fnExactChainTimesWrong)

/-- 'laws.FnExactMergeTables': WHATEVER THE INPUT: true; the input reads as it did. -/
def fnExactMergeTablesSpec : ChangeSpec := { name := "fnExactMergeTables", fn := fun _ => fun
  | [d1, d2] => { results := [.lit (.bool true)], args := [d1, d2] }
  | _ => none }
def fnExactMergeTablesRow : OpenClaim := { program := "ytedcdhnbceaaeaa", sum := "dd0e4ad31d242e49c2fd4c77c4d0846ca7d5039a51b939d50ed7b684930845e5", func := "loop.example/g01049/laws.FnExactMergeTables", spec := "fnExactMergeTables", apart := false }
def FnExactMergeTablesSaid : Prop := fnExactMergeTablesRow.holds Try.pinned (OpenSpec.ofChange fnExactMergeTablesSpec)

/-- ITS FALSE NEIGHBOUR: 'it returns false'. Refute it at one input. -/
def fnExactMergeTablesWrong : ChangeSpec := { name := "fnExactMergeTables", fn := fun _ => fun
  | [d1, d2] => { results := [.lit (.bool false)], args := [d1, d2] }
  | _ => none }
def FnExactMergeTablesWrongFalsely : Prop := fnExactMergeTablesRow.holds Try.pinned (OpenSpec.ofChange fnExactMergeTablesWrong)

/-- 'laws.FnExactOverlappingAreas': WHATEVER THE INPUT: true; the input reads as it did. -/
def fnExactOverlappingAreasSpec : ChangeSpec := { name := "fnExactOverlappingAreas", fn := fun _ => fun
  | [d] => { results := [.lit (.bool true)], args := [d] }
  | _ => none }
def fnExactOverlappingAreasRow : OpenClaim := { program := "ytedcdhnbceaaeaa", sum := "dd0e4ad31d242e49c2fd4c77c4d0846ca7d5039a51b939d50ed7b684930845e5", func := "loop.example/g01049/laws.FnExactOverlappingAreas", spec := "fnExactOverlappingAreas", apart := false }
def FnExactOverlappingAreasSaid : Prop := fnExactOverlappingAreasRow.holds Try.pinned (OpenSpec.ofChange fnExactOverlappingAreasSpec)

/-- ITS FALSE NEIGHBOUR: 'it returns false'. Refute it at one input. -/
def fnExactOverlappingAreasWrong : ChangeSpec := { name := "fnExactOverlappingAreas", fn := fun _ => fun
  | [d] => { results := [.lit (.bool false)], args := [d] }
  | _ => none }
def FnExactOverlappingAreasWrongFalsely : Prop := fnExactOverlappingAreasRow.holds Try.pinned (OpenSpec.ofChange fnExactOverlappingAreasWrong)

/-- 'laws.FnAreas': WHATEVER THE INPUT: true; the input reads as it did. -/
def fnAreasSpec : ChangeSpec := { name := "fnAreas", fn := fun _ => fun
  | [d] => { results := [.lit (.bool true)], args := [d] }
  | _ => none }
def fnAreasRow : OpenClaim := { program := "ytedcdhnbceaaeaa", sum := "dd0e4ad31d242e49c2fd4c77c4d0846ca7d5039a51b939d50ed7b684930845e5", func := "loop.example/g01049/laws.FnAreas", spec := "fnAreas", apart := false }
def FnAreasSaid : Prop := fnAreasRow.holds Try.pinned (OpenSpec.ofChange fnAreasSpec)

/-- ITS FALSE NEIGHBOUR: 'it returns false'. Refute it at one input. -/
def fnAreasWrong : ChangeSpec := { name := "fnAreas", fn := fun _ => fun
  | [d] => { results := [.lit (.bool false)], args := [d] }
  | _ => none }
def FnAreasWrongFalsely : Prop := fnAreasRow.holds Try.pinned (OpenSpec.ofChange fnAreasWrong)

/-- 'laws.FnExactCueAt': WHATEVER THE INPUT: true; the input reads as it did. -/
def fnExactCueAtSpec : ChangeSpec := { name := "fnExactCueAt", fn := fun _ => fun
  | [d1, d2, d3, d4, d5] => { results := [.lit (.bool true)], args := [d1, d2, d3, d4, d5] }
  | _ => none }
def fnExactCueAtRow : OpenClaim := { program := "ytedcdhnbceaaeaa", sum := "dd0e4ad31d242e49c2fd4c77c4d0846ca7d5039a51b939d50ed7b684930845e5", func := "loop.example/g01049/laws.FnExactCueAt", spec := "fnExactCueAt", apart := false }
def FnExactCueAtSaid : Prop := fnExactCueAtRow.holds Try.pinned (OpenSpec.ofChange fnExactCueAtSpec)

/-- ITS FALSE NEIGHBOUR: 'it returns false'. Refute it at one input. -/
def fnExactCueAtWrong : ChangeSpec := { name := "fnExactCueAt", fn := fun _ => fun
  | [d1, d2, d3, d4, d5] => { results := [.lit (.bool false)], args := [d1, d2, d3, d4, d5] }
  | _ => none }
def FnExactCueAtWrongFalsely : Prop := fnExactCueAtRow.holds Try.pinned (OpenSpec.ofChange fnExactCueAtWrong)

/-- 'laws.FnCurrents': WHATEVER THE INPUT: true; the input reads as it did. -/
def fnCurrentsSpec : ChangeSpec := { name := "fnCurrents", fn := fun _ => fun
  | [d] => { results := [.lit (.bool true)], args := [d] }
  | _ => none }
def fnCurrentsRow : OpenClaim := { program := "ytedcdhnbceaaeaa", sum := "dd0e4ad31d242e49c2fd4c77c4d0846ca7d5039a51b939d50ed7b684930845e5", func := "loop.example/g01049/laws.FnCurrents", spec := "fnCurrents", apart := false }
def FnCurrentsSaid : Prop := fnCurrentsRow.holds Try.pinned (OpenSpec.ofChange fnCurrentsSpec)

/-- ITS FALSE NEIGHBOUR: 'it returns false'. Refute it at one input. -/
def fnCurrentsWrong : ChangeSpec := { name := "fnCurrents", fn := fun _ => fun
  | [d] => { results := [.lit (.bool false)], args := [d] }
  | _ => none }
def FnCurrentsWrongFalsely : Prop := fnCurrentsRow.holds Try.pinned (OpenSpec.ofChange fnCurrentsWrong)

/-- 'laws.FnAreaTexts': WHATEVER THE INPUT: true; the input reads as it did. -/
def fnAreaTextsSpec : ChangeSpec := { name := "fnAreaTexts", fn := fun _ => fun
  | [d] => { results := [.lit (.bool true)], args := [d] }
  | _ => none }
def fnAreaTextsRow : OpenClaim := { program := "ytedcdhnbceaaeaa", sum := "dd0e4ad31d242e49c2fd4c77c4d0846ca7d5039a51b939d50ed7b684930845e5", func := "loop.example/g01049/laws.FnAreaTexts", spec := "fnAreaTexts", recurses := true, apart := false }
def FnAreaTextsSaid : Prop := fnAreaTextsRow.holds Try.pinned (OpenSpec.ofChange fnAreaTextsSpec)

/-- ITS FALSE NEIGHBOUR: 'it returns false'. Refute it at one input. -/
def fnAreaTextsWrong : ChangeSpec := { name := "fnAreaTexts", fn := fun _ => fun
  | [d] => { results := [.lit (.bool false)], args := [d] }
  | _ => none }
def FnAreaTextsWrongFalsely : Prop := fnAreaTextsRow.holds Try.pinned (OpenSpec.ofChange fnAreaTextsWrong)

/- THE SECOND FORM. 'bulk': how many values and letters a reading holds, each counted each time it is reached (what is shared counts as often as it is met; a slice's spare places count too). A statement '..UptoSaid' is the law's where the arguments, and the package variables that the reading takes, are together of bulk at most 1048576: NARROWER than '..Said'. Prove '..Said' where nothing that the law and all that it calls make is longer than what came in: it says more and counts as full. Else prove '..UptoSaid'. A law counts once. -/
mutual
def uptoBulk {H : Type} : DataW H → Nat
  | .lit (.string bytes) => bytes.length + 1
  | .lit _ => 1
  | .nil => 1
  | .ptr d => uptoBulk d + 1
  | .slice elems spare => uptoBulkAll elems + uptoBulkAll spare + 1
  | .agg parts => uptoBulkAll parts + 1
  | .iface _ d => uptoBulk d + 1
  | .map entries => uptoBulkEntries entries + 1
  | .held _ => 1
def uptoBulkAll {H : Type} : List (DataW H) → Nat
  | [] => 0
  | d :: r => uptoBulk d + uptoBulkAll r
def uptoBulkEntries {H : Type} : List (Lit × DataW H) → Nat
  | [] => 0
  | x :: r => uptoBulkEntry x + uptoBulkEntries r
def uptoBulkEntry {H : Type} : Lit × DataW H → Nat
  | (.string bytes, d) => bytes.length + uptoBulk d + 1
  | (_, d) => uptoBulk d + 1
 end
def uptoSmall : (H : Type) → List (DataW H) → Bool := fun _ ds => decide (uptoBulkAll ds ≤ 1048576)
def OpenSpec.upto (s : _root_.Go.ChangeSpec) : _root_.Go.OpenSpec := { _root_.Go.OpenSpec.ofChange s with cond := some uptoSmall }

/-- 'laws.FnExactAllowedPlaces', WHERE WHAT IT READS IS OF BULK AT MOST 1048576: true; the input reads as it did. -/
def fnExactAllowedPlacesUptoRow : OpenClaim := { program := "ytedcdhnbceaaeaa", sum := "dd0e4ad31d242e49c2fd4c77c4d0846ca7d5039a51b939d50ed7b684930845e5", func := "loop.example/g01049/laws.FnExactAllowedPlaces", spec := "fnExactAllowedPlaces", apart := false, narrowed := true }
def FnExactAllowedPlacesUptoSaid : Prop := fnExactAllowedPlacesUptoRow.holds Try.pinned (OpenSpec.upto fnExactAllowedPlacesSpec)

/-- 'laws.FnWired', WHERE WHAT IT READS IS OF BULK AT MOST 1048576: true; the input reads as it did. -/
def fnWiredUptoRow : OpenClaim := { program := "ytedcdhnbceaaeaa", sum := "dd0e4ad31d242e49c2fd4c77c4d0846ca7d5039a51b939d50ed7b684930845e5", func := "loop.example/g01049/laws.FnWired", spec := "fnWired", apart := false, narrowed := true }
def FnWiredUptoSaid : Prop := fnWiredUptoRow.holds Try.pinned (OpenSpec.upto fnWiredSpec)

/-- 'laws.FnTables', WHERE WHAT IT READS IS OF BULK AT MOST 1048576: true; the input reads as it did. -/
def fnTablesUptoRow : OpenClaim := { program := "ytedcdhnbceaaeaa", sum := "dd0e4ad31d242e49c2fd4c77c4d0846ca7d5039a51b939d50ed7b684930845e5", func := "loop.example/g01049/laws.FnTables", spec := "fnTables", apart := false, narrowed := true }
def FnTablesUptoSaid : Prop := fnTablesUptoRow.holds Try.pinned (OpenSpec.upto fnTablesSpec)

/-- 'laws.FnExactReadArea', WHERE WHAT IT READS IS OF BULK AT MOST 1048576: true; the input reads as it did. -/
def fnExactReadAreaUptoRow : OpenClaim := { program := "ytedcdhnbceaaeaa", sum := "dd0e4ad31d242e49c2fd4c77c4d0846ca7d5039a51b939d50ed7b684930845e5", func := "loop.example/g01049/laws.FnExactReadArea", spec := "fnExactReadArea", recurses := true, apart := false, narrowed := true }
def FnExactReadAreaUptoSaid : Prop := fnExactReadAreaUptoRow.holds Try.pinned (OpenSpec.upto fnExactReadAreaSpec)

/-- 'laws.FnExactChainTimes', WHERE WHAT IT READS IS OF BULK AT MOST 1048576: true; the input reads as it did. -/
def fnExactChainTimesUptoRow : OpenClaim := { program := "ytedcdhnbceaaeaa", sum := "dd0e4ad31d242e49c2fd4c77c4d0846ca7d5039a51b939d50ed7b684930845e5", func := "loop.example/g01049/laws.FnExactChainTimes", spec := "fnExactChainTimes", apart := false, narrowed := true }
def FnExactChainTimesUptoSaid : Prop := fnExactChainTimesUptoRow.holds Try.pinned (OpenSpec.upto fnExactChainTimesSpec)

/-- 'laws.FnExactMergeTables', WHERE WHAT IT READS IS OF BULK AT MOST 1048576: true; the input reads as it did. -/
def fnExactMergeTablesUptoRow : OpenClaim := { program := "ytedcdhnbceaaeaa", sum := "dd0e4ad31d242e49c2fd4c77c4d0846ca7d5039a51b939d50ed7b684930845e5", func := "loop.example/g01049/laws.FnExactMergeTables", spec := "fnExactMergeTables", apart := false, narrowed := true }
def FnExactMergeTablesUptoSaid : Prop := fnExactMergeTablesUptoRow.holds Try.pinned (OpenSpec.upto fnExactMergeTablesSpec)

/-- 'laws.FnExactOverlappingAreas', WHERE WHAT IT READS IS OF BULK AT MOST 1048576: true; the input reads as it did. -/
def fnExactOverlappingAreasUptoRow : OpenClaim := { program := "ytedcdhnbceaaeaa", sum := "dd0e4ad31d242e49c2fd4c77c4d0846ca7d5039a51b939d50ed7b684930845e5", func := "loop.example/g01049/laws.FnExactOverlappingAreas", spec := "fnExactOverlappingAreas", apart := false, narrowed := true }
def FnExactOverlappingAreasUptoSaid : Prop := fnExactOverlappingAreasUptoRow.holds Try.pinned (OpenSpec.upto fnExactOverlappingAreasSpec)

/-- 'laws.FnAreas', WHERE WHAT IT READS IS OF BULK AT MOST 1048576: true; the input reads as it did. -/
def fnAreasUptoRow : OpenClaim := { program := "ytedcdhnbceaaeaa", sum := "dd0e4ad31d242e49c2fd4c77c4d0846ca7d5039a51b939d50ed7b684930845e5", func := "loop.example/g01049/laws.FnAreas", spec := "fnAreas", apart := false, narrowed := true }
def FnAreasUptoSaid : Prop := fnAreasUptoRow.holds Try.pinned (OpenSpec.upto fnAreasSpec)

/-- 'laws.FnExactCueAt', WHERE WHAT IT READS IS OF BULK AT MOST 1048576: true; the input reads as it did. -/
def fnExactCueAtUptoRow : OpenClaim := { program := "ytedcdhnbceaaeaa", sum := "dd0e4ad31d242e49c2fd4c77c4d0846ca7d5039a51b939d50ed7b684930845e5", func := "loop.example/g01049/laws.FnExactCueAt", spec := "fnExactCueAt", apart := false, narrowed := true }
def FnExactCueAtUptoSaid : Prop := fnExactCueAtUptoRow.holds Try.pinned (OpenSpec.upto fnExactCueAtSpec)

/-- 'laws.FnCurrents', WHERE WHAT IT READS IS OF BULK AT MOST 1048576: true; the input reads as it did. -/
def fnCurrentsUptoRow : OpenClaim := { program := "ytedcdhnbceaaeaa", sum := "dd0e4ad31d242e49c2fd4c77c4d0846ca7d5039a51b939d50ed7b684930845e5", func := "loop.example/g01049/laws.FnCurrents", spec := "fnCurrents", apart := false, narrowed := true }
def FnCurrentsUptoSaid : Prop := fnCurrentsUptoRow.holds Try.pinned (OpenSpec.upto fnCurrentsSpec)

/-- 'laws.FnAreaTexts', WHERE WHAT IT READS IS OF BULK AT MOST 1048576: true; the input reads as it did. -/
def fnAreaTextsUptoRow : OpenClaim := { program := "ytedcdhnbceaaeaa", sum := "dd0e4ad31d242e49c2fd4c77c4d0846ca7d5039a51b939d50ed7b684930845e5", func := "loop.example/g01049/laws.FnAreaTexts", spec := "fnAreaTexts", recurses := true, apart := false, narrowed := true }
def FnAreaTextsUptoSaid : Prop := fnAreaTextsUptoRow.holds Try.pinned (OpenSpec.upto fnAreaTextsSpec)

end Rows
end Go.Proofs.Ytedcdhnbceaaeaa
