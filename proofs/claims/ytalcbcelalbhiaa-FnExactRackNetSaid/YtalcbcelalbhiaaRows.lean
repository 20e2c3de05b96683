/-
  No cell of these rows narrows 'for every input' (looked for: loops, veiled, ifaces, maps, wideKeys, modest, calm, conditions, laid).
  DERIVED. THE GIVEN ROWS OF THIS SEAT. 7 by the template 'for every input the law returns true; each argument reads behind the call as it read before'; 0 by the template 'total and deterministic' (their statements: YtalcbcelalbhiaaTotals.lean).
  GIVEN WITH THE SEED: the statements are not yours to turn. If you find one false, say at which input.
  Laid BY PROGRAM, IN A SANDBOX (cutbox-rows.mjs): the forced cells as the released guide's own fill.sh prints them over the translation 06e0c38720e1147a… (all of the seat's roots in one cut). By AI agents, Wed Nov 11 2026. No macro, syntax, notation, axiom, sorry.
-/
import Derived.Test.YtalcbcelalbhiaaChecked
import GoSem.Claim
import GoSem.ClaimJoined
import GoSem.ClaimMapViews
import Derived.JoinedTies
import Derived.KernelRfl
namespace Go.Proofs.Ytalcbcelalbhiaa
/- THE CELL 'sum', in the pinned program and in every row, IS THE sha256 OF THE DUMP (.gsa) THAT YtalcbcelalbhiaaProg.lean LOADS. Nothing in Lean hashes anything: it is a label: what it is worth is what the hold of that sum in a sandbox is worth. -/
noncomputable def Try.pinned : Pinned := { name := "ytalcbcelalbhiaa", sum := "06e0c38720e1147a67a659a2fbcc375fcfa3e73d59b66e8cd38e6b7033999292", checked := Try.checked }
namespace Rows
def none {H : Type} : Left H := { results := [], args := [] }

/-- 'laws.FnExactWireCue': WHATEVER THE INPUT: true; the input reads as it did. -/
def fnExactWireCueSpec : ChangeSpec := { name := "fnExactWireCue", fn := fun _ => fun
  | [d1, d2, d3, d4] => { results := [.lit (.bool true)], args := [d1, d2, d3, d4] }
  | _ => none }
def fnExactWireCueRow : OpenClaim := { program := "ytalcbcelalbhiaa", sum := "06e0c38720e1147a67a659a2fbcc375fcfa3e73d59b66e8cd38e6b7033999292", func := "loop.example/g01049/laws.FnExactWireCue", spec := "fnExactWireCue", apart := false }
def FnExactWireCueSaid : Prop := fnExactWireCueRow.holds Try.pinned (OpenSpec.ofChange fnExactWireCueSpec)

/-- ITS FALSE NEIGHBOUR: 'it returns false'. Refute it at one input. -/
def fnExactWireCueWrong : ChangeSpec := { name := "fnExactWireCue", fn := fun _ => fun
  | [d1, d2, d3, d4] => { results := [.lit (.bool false)], args := [d1, d2, d3, d4] }
  | _ => none }
def FnExactWireCueWrongFalsely : Prop := fnExactWireCueRow.holds Try.pinned (OpenSpec.ofChange fnExactWireCueWrong)

/-- 'laws.FnExactAreasAgainst': WHATEVER THE INPUT: true; the input reads as it did. -/
def fnExactAreasAgainstSpec : ChangeSpec := { name := "fnExactAreasAgainst", fn := fun _ => fun
  | [d1, d2, d3, d4, d5] => { results := [.lit (.bool true)], args := [d1, d2, d3, d4, d5] }
  | _ => none }
def fnExactAreasAgainstRow : OpenClaim := { program := "ytalcbcelalbhiaa", sum := "06e0c38720e1147a67a659a2fbcc375fcfa3e73d59b66e8cd38e6b7033999292", func := "loop.example/g01049/laws.FnExactAreasAgainst", spec := "fnExactAreasAgainst", apart := false }
def FnExactAreasAgainstSaid : Prop := fnExactAreasAgainstRow.holds Try.pinned (OpenSpec.ofChange fnExactAreasAgainstSpec)

/-- ITS FALSE NEIGHBOUR: 'it returns false'. Refute it at one input. -/
def fnExactAreasAgainstWrong : ChangeSpec := { name := "fnExactAreasAgainst", fn := fun _ => fun
  | [d1, d2, d3, d4, d5] => { results := [.lit (.bool false)], args := [d1, d2, d3, d4, d5] }
  | _ => none }
def FnExactAreasAgainstWrongFalsely : Prop := fnExactAreasAgainstRow.holds Try.pinned (OpenSpec.ofChange fnExactAreasAgainstWrong)

/-- 'laws.FnExactWireAll': WHATEVER THE INPUT: true; the input reads as it did. -/
def fnExactWireAllSpec : ChangeSpec := { name := "fnExactWireAll", fn := fun _ => fun
  | [d1, d2, d3] => { results := [.lit (.bool true)], args := [d1, d2, d3] }
  | _ => none }
def fnExactWireAllRow : OpenClaim := { program := "ytalcbcelalbhiaa", sum := "06e0c38720e1147a67a659a2fbcc375fcfa3e73d59b66e8cd38e6b7033999292", func := "loop.example/g01049/laws.FnExactWireAll", spec := "fnExactWireAll", apart := false }
def FnExactWireAllSaid : Prop := fnExactWireAllRow.holds Try.pinned (OpenSpec.ofChange fnExactWireAllSpec)

/-- ITS FALSE NEIGHBOUR: 'it returns false'. Refute it at one input. -/
def fnExactWireAllWrong : ChangeSpec := { name := "fnExactWireAll", fn := fun _ => fun
  | [d1, d2, d3] => { results := [.lit (.bool false)], args := [d1, d2, d3] }
  | _ => none }
def FnExactWireAllWrongFalsely : Prop := fnExactWireAllRow.holds Try.pinned (OpenSpec.ofChange fnExactWireAllWrong)

/-- 'laws.FnExactGreatestLoad': WHATEVER THE INPUT: true; the input reads as it did. -/
def fnExactGreatestLoadSpec : ChangeSpec := { name := "fnExactGreatestLoad", fn := fun _ => fun
  | [d1, d2] => { results := [.lit (.bool true)], args := [d1, d2] }
  | _ => none }
def fnExactGreatestLoadRow : OpenClaim := { program := "ytalcbcelalbhiaa", sum := "06e0c38720e1147a67a659a2fbcc375fcfa3e73d59b66e8cd38e6b7033999292", func := "loop.example/g01049/laws.FnExactGreatestLoad", spec := "fnExactGreatestLoad", apart := false }
def FnExactGreatestLoadSaid : Prop := fnExactGreatestLoadRow.holds Try.pinned (OpenSpec.ofChange fnExactGreatestLoadSpec)

/-- ITS FALSE NEIGHBOUR: 'it returns false'. Refute it at one input. -/
def fnExactGreatestLoadWrong : ChangeSpec := { name := "fnExactGreatestLoad", fn := fun _ => fun
  | [d1, d2] => { results := [.lit (.bool false)], args := [d1, d2] }
  | _ => none }
def FnExactGreatestLoadWrongFalsely : Prop := fnExactGreatestLoadRow.holds Try.pinned (OpenSpec.ofChange fnExactGreatestLoadWrong)

/-- 'laws.FnExactRackNet': WHATEVER THE INPUT: true; the input reads as it did. -/
def fnExactRackNetSpec : ChangeSpec := { name := "fnExactRackNet", fn := fun _ => fun
  | [d1, d2] => { results := [.lit (.bool true)], args := [d1, d2] }
  | _ => none }
def fnExactRackNetRow : OpenClaim := { program := "ytalcbcelalbhiaa", sum := "06e0c38720e1147a67a659a2fbcc375fcfa3e73d59b66e8cd38e6b7033999292", func := "loop.example/g01049/laws.FnExactRackNet", spec := "fnExactRackNet", apart := false }
def FnExactRackNetSaid : Prop := fnExactRackNetRow.holds Try.pinned (OpenSpec.ofChange fnExactRackNetSpec)

/-- ITS FALSE NEIGHBOUR: 'it returns false'. Refute it at one input. -/
def fnExactRackNetWrong : ChangeSpec := { name := "fnExactRackNet", fn := fun _ => fun
  | [d1, d2] => { results := [.lit (.bool false)], args := [d1, d2] }
  | _ => none }
def FnExactRackNetWrongFalsely : Prop := fnExactRackNetRow.holds Try.pinned (OpenSpec.ofChange fnExactRackNetWrong)

/-- 'laws.FnDistances': WHATEVER THE INPUT: true; the input reads as it did. -/
def fnDistancesSpec : ChangeSpec := { name := "fnDistances", fn := fun _ => fun
  | [d] => { results := [.lit (.bool true)], args := [d] }
  | _ => none }
def fnDistancesRow : OpenClaim := { program := "ytalcbcelalbhiaa", sum := "06e0c38720e1147a67a659a2fbcc375fcfa3e73d59b66e8cd38e6b7033999292", func := "loop.example/g01049/laws.FnDistances", spec := "fnDistances", apart := false }
def FnDistancesSaid : Prop := fnDistancesRow.holds Try.pinned (OpenSpec.ofChange fnDistancesSpec)

/-- ITS FALSE NEIGHBOUR: 'it returns false'. Refute it at one input. -/
def fnDistancesWrong : ChangeSpec := { name := "fnDistances", fn := fun _ => fun
  | [d] => { results := [.lit (.bool false)], args := [d] }
  | _ => none }
def FnDistancesWrongFalsely : Prop := fnDistancesRow.holds Try.pinned (OpenSpec.ofChange fnDistancesWrong)

/-- 'laws.FnWires': WHATEVER THE INPUT: true; the input reads as it did. -/
def fnWiresSpec : ChangeSpec := { name := "fnWires", fn := fun _ => fun
  | [d] => { results := [.lit (.bool true)], args := [d] }
  | _ => none }
def fnWiresRow : OpenClaim := { program := "ytalcbcelalbhiaa", sum := "06e0c38720e1147a67a659a2fbcc375fcfa3e73d59b66e8cd38e6b7033999292", func := "loop.example/g01049/laws.FnWires", spec := "fnWires", apart := false }
def FnWiresSaid : Prop := fnWiresRow.holds Try.pinned (OpenSpec.ofChange fnWiresSpec)

/-- ITS FALSE NEIGHBOUR: 'it returns false'. Refute it at one input. -/
def fnWiresWrong : ChangeSpec := { name := "fnWires", fn := fun _ => fun
  | [d] => { results := [.lit (.bool false)], args := [d] }
  | _ => none }
def FnWiresWrongFalsely : Prop := fnWiresRow.holds Try.pinned (OpenSpec.ofChange fnWiresWrong)

/- THE SECOND FORM. 'bulk': how many values and letters a reading holds, each counted each time it is reached (what is shared counts as often as it is met; a slice's spare places count too). A statement '..UptoSaid' is the law's where the arguments, and the package variables that the reading takes, are together of bulk at most 1048576: NARROWER than '..Said'. Prove '..Said' where nothing that the law and all that it calls make is longer than what came in: it says more and counts as full. Else prove '..UptoSaid'. A law counts once. -/
mutual
def uptoBulk {H : Type} : DataW H → Nat
  | .lit (.string bytes) => bytes.length + 1
  | .lit _ => 1
  | .nil => 1
  | .ptr d => uptoBulk d + 1
  | .slice elems spare => uptoBulkAll elems + uptoBulkAll spare + 1
  | .agg parts => uptoBulkAll parts + 1
  | .iface _ d => uptoBulk d + 1
  | .map entries => uptoBulkEntries entries + 1
  | .held _ => 1
def uptoBulkAll {H : Type} : List (DataW H) → Nat
  | [] => 0
  | d :: r => uptoBulk d + uptoBulkAll r
def uptoBulkEntries {H : Type} : List (Lit × DataW H) → Nat
  | [] => 0
  | x :: r => uptoBulkEntry x + uptoBulkEntries r
def uptoBulkEntry {H : Type} : Lit × DataW H → Nat
  | (.string bytes, d) => bytes.length + uptoBulk d + 1
  | (_, d) => uptoBulk d + 1
 end
def uptoSmall : (H : Type) → List (DataW H) → Bool := fun _ ds => decide (uptoBulkAll ds ≤ 1048576)
def OpenSpec.upto (s : _root_.Go.ChangeSpec) : _root_.Go.OpenSpec := { _root_.Go.OpenSpec.ofChange s with cond := some uptoSmall }

/-- 'laws.FnExactWireCue', WHERE WHAT IT READS IS OF BULK AT MOST 1048576: true; the input reads as it did. -/
def fnExactWireCueUptoRow : OpenClaim := { program := "ytalcbcelalbhiaa", sum := "06e0c38720e1147a67a659a2fbcc375fcfa3e73d59b66e8cd38e6b7033999292", func := "loop.example/g01049/laws.FnExactWireCue", spec := "fnExactWireCue", apart := false, narrowed := true }
def FnExactWireCueUptoSaid : Prop := fnExactWireCueUptoRow.holds Try.pinned (OpenSpec.upto fnExactWireCueSpec)

/-- 'laws.FnExactAreasAgainst', WHERE WHAT IT READS IS OF BULK AT MOST 1048576: true; the input reads as it did. -/
def fnExactAreasAgainstUptoRow : OpenClaim := { program := "ytalcbcelalbhiaa", sum := "06e0c38720e1147a67a659a2fbcc375fcfa3e73d59b66e8cd38e6b7033999292", func := "loop.example/g01049/laws.FnExactAreasAgainst", spec := "fnExactAreasAgainst", apart := false, narrowed := true }
def FnExactAreasAgainstUptoSaid : Prop := fnExactAreasAgainstUptoRow.holds Try.pinned (OpenSpec.upto fnExactAreasAgainstSpec)

/-- 'laws.FnExactWireAll', WHERE WHAT IT READS IS OF BULK AT MOST 1048576: true; the input reads as it did. -/
def fnExactWireAllUptoRow : OpenClaim := { program := "ytalcbcelalbhiaa", sum := "06e0c38720e1147a67a659a2fbcc375fcfa3e73d59b66e8cd38e6b7033999292", func := "loop.example/g01049/laws.FnExactWireAll", spec := "fnExactWireAll", apart := false, narrowed := true }
def FnExactWireAllUptoSaid : Prop := fnExactWireAllUptoRow.holds Try.pinned (OpenSpec.upto fnExactWireAllSpec)

/-- 'laws.FnExactGreatestLoad', WHERE WHAT IT READS IS OF BULK AT MOST 1048576: true; the input reads as it did. -/
def fnExactGreatestLoadUptoRow : OpenClaim := { program := "ytalcbcelalbhiaa", sum := "06e0c38720e1147a67a659a2fbcc375fcfa3e73d59b66e8cd38e6b7033999292", func := "loop.example/g01049/laws.FnExactGreatestLoad", spec := "fnExactGreatestLoad", apart := false, narrowed := true }
def FnExactGreatestLoadUptoSaid : Prop := fnExactGreatestLoadUptoRow.holds Try.pinned (OpenSpec.upto fnExactGreatestLoadSpec)

/-- 'laws.FnExactRackNet', WHERE WHAT IT READS IS OF BULK AT MOST 1048576: true; the input reads as it did. -/
def fnExactRackNetUptoRow : OpenClaim := { program := "ytalcbcelalbhiaa", sum := "06e0c38720e1147a67a659a2fbcc375fcfa3e73d59b66e8cd38e6b7033999292", func := "loop.example/g01049/laws.FnExactRackNet", spec := "fnExactRackNet", apart := false, narrowed := true }
def FnExactRackNetUptoSaid : Prop := fnExactRackNetUptoRow.holds Try.pinned (OpenSpec.upto fnExactRackNetSpec)

/-- 'laws.FnDistances', WHERE WHAT IT READS IS OF BULK AT MOST 1048576: true; the input reads as it did. -/
def fnDistancesUptoRow : OpenClaim := { program := "ytalcbcelalbhiaa", sum := "06e0c38720e1147a67a659a2fbcc375fcfa3e73d59b66e8cd38e6b7033999292", func := "loop.example/g01049/laws.FnDistances", spec := "fnDistances", apart := false, narrowed := true }
def FnDistancesUptoSaid : Prop := fnDistancesUptoRow.holds Try.pinned (OpenSpec.upto fnDistancesSpec)

/-- 'laws.FnWires', WHERE WHAT IT READS IS OF BULK AT MOST 1048576: true; the input reads as it did. -/
def fnWiresUptoRow : OpenClaim := { program := "ytalcbcelalbhiaa", sum := "06e0c38720e1147a67a659a2fbcc375fcfa3e73d59b66e8cd38e6b7033999292", func := "loop.example/g01049/laws.FnWires", spec := "fnWires", apart := false, narrowed := true }
def FnWiresUptoSaid : Prop := fnWiresUptoRow.holds Try.pinned (OpenSpec.upto fnWiresSpec)

end Rows
end Go.Proofs.Ytalcbcelalbhiaa
