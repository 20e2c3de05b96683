/-
  No cell of these rows narrows 'for every input' (looked for: loops, veiled, ifaces, maps, wideKeys, modest, calm, conditions, laid).
  DERIVED. THE GIVEN ROWS OF THIS SEAT. 12 by the template 'for every input the law returns true; each argument reads behind the call as it read before'; 0 by the template 'total and deterministic' (their statements: YtffnhobhpfnimaaTotals.lean).
  GIVEN WITH THE SEED: the statements are not yours to turn. If you find one false, say at which input.
  Laid BY PROGRAM, IN A SANDBOX (cutbox-rows.mjs): the forced cells as the released guide's own fill.sh prints them over the translation 781d8f6348de5047… (all of the seat's roots in one cut). By AI agents, Wed Nov 11 2026. No macro, syntax, notation, axiom, sorry.
-/
import Derived.Test.YtffnhobhpfnimaaChecked
import GoSem.Claim
import GoSem.ClaimJoined
import GoSem.ClaimMapViews
import Derived.JoinedTies
import Derived.KernelRfl
namespace Go.Proofs.Ytffnhobhpfnimaa
/- THE CELL 'sum', in the pinned program and in every row, IS THE sha256 OF THE DUMP (.gsa) THAT YtffnhobhpfnimaaProg.lean LOADS. Nothing in Lean hashes anything: it is a label: what it is worth is what the hold of that sum in a sandbox is worth. -/
noncomputable def Try.pinned : Pinned := { name := "ytffnhobhpfnimaa", sum := "781d8f6348de5047d3f3b80cf77d0ccdc3f80ed971cb052ba033ad47a3324de7", checked := Try.checked }
namespace Rows
def none {H : Type} : Left H := { results := [], args := [] }

/-- 'laws.FnExactFreeRadius': WHATEVER THE INPUT: true; the input reads as it did. -/
def fnExactFreeRadiusSpec : ChangeSpec := { name := "fnExactFreeRadius", fn := fun _ => fun
  | [d1, d2, d3, d4] => { results := [.lit (.bool true)], args := [d1, d2, d3, d4] }
  | _ => none }
def fnExactFreeRadiusRow : OpenClaim := { program := "ytffnhobhpfnimaa", sum := "781d8f6348de5047d3f3b80cf77d0ccdc3f80ed971cb052ba033ad47a3324de7", func := "loop.example/g01049/laws.FnExactFreeRadius", spec := "fnExactFreeRadius", apart := false }
def FnExactFreeRadiusSaid : Prop := fnExactFreeRadiusRow.holds Try.pinned (OpenSpec.ofChange fnExactFreeRadiusSpec)

/-- ITS FALSE NEIGHBOUR: 'it returns false'. Refute it at one input. -/
def fnExactFreeRadiusWrong : ChangeSpec := { name := "fnExactFreeRadius", fn := fun _ => fun
  | [d1, d2, d3, d4] => { results := [.lit (.bool false)], args := [d1, d2, d3, d4] }
  | _ => none }
def FnExactFreeRadiusWrongFalsely : Prop := fnExactFreeRadiusRow.holds Try.pinned (OpenSpec.ofChange fnExactFreeRadiusWrong)

/-- 'laws.FnExactModulesBelow': WHATEVER THE INPUT: true; the input reads as it did. -/
def fnExactModulesBelowSpec : ChangeSpec := { name := "fnExactModulesBelow", fn := fun _ => fun
  | [d1, d2] => { results := [.lit (.bool true)], args := [d1, d2] }
  | _ => none }
def fnExactModulesBelowRow : OpenClaim := { program := "ytffnhobhpfnimaa", sum := "781d8f6348de5047d3f3b80cf77d0ccdc3f80ed971cb052ba033ad47a3324de7", func := "loop.example/g01049/laws.FnExactModulesBelow", spec := "fnExactModulesBelow", apart := false }
def FnExactModulesBelowSaid : Prop := fnExactModulesBelowRow.holds Try.pinned (OpenSpec.ofChange fnExactModulesBelowSpec)

/-- ITS FALSE NEIGHBOUR: 'it returns false'. Refute it at one input. -/
def fnExactModulesBelowWrong : ChangeSpec := { name := "fnExactModulesBelow", fn := fun _ => fun
  | [d1, d2] => { results := [.lit (.bool false)], args := [d1, d2] }
  | _ => none }
def FnExactModulesBelowWrongFalsely : Prop := fnExactModulesBelowRow.holds Try.pinned (OpenSpec.ofChange fnExactModulesBelowWrong)

/-- 'laws.FnExactAreasWithin': WHATEVER THE INPUT: true; the input reads as it did. -/
def fnExactAreasWithinSpec : ChangeSpec := { name := "fnExactAreasWithin", fn := fun _ => fun
  | [d1, d2, d3, d4] => { results := [.lit (.bool true)], args := [d1, d2, d3, d4] }
  | _ => none }
def fnExactAreasWithinRow : OpenClaim := { program := "ytffnhobhpfnimaa", sum := "781d8f6348de5047d3f3b80cf77d0ccdc3f80ed971cb052ba033ad47a3324de7", func := "loop.example/g01049/laws.FnExactAreasWithin", spec := "fnExactAreasWithin", apart := false }
def FnExactAreasWithinSaid : Prop := fnExactAreasWithinRow.holds Try.pinned (OpenSpec.ofChange fnExactAreasWithinSpec)

/-- ITS FALSE NEIGHBOUR: 'it returns false'. Refute it at one input. -/
def fnExactAreasWithinWrong : ChangeSpec := { name := "fnExactAreasWithin", fn := fun _ => fun
  | [d1, d2, d3, d4] => { results := [.lit (.bool false)], args := [d1, d2, d3, d4] }
  | _ => none }
def FnExactAreasWithinWrongFalsely : Prop := fnExactAreasWithinRow.holds Try.pinned (OpenSpec.ofChange fnExactAreasWithinWrong)

/-- 'laws.FnExactOverlappingAreas': WHATEVER THE INPUT: true; the input reads as it did. -/
def fnExactOverlappingAreasSpec : ChangeSpec := { name := "fnExactOverlappingAreas", fn := fun _ => fun
  | [d] => { results := [.lit (.bool true)], args := [d] }
  | _ => none }
def fnExactOverlappingAreasRow : OpenClaim := { program := "ytffnhobhpfnimaa", sum := "781d8f6348de5047d3f3b80cf77d0ccdc3f80ed971cb052ba033ad47a3324de7", func := "loop.example/g01049/laws.FnExactOverlappingAreas", spec := "fnExactOverlappingAreas", apart := false }
def FnExactOverlappingAreasSaid : Prop := fnExactOverlappingAreasRow.holds Try.pinned (OpenSpec.ofChange fnExactOverlappingAreasSpec)

/-- ITS FALSE NEIGHBOUR: 'it returns false'. Refute it at one input. -/
def fnExactOverlappingAreasWrong : ChangeSpec := { name := "fnExactOverlappingAreas", fn := fun _ => fun
  | [d] => { results := [.lit (.bool false)], args := [d] }
  | _ => none }
def FnExactOverlappingAreasWrongFalsely : Prop := fnExactOverlappingAreasRow.holds Try.pinned (OpenSpec.ofChange fnExactOverlappingAreasWrong)

/-- 'laws.FnPieces': WHATEVER THE INPUT: true; the input reads as it did. -/
def fnPiecesSpec : ChangeSpec := { name := "fnPieces", fn := fun _ => fun
  | [d] => { results := [.lit (.bool true)], args := [d] }
  | _ => none }
def fnPiecesRow : OpenClaim := { program := "ytffnhobhpfnimaa", sum := "781d8f6348de5047d3f3b80cf77d0ccdc3f80ed971cb052ba033ad47a3324de7", func := "loop.example/g01049/laws.FnPieces", spec := "fnPieces", apart := false }
def FnPiecesSaid : Prop := fnPiecesRow.holds Try.pinned (OpenSpec.ofChange fnPiecesSpec)

/-- ITS FALSE NEIGHBOUR: 'it returns false'. Refute it at one input. -/
def fnPiecesWrong : ChangeSpec := { name := "fnPieces", fn := fun _ => fun
  | [d] => { results := [.lit (.bool false)], args := [d] }
  | _ => none }
def FnPiecesWrongFalsely : Prop := fnPiecesRow.holds Try.pinned (OpenSpec.ofChange fnPiecesWrong)

/-- 'laws.FnExactDropModule': WHATEVER THE INPUT: true; the input reads as it did. -/
def fnExactDropModuleSpec : ChangeSpec := { name := "fnExactDropModule", fn := fun _ => fun
  | [d1, d2] => { results := [.lit (.bool true)], args := [d1, d2] }
  | _ => none }
def fnExactDropModuleRow : OpenClaim := { program := "ytffnhobhpfnimaa", sum := "781d8f6348de5047d3f3b80cf77d0ccdc3f80ed971cb052ba033ad47a3324de7", func := "loop.example/g01049/laws.FnExactDropModule", spec := "fnExactDropModule", apart := false }
def FnExactDropModuleSaid : Prop := fnExactDropModuleRow.holds Try.pinned (OpenSpec.ofChange fnExactDropModuleSpec)

/-- ITS FALSE NEIGHBOUR: 'it returns false'. Refute it at one input. -/
def fnExactDropModuleWrong : ChangeSpec := { name := "fnExactDropModule", fn := fun _ => fun
  | [d1, d2] => { results := [.lit (.bool false)], args := [d1, d2] }
  | _ => none }
def FnExactDropModuleWrongFalsely : Prop := fnExactDropModuleRow.holds Try.pinned (OpenSpec.ofChange fnExactDropModuleWrong)

/-- 'laws.FnAreas': WHATEVER THE INPUT: true; the input reads as it did. -/
def fnAreasSpec : ChangeSpec := { name := "fnAreas", fn := fun _ => fun
  | [d] => { results := [.lit (.bool true)], args := [d] }
  | _ => none }
def fnAreasRow : OpenClaim := { program := "ytffnhobhpfnimaa", sum := "781d8f6348de5047d3f3b80cf77d0ccdc3f80ed971cb052ba033ad47a3324de7", func := "loop.example/g01049/laws.FnAreas", spec := "fnAreas", apart := false }
def FnAreasSaid : Prop := fnAreasRow.holds Try.pinned (OpenSpec.ofChange fnAreasSpec)

/-- ITS FALSE NEIGHBOUR: 'it returns false'. Refute it at one input. -/
def fnAreasWrong : ChangeSpec := { name := "fnAreas", fn := fun _ => fun
  | [d] => { results := [.lit (.bool false)], args := [d] }
  | _ => none }
def FnAreasWrongFalsely : Prop := fnAreasRow.holds Try.pinned (OpenSpec.ofChange fnAreasWrong)

/-- 'laws.FnExactCueAt': WHATEVER THE INPUT: true; the input reads as it did. -/
def fnExactCueAtSpec : ChangeSpec := { name := "fnExactCueAt", fn := fun _ => fun
  | [d1, d2, d3, d4, d5] => { results := [.lit (.bool true)], args := [d1, d2, d3, d4, d5] }
  | _ => none }
def fnExactCueAtRow : OpenClaim := { program := "ytffnhobhpfnimaa", sum := "781d8f6348de5047d3f3b80cf77d0ccdc3f80ed971cb052ba033ad47a3324de7", func := "loop.example/g01049/laws.FnExactCueAt", spec := "fnExactCueAt", apart := false }
def FnExactCueAtSaid : Prop := fnExactCueAtRow.holds Try.pinned (OpenSpec.ofChange fnExactCueAtSpec)

/-- ITS FALSE NEIGHBOUR: 'it returns false'. Refute it at one input. -/
def fnExactCueAtWrong : ChangeSpec := { name := "fnExactCueAt", fn := fun _ => fun
  | [d1, d2, d3, d4, d5] => { results := [.lit (.bool false)], args := [d1, d2, d3, d4, d5] }
  | _ => none }
def FnExactCueAtWrongFalsely : Prop := fnExactCueAtRow.holds Try.pinned (OpenSpec.ofChange fnExactCueAtWrong)

/-- 'laws.FnSites': WHATEVER THE INPUT: true; the input reads as it did. -/
def fnSitesSpec : ChangeSpec := { name := "fnSites", fn := fun _ => fun
  | [d] => { results := [.lit (.bool true)], args := [d] }
  | _ => none }
def fnSitesRow : OpenClaim := { program := "ytffnhobhpfnimaa", sum := "781d8f6348de5047d3f3b80cf77d0ccdc3f80ed971cb052ba033ad47a3324de7", func := "loop.example/g01049/laws.FnSites", spec := "fnSites", apart := false }
def FnSitesSaid : Prop := fnSitesRow.holds Try.pinned (OpenSpec.ofChange fnSitesSpec)

/-- ITS FALSE NEIGHBOUR: 'it returns false'. Refute it at one input. -/
def fnSitesWrong : ChangeSpec := { name := "fnSites", fn := fun _ => fun
  | [d] => { results := [.lit (.bool false)], args := [d] }
  | _ => none }
def FnSitesWrongFalsely : Prop := fnSitesRow.holds Try.pinned (OpenSpec.ofChange fnSitesWrong)

/-- 'laws.FnMixes': WHATEVER THE INPUT: true; the input reads as it did. -/
def fnMixesSpec : ChangeSpec := { name := "fnMixes", fn := fun _ => fun
  | [d] => { results := [.lit (.bool true)], args := [d] }
  | _ => none }
def fnMixesRow : OpenClaim := { program := "ytffnhobhpfnimaa", sum := "781d8f6348de5047d3f3b80cf77d0ccdc3f80ed971cb052ba033ad47a3324de7", func := "loop.example/g01049/laws.FnMixes", spec := "fnMixes", apart := false }
def FnMixesSaid : Prop := fnMixesRow.holds Try.pinned (OpenSpec.ofChange fnMixesSpec)

/-- ITS FALSE NEIGHBOUR: 'it returns false'. Refute it at one input. -/
def fnMixesWrong : ChangeSpec := { name := "fnMixes", fn := fun _ => fun
  | [d] => { results := [.lit (.bool false)], args := [d] }
  | _ => none }
def FnMixesWrongFalsely : Prop := fnMixesRow.holds Try.pinned (OpenSpec.ofChange fnMixesWrong)

/-- 'laws.FnCurrents': WHATEVER THE INPUT: true; the input reads as it did. -/
def fnCurrentsSpec : ChangeSpec := { name := "fnCurrents", fn := fun _ => fun
  | [d] => { results := [.lit (.bool true)], args := [d] }
  | _ => none }
def fnCurrentsRow : OpenClaim := { program := "ytffnhobhpfnimaa", sum := "781d8f6348de5047d3f3b80cf77d0ccdc3f80ed971cb052ba033ad47a3324de7", func := "loop.example/g01049/laws.FnCurrents", spec := "fnCurrents", apart := false }
def FnCurrentsSaid : Prop := fnCurrentsRow.holds Try.pinned (OpenSpec.ofChange fnCurrentsSpec)

/-- ITS FALSE NEIGHBOUR: 'it returns false'. Refute it at one input. -/
def fnCurrentsWrong : ChangeSpec := { name := "fnCurrents", fn := fun _ => fun
  | [d] => { results := [.lit (.bool false)], args := [d] }
  | _ => none }
def FnCurrentsWrongFalsely : Prop := fnCurrentsRow.holds Try.pinned (OpenSpec.ofChange fnCurrentsWrong)

/-- 'laws.FnAreaTexts': WHATEVER THE INPUT: true; the input reads as it did. -/
def fnAreaTextsSpec : ChangeSpec := { name := "fnAreaTexts", fn := fun _ => fun
  | [d] => { results := [.lit (.bool true)], args := [d] }
  | _ => none }
def fnAreaTextsRow : OpenClaim := { program := "ytffnhobhpfnimaa", sum := "781d8f6348de5047d3f3b80cf77d0ccdc3f80ed971cb052ba033ad47a3324de7", func := "loop.example/g01049/laws.FnAreaTexts", spec := "fnAreaTexts", recurses := true, apart := false }
def FnAreaTextsSaid : Prop := fnAreaTextsRow.holds Try.pinned (OpenSpec.ofChange fnAreaTextsSpec)

/-- ITS FALSE NEIGHBOUR: 'it returns false'. Refute it at one input. -/
def fnAreaTextsWrong : ChangeSpec := { name := "fnAreaTexts", fn := fun _ => fun
  | [d] => { results := [.lit (.bool false)], args := [d] }
  | _ => none }
def FnAreaTextsWrongFalsely : Prop := fnAreaTextsRow.holds Try.pinned (OpenSpec.ofChange fnAreaTextsWrong)

/- THE SECOND FORM. 'bulk': how many values and letters a reading holds, each counted each time it is reached (what is shared counts as often as it is met; a slice's spare places count too). A statement '..UptoSaid' is the law's where the arguments, and the package variables that the reading takes, are together of bulk at most 1048576: NARROWER than '..Said'. Prove '..Said' where nothing that the law and all that it calls make is longer than what came in: it says more and counts as full. Else prove '..UptoSaid'. A law counts once. -/
mutual
def uptoBulk {H : Type} : DataW H → Nat
  | .lit (.string bytes) => bytes.length + 1
  | .lit _ => 1
  | .nil => 1
  | .ptr d => uptoBulk d + 1
  | .slice elems spare => uptoBulkAll elems + uptoBulkAll spare + 1
  | .agg parts => uptoBulkAll parts + 1
  | .iface _ d => uptoBulk d + 1
  | .map entries => uptoBulkEntries entries + 1
  | .held _ => 1
def uptoBulkAll {H : Type} : List (DataW H) → Nat
  | [] => 0
  | d :: r => uptoBulk d + uptoBulkAll r
def uptoBulkEntries {H : Type} : List (Lit × DataW H) → Nat
  | [] => 0
  | x :: r => uptoBulkEntry x + uptoBulkEntries r
def uptoBulkEntry {H : Type} : Lit × DataW H → Nat
  | (.string bytes, d) => bytes.length + uptoBulk d + 1
  | (_, d) => uptoBulk d + 1
 end
def uptoSmall : (H : Type) → List (DataW H) → Bool := fun _ ds => decide (uptoBulkAll ds ≤ 1048576)
def OpenSpec.upto (s : _root_.Go.ChangeSpec) : _root_.Go.OpenSpec := { _root_.Go.OpenSpec.ofChange s with cond := some uptoSmall }

/-- 'laws.FnExactFreeRadius', WHERE WHAT IT READS IS OF BULK AT MOST 1048576: true; the input reads as it did. -/
def fnExactFreeRadiusUptoRow : OpenClaim := { program := "ytffnhobhpfnimaa", sum := "781d8f6348de5047d3f3b80cf77d0ccdc3f80ed971cb052ba033ad47a3324de7", func := "loop.example/g01049/laws.FnExactFreeRadius", spec := "fnExactFreeRadius", apart := false, narrowed := true }
def FnExactFreeRadiusUptoSaid : Prop := fnExactFreeRadiusUptoRow.holds Try.pinned (OpenSpec.upto fnExactFreeRadiusSpec)

/-- 'laws.FnExactModulesBelow', WHERE WHAT IT READS IS OF BULK AT MOST 1048576: true; the input reads as it did. -/
def fnExactModulesBelowUptoRow : OpenClaim := { program := "ytffnhobhpfnimaa", sum := "781d8f6348de5047d3f3b80cf77d0ccdc3f80ed971cb052ba033ad47a3324de7", func := "loop.example/g01049/laws.FnExactModulesBelow", spec := "fnExactModulesBelow", apart := false, narrowed := true }
def FnExactModulesBelowUptoSaid : Prop := fnExactModulesBelowUptoRow.holds Try.pinned (OpenSpec.upto fnExactModulesBelowSpec)

/-- 'laws.FnExactAreasWithin', WHERE WHAT IT READS IS OF BULK AT MOST 1048576: true; the input reads as it did. -/
def fnExactAreasWithinUptoRow : OpenClaim := { program := "ytffnhobhpfnimaa", sum := "781d8f6348de5047d3f3b80cf77d0ccdc3f80ed971cb052ba033ad47a3324de7", func := "loop.example/g01049/laws.FnExactAreasWithin", spec := "fnExactAreasWithin", apart := false, narrowed := true }
def FnExactAreasWithinUptoSaid : Prop := fnExactAreasWithinUptoRow.holds Try.pinned (OpenSpec.upto fnExactAreasWithinSpec)

/-- 'laws.FnExactOverlappingAreas', WHERE WHAT IT READS IS OF BULK AT MOST 1048576: true; the input reads as it did. -/
def fnExactOverlappingAreasUptoRow : OpenClaim := { program := "ytffnhobhpfnimaa", sum := "781d8f6348de5047d3f3b80cf77d0ccdc3f80ed971cb052ba033ad47a3324de7", func := "loop.example/g01049/laws.FnExactOverlappingAreas", spec := "fnExactOverlappingAreas", apart := false, narrowed := true }
def FnExactOverlappingAreasUptoSaid : Prop := fnExactOverlappingAreasUptoRow.holds Try.pinned (OpenSpec.upto fnExactOverlappingAreasSpec)

/-- 'laws.FnPieces', WHERE WHAT IT READS IS OF BULK AT MOST 1048576: true; the input reads as it did. -/
def fnPiecesUptoRow : OpenClaim := { program := "ytffnhobhpfnimaa", sum := "781d8f6348de5047d3f3b80cf77d0ccdc3f80ed971cb052ba033ad47a3324de7", func := "loop.example/g01049/laws.FnPieces", spec := "fnPieces", apart := false, narrowed := true }
def FnPiecesUptoSaid : Prop := fnPiecesUptoRow.holds Try.pinned (OpenSpec.upto fnPiecesSpec)

/-- 'laws.FnExactDropModule', WHERE WHAT IT READS IS OF BULK AT MOST 1048576: true; the input reads as it did. -/
def fnExactDropModuleUptoRow : OpenClaim := { program := "ytffnhobhpfnimaa", sum := "781d8f6348de5047d3f3b80cf77d0ccdc3f80ed971cb052ba033ad47a3324de7", func := "loop.example/g01049/laws.FnExactDropModule", spec := "fnExactDropModule", apart := false, narrowed := true }
def FnExactDropModuleUptoSaid : Prop := fnExactDropModuleUptoRow.holds Try.pinned (OpenSpec.upto fnExactDropModuleSpec)

/-- 'laws.FnAreas', WHERE WHAT IT READS IS OF BULK AT MOST 1048576: true; the input reads as it did. -/
def fnAreasUptoRow : OpenClaim := { program := "ytffnhobhpfnimaa", sum := "781d8f6348de5047d3f3b80cf77d0ccdc3f80ed971cb052ba033ad47a3324de7", func := "loop.example/g01049/laws.FnAreas", spec := "fnAreas", apart := false, narrowed := true }
def FnAreasUptoSaid : Prop := fnAreasUptoRow.holds Try.pinned (OpenSpec.upto fnAreasSpec)

/-- 'laws.FnExactCueAt', WHERE WHAT IT READS IS OF BULK AT MOST 1048576: true; the input reads as it did. -/
def fnExactCueAtUptoRow : OpenClaim := { program := "ytffnhobhpfnimaa", sum := "781d8f6348de5047d3f3b80cf77d0ccdc3f80ed971cb052ba033ad47a3324de7", func := "loop.example/g01049/laws.FnExactCueAt", spec := "fnExactCueAt", apart := false, narrowed := true }
def FnExactCueAtUptoSaid : Prop := fnExactCueAtUptoRow.holds Try.pinned (OpenSpec.upto fnExactCueAtSpec)

/-- 'laws.FnSites', WHERE WHAT IT READS IS OF BULK AT MOST 1048576: true; the input reads as it did. -/
def fnSitesUptoRow : OpenClaim := { program := "ytffnhobhpfnimaa", sum := "781d8f6348de5047d3f3b80cf77d0ccdc3f80ed971cb052ba033ad47a3324de7", func := "loop.example/g01049/laws.FnSites", spec := "fnSites", apart := false, narrowed := true }
def FnSitesUptoSaid : Prop := fnSitesUptoRow.holds Try.pinned (OpenSpec.upto fnSitesSpec)

/-- 'laws.FnMixes', WHERE WHAT IT READS IS OF BULK AT MOST 1048576: true; the input reads as it did. -/
def fnMixesUptoRow : OpenClaim := { program := "ytffnhobhpfnimaa", sum := "781d8f6348de5047d3f3b80cf77d0ccdc3f80ed971cb052ba033ad47a3324de7", func := "loop.example/g01049/laws.FnMixes", spec := "fnMixes", apart := false, narrowed := true }
def FnMixesUptoSaid : Prop := fnMixesUptoRow.holds Try.pinned (OpenSpec.upto fnMixesSpec)

/-- 'laws.FnCurrents', WHERE WHAT IT READS IS OF BULK AT MOST 1048576: true; the input reads as it did. -/
def fnCurrentsUptoRow : OpenClaim := { program := "ytffnhobhpfnimaa", sum := "781d8f6348de5047d3f3b80cf77d0ccdc3f80ed971cb052ba033ad47a3324de7", func := "loop.example/g01049/laws.FnCurrents", spec := "fnCurrents", apart := false, narrowed := true }
def FnCurrentsUptoSaid : Prop := fnCurrentsUptoRow.holds Try.pinned (OpenSpec.upto fnCurrentsSpec)

/-- 'laws.FnAreaTexts', WHERE WHAT IT READS IS OF BULK AT MOST 1048576: true; the input reads as it did. -/
def fnAreaTextsUptoRow : OpenClaim := { program := "ytffnhobhpfnimaa", sum := "781d8f6348de5047d3f3b80cf77d0ccdc3f80ed971cb052ba033ad47a3324de7", func := "loop.example/g01049/laws.FnAreaTexts", spec := "fnAreaTexts", recurses := true, apart := false, narrowed := true }
def FnAreaTextsUptoSaid : Prop := fnAreaTextsUptoRow.holds Try.pinned (OpenSpec.upto fnAreaTextsSpec)

end Rows
end Go.Proofs.Ytffnhobhpfnimaa
