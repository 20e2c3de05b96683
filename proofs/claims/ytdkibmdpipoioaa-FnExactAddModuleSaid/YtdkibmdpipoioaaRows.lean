/-
  No cell of these rows narrows 'for every input' (looked for: loops, veiled, ifaces, maps, wideKeys, modest, calm, conditions, laid).
  DERIVED. THE GIVEN ROWS OF THIS SEAT. 12 by the template 'for every input the law returns true; each argument reads behind the call as it read before'; 0 by the template 'total and deterministic' (their statements: YtdkibmdpipoioaaTotals.lean).
  GIVEN WITH THE SEED: the statements are not yours to turn. If you find one false, say at which input.
  Laid BY PROGRAM, IN A SANDBOX (cutbox-rows.mjs): the forced cells as the released guide's own fill.sh prints them over the translation d1078fdc87465cd7… (all of the seat's roots in one cut). By AI agents, Wed Nov 11 2026. No macro, syntax, notation, axiom, sorry.
-/
import Derived.Test.YtdkibmdpipoioaaChecked
import GoSem.Claim
import GoSem.ClaimJoined
import GoSem.ClaimMapViews
import Derived.JoinedTies
import Derived.KernelRfl
namespace Go.Proofs.Ytdkibmdpipoioaa
/- THE CELL 'sum', in the pinned program and in every row, IS THE sha256 OF THE DUMP (.gsa) THAT YtdkibmdpipoioaaProg.lean LOADS. Nothing in Lean hashes anything: it is a label: what it is worth is what the hold of that sum in a sandbox is worth. -/
noncomputable def Try.pinned : Pinned := { name := "ytdkibmdpipoioaa", sum := "d1078fdc87465cd7fecd2f458fab9b5cc4f57104e11a5948d895b8facbe28860", checked := Try.checked }
namespace Rows
def none {H : Type} : Left H := { results := [], args := [] }

/-- 'laws.FnExactIsSite': WHATEVER THE INPUT: true; the input reads as it did. -/
def fnExactIsSiteSpec : ChangeSpec := { name := "fnExactIsSite", fn := fun _ => fun
  | [d] => { results := [.lit (.bool true)], args := [d] }
  | _ => none }
def fnExactIsSiteRow : OpenClaim := { program := "ytdkibmdpipoioaa", sum := "d1078fdc87465cd7fecd2f458fab9b5cc4f57104e11a5948d895b8facbe28860", func := "loop.example/g01049/laws.FnExactIsSite", spec := "fnExactIsSite", apart := false }
def FnExactIsSiteSaid : Prop := fnExactIsSiteRow.holds Try.pinned (OpenSpec.ofChange fnExactIsSiteSpec)

/-- ITS FALSE NEIGHBOUR: 'it returns false'. Refute it at one input. -/
def fnExactIsSiteWrong : ChangeSpec := { name := "fnExactIsSite", fn := fun _ => fun
  | [d] => { results := [.lit (.bool false)], args := [d] }
  | _ => none }
def FnExactIsSiteWrongFalsely : Prop := fnExactIsSiteRow.holds Try.pinned (OpenSpec.ofChange fnExactIsSiteWrong)

/-- 'laws.FnExactExpectedOf': WHATEVER THE INPUT: true; the input reads as it did. -/
def fnExactExpectedOfSpec : ChangeSpec := { name := "fnExactExpectedOf", fn := fun _ => fun
  | [d] => { results := [.lit (.bool true)], args := [d] }
  | _ => none }
def fnExactExpectedOfRow : OpenClaim := { program := "ytdkibmdpipoioaa", sum := "d1078fdc87465cd7fecd2f458fab9b5cc4f57104e11a5948d895b8facbe28860", func := "loop.example/g01049/laws.FnExactExpectedOf", spec := "fnExactExpectedOf", apart := false }
def FnExactExpectedOfSaid : Prop := fnExactExpectedOfRow.holds Try.pinned (OpenSpec.ofChange fnExactExpectedOfSpec)

/-- ITS FALSE NEIGHBOUR: 'it returns false'. Refute it at one input. -/
def fnExactExpectedOfWrong : ChangeSpec := { name := "fnExactExpectedOf", fn := fun _ => fun
  | [d] => { results := [.lit (.bool false)], args := [d] }
  | _ => none }
def FnExactExpectedOfWrongFalsely : Prop := fnExactExpectedOfRow.holds Try.pinned (OpenSpec.ofChange fnExactExpectedOfWrong)

/-- 'laws.FnExactCurrentOf': WHATEVER THE INPUT: true; the input reads as it did. -/
def fnExactCurrentOfSpec : ChangeSpec := { name := "fnExactCurrentOf", fn := fun _ => fun
  | [d1, d2] => { results := [.lit (.bool true)], args := [d1, d2] }
  | _ => none }
def fnExactCurrentOfRow : OpenClaim := { program := "ytdkibmdpipoioaa", sum := "d1078fdc87465cd7fecd2f458fab9b5cc4f57104e11a5948d895b8facbe28860", func := "loop.example/g01049/laws.FnExactCurrentOf", spec := "fnExactCurrentOf", apart := false }
def FnExactCurrentOfSaid : Prop := fnExactCurrentOfRow.holds Try.pinned (OpenSpec.ofChange fnExactCurrentOfSpec)

/-- ITS FALSE NEIGHBOUR: 'it returns false'. Refute it at one input. -/
def fnExactCurrentOfWrong : ChangeSpec := { name := "fnExactCurrentOf", fn := fun _ => fun
  | [d1, d2] => { results := [.lit (.bool false)], args := [d1, d2] }
  | _ => none }
def FnExactCurrentOfWrongFalsely : Prop := fnExactCurrentOfRow.holds Try.pinned (OpenSpec.ofChange fnExactCurrentOfWrong)

/-- 'laws.FnExactAddModule': WHATEVER THE INPUT: true; the input reads as it did. -/
def fnExactAddModuleSpec : ChangeSpec := { name := "fnExactAddModule", fn := fun _ => fun
  | [d1, d2] => { results := [.lit (.bool true)], args := [d1, d2] }
  | _ => none }
def fnExactAddModuleRow : OpenClaim := { program := "ytdkibmdpipoioaa", sum := "d1078fdc87465cd7fecd2f458fab9b5cc4f57104e11a5948d895b8facbe28860", func := "loop.example/g01049/laws.FnExactAddModule", spec := "fnExactAddModule", apart := false }
def FnExactAddModuleSaid : Prop := fnExactAddModuleRow.holds Try.pinned (OpenSpec.ofChange fnExactAddModuleSpec)

/-- ITS FALSE NEIGHBOUR: 'it returns false'. Refute it at one input. -/
def fnExactAddModuleWrong : ChangeSpec := { name := "fnExactAddModule", fn := fun _ => fun
  | [d1, d2] => { results := [.lit (.bool false)], args := [d1, d2] }
  | _ => none }
def FnExactAddModuleWrongFalsely : Prop := fnExactAddModuleRow.holds Try.pinned (OpenSpec.ofChange fnExactAddModuleWrong)

/-- 'laws.FnExactDepthOf': WHATEVER THE INPUT: true; the input reads as it did. -/
def fnExactDepthOfSpec : ChangeSpec := { name := "fnExactDepthOf", fn := fun _ => fun
  | [d1, d2] => { results := [.lit (.bool true)], args := [d1, d2] }
  | _ => none }
def fnExactDepthOfRow : OpenClaim := { program := "ytdkibmdpipoioaa", sum := "d1078fdc87465cd7fecd2f458fab9b5cc4f57104e11a5948d895b8facbe28860", func := "loop.example/g01049/laws.FnExactDepthOf", spec := "fnExactDepthOf", apart := false }
def FnExactDepthOfSaid : Prop := fnExactDepthOfRow.holds Try.pinned (OpenSpec.ofChange fnExactDepthOfSpec)

/-- ITS FALSE NEIGHBOUR: 'it returns false'. Refute it at one input. -/
def fnExactDepthOfWrong : ChangeSpec := { name := "fnExactDepthOf", fn := fun _ => fun
  | [d1, d2] => { results := [.lit (.bool false)], args := [d1, d2] }
  | _ => none }
def FnExactDepthOfWrongFalsely : Prop := fnExactDepthOfRow.holds Try.pinned (OpenSpec.ofChange fnExactDepthOfWrong)

/-- 'laws.FnExactVoltsFor': WHATEVER THE INPUT: true; the input reads as it did. -/
def fnExactVoltsForSpec : ChangeSpec := { name := "fnExactVoltsFor", fn := fun _ => fun
  | [d1, d2] => { results := [.lit (.bool true)], args := [d1, d2] }
  | _ => none }
def fnExactVoltsForRow : OpenClaim := { program := "ytdkibmdpipoioaa", sum := "d1078fdc87465cd7fecd2f458fab9b5cc4f57104e11a5948d895b8facbe28860", func := "loop.example/g01049/laws.FnExactVoltsFor", spec := "fnExactVoltsFor", apart := false }
def FnExactVoltsForSaid : Prop := fnExactVoltsForRow.holds Try.pinned (OpenSpec.ofChange fnExactVoltsForSpec)

/-- ITS FALSE NEIGHBOUR: 'it returns false'. Refute it at one input. -/
def fnExactVoltsForWrong : ChangeSpec := { name := "fnExactVoltsFor", fn := fun _ => fun
  | [d1, d2] => { results := [.lit (.bool false)], args := [d1, d2] }
  | _ => none }
def FnExactVoltsForWrongFalsely : Prop := fnExactVoltsForRow.holds Try.pinned (OpenSpec.ofChange fnExactVoltsForWrong)

/-- 'laws.FnExactMeetingPoint': WHATEVER THE INPUT: true; the input reads as it did. -/
def fnExactMeetingPointSpec : ChangeSpec := { name := "fnExactMeetingPoint", fn := fun _ => fun
  | [d1, d2, d3] => { results := [.lit (.bool true)], args := [d1, d2, d3] }
  | _ => none }
def fnExactMeetingPointRow : OpenClaim := { program := "ytdkibmdpipoioaa", sum := "d1078fdc87465cd7fecd2f458fab9b5cc4f57104e11a5948d895b8facbe28860", func := "loop.example/g01049/laws.FnExactMeetingPoint", spec := "fnExactMeetingPoint", apart := false }
def FnExactMeetingPointSaid : Prop := fnExactMeetingPointRow.holds Try.pinned (OpenSpec.ofChange fnExactMeetingPointSpec)

/-- ITS FALSE NEIGHBOUR: 'it returns false'. Refute it at one input. -/
def fnExactMeetingPointWrong : ChangeSpec := { name := "fnExactMeetingPoint", fn := fun _ => fun
  | [d1, d2, d3] => { results := [.lit (.bool false)], args := [d1, d2, d3] }
  | _ => none }
def FnExactMeetingPointWrongFalsely : Prop := fnExactMeetingPointRow.holds Try.pinned (OpenSpec.ofChange fnExactMeetingPointWrong)

/-- 'laws.FnWired': WHATEVER THE INPUT: true; the input reads as it did. -/
def fnWiredSpec : ChangeSpec := { name := "fnWired", fn := fun _ => fun
  | [d] => { results := [.lit (.bool true)], args := [d] }
  | _ => none }
def fnWiredRow : OpenClaim := { program := "ytdkibmdpipoioaa", sum := "d1078fdc87465cd7fecd2f458fab9b5cc4f57104e11a5948d895b8facbe28860", func := "loop.example/g01049/laws.FnWired", spec := "fnWired", apart := false }
def FnWiredSaid : Prop := fnWiredRow.holds Try.pinned (OpenSpec.ofChange fnWiredSpec)

/-- ITS FALSE NEIGHBOUR: 'it returns false'. Refute it at one input. -/
def fnWiredWrong : ChangeSpec := { name := "fnWired", fn := fun _ => fun
  | [d] => { results := [.lit (.bool false)], args := [d] }
  | _ => none }
def FnWiredWrongFalsely : Prop := fnWiredRow.holds Try.pinned (OpenSpec.ofChange fnWiredWrong)

/-- 'laws.FnExactAddIgniter': WHATEVER THE INPUT: true; the input reads as it did. -/
def fnExactAddIgniterSpec : ChangeSpec := { name := "fnExactAddIgniter", fn := fun _ => fun
  | [d1, d2] => { results := [.lit (.bool true)], args := [d1, d2] }
  | _ => none }
def fnExactAddIgniterRow : OpenClaim := { program := "ytdkibmdpipoioaa", sum := "d1078fdc87465cd7fecd2f458fab9b5cc4f57104e11a5948d895b8facbe28860", func := "loop.example/g01049/laws.FnExactAddIgniter", spec := "fnExactAddIgniter", apart := false }
def FnExactAddIgniterSaid : Prop := fnExactAddIgniterRow.holds Try.pinned (OpenSpec.ofChange fnExactAddIgniterSpec)

/-- ITS FALSE NEIGHBOUR: 'it returns false'. Refute it at one input. -/
def fnExactAddIgniterWrong : ChangeSpec := { name := "fnExactAddIgniter", fn := fun _ => fun
  | [d1, d2] => { results := [.lit (.bool false)], args := [d1, d2] }
  | _ => none }
def FnExactAddIgniterWrongFalsely : Prop := fnExactAddIgniterRow.holds Try.pinned (OpenSpec.ofChange fnExactAddIgniterWrong)

/-- 'laws.FnExactPiecesFor': WHATEVER THE INPUT: true; the input reads as it did. -/
def fnExactPiecesForSpec : ChangeSpec := { name := "fnExactPiecesFor", fn := fun _ => fun
  | [d1, d2] => { results := [.lit (.bool true)], args := [d1, d2] }
  | _ => none }
def fnExactPiecesForRow : OpenClaim := { program := "ytdkibmdpipoioaa", sum := "d1078fdc87465cd7fecd2f458fab9b5cc4f57104e11a5948d895b8facbe28860", func := "loop.example/g01049/laws.FnExactPiecesFor", spec := "fnExactPiecesFor", apart := false }
def FnExactPiecesForSaid : Prop := fnExactPiecesForRow.holds Try.pinned (OpenSpec.ofChange fnExactPiecesForSpec)

/-- ITS FALSE NEIGHBOUR: 'it returns false'. Refute it at one input. -/
def fnExactPiecesForWrong : ChangeSpec := { name := "fnExactPiecesFor", fn := fun _ => fun
  | [d1, d2] => { results := [.lit (.bool false)], args := [d1, d2] }
  | _ => none }
def FnExactPiecesForWrongFalsely : Prop := fnExactPiecesForRow.holds Try.pinned (OpenSpec.ofChange fnExactPiecesForWrong)

/-- 'laws.FnExactDistanceFor': WHATEVER THE INPUT: true; the input reads as it did. -/
def fnExactDistanceForSpec : ChangeSpec := { name := "fnExactDistanceFor", fn := fun _ => fun
  | [d1, d2, d3] => { results := [.lit (.bool true)], args := [d1, d2, d3] }
  | _ => none }
def fnExactDistanceForRow : OpenClaim := { program := "ytdkibmdpipoioaa", sum := "d1078fdc87465cd7fecd2f458fab9b5cc4f57104e11a5948d895b8facbe28860", func := "loop.example/g01049/laws.FnExactDistanceFor", spec := "fnExactDistanceFor", apart := false }
def FnExactDistanceForSaid : Prop := fnExactDistanceForRow.holds Try.pinned (OpenSpec.ofChange fnExactDistanceForSpec)

/-- ITS FALSE NEIGHBOUR: 'it returns false'. Refute it at one input. -/
def fnExactDistanceForWrong : ChangeSpec := { name := "fnExactDistanceFor", fn := fun _ => fun
  | [d1, d2, d3] => { results := [.lit (.bool false)], args := [d1, d2, d3] }
  | _ => none }
def FnExactDistanceForWrongFalsely : Prop := fnExactDistanceForRow.holds Try.pinned (OpenSpec.ofChange fnExactDistanceForWrong)

/-- 'laws.FnExactMixDelays': WHATEVER THE INPUT: true; the input reads as it did. -/
def fnExactMixDelaysSpec : ChangeSpec := { name := "fnExactMixDelays", fn := fun _ => fun
  | [d1, d2] => { results := [.lit (.bool true)], args := [d1, d2] }
  | _ => none }
def fnExactMixDelaysRow : OpenClaim := { program := "ytdkibmdpipoioaa", sum := "d1078fdc87465cd7fecd2f458fab9b5cc4f57104e11a5948d895b8facbe28860", func := "loop.example/g01049/laws.FnExactMixDelays", spec := "fnExactMixDelays", apart := false }
def FnExactMixDelaysSaid : Prop := fnExactMixDelaysRow.holds Try.pinned (OpenSpec.ofChange fnExactMixDelaysSpec)

/-- ITS FALSE NEIGHBOUR: 'it returns false'. Refute it at one input. -/
def fnExactMixDelaysWrong : ChangeSpec := { name := "fnExactMixDelays", fn := fun _ => fun
  | [d1, d2] => { results := [.lit (.bool false)], args := [d1, d2] }
  | _ => none }
def FnExactMixDelaysWrongFalsely : Prop := fnExactMixDelaysRow.holds Try.pinned (OpenSpec.ofChange fnExactMixDelaysWrong)

/- THE SECOND FORM. 'bulk': how many values and letters a reading holds, each counted each time it is reached (what is shared counts as often as it is met; a slice's spare places count too). A statement '..UptoSaid' is the law's where the arguments, and the package variables that the reading takes, are together of bulk at most 1048576: NARROWER than '..Said'. Prove '..Said' where nothing that the law and all that it calls make is longer than what came in: it says more and counts as full. Else prove '..UptoSaid'. A law counts once. -/
mutual
def uptoBulk {H : Type} : DataW H → Nat
  | .lit (.string bytes) => bytes.length + 1
  | .lit _ => 1
  | .nil => 1
  | .ptr d => uptoBulk d + 1
  | .slice elems spare => uptoBulkAll elems + uptoBulkAll spare + 1
  | .agg parts => uptoBulkAll parts + 1
  | .iface _ d => uptoBulk d + 1
  | .map entries => uptoBulkEntries entries + 1
  | .held _ => 1
def uptoBulkAll {H : Type} : List (DataW H) → Nat
  | [] => 0
  | d :: r => uptoBulk d + uptoBulkAll r
def uptoBulkEntries {H : Type} : List (Lit × DataW H) → Nat
  | [] => 0
  | x :: r => uptoBulkEntry x + uptoBulkEntries r
def uptoBulkEntry {H : Type} : Lit × DataW H → Nat
  | (.string bytes, d) => bytes.length + uptoBulk d + 1
  | (_, d) => uptoBulk d + 1
 end
def uptoSmall : (H : Type) → List (DataW H) → Bool := fun _ ds => decide (uptoBulkAll ds ≤ 1048576)
def OpenSpec.upto (s : _root_.Go.ChangeSpec) : _root_.Go.OpenSpec := { _root_.Go.OpenSpec.ofChange s with cond := some uptoSmall }

/-- 'laws.FnExactIsSite', WHERE WHAT IT READS IS OF BULK AT MOST 1048576: true; the input reads as it did. -/
def fnExactIsSiteUptoRow : OpenClaim := { program := "ytdkibmdpipoioaa", sum := "d1078fdc87465cd7fecd2f458fab9b5cc4f57104e11a5948d895b8facbe28860", func := "loop.example/g01049/laws.FnExactIsSite", spec := "fnExactIsSite", apart := false, narrowed := true }
def FnExactIsSiteUptoSaid : Prop := fnExactIsSiteUptoRow.holds Try.pinned (OpenSpec.upto fnExactIsSiteSpec)

/-- 'laws.FnExactExpectedOf', WHERE WHAT IT READS IS OF BULK AT MOST 1048576: true; the input reads as it did. -/
def fnExactExpectedOfUptoRow : OpenClaim := { program := "ytdkibmdpipoioaa", sum := "d1078fdc87465cd7fecd2f458fab9b5cc4f57104e11a5948d895b8facbe28860", func := "loop.example/g01049/laws.FnExactExpectedOf", spec := "fnExactExpectedOf", apart := false, narrowed := true }
def FnExactExpectedOfUptoSaid : Prop := fnExactExpectedOfUptoRow.holds Try.pinned (OpenSpec.upto fnExactExpectedOfSpec)

/-- 'laws.FnExactCurrentOf', WHERE WHAT IT READS IS OF BULK AT MOST 1048576: true; the input reads as it did. -/
def fnExactCurrentOfUptoRow : OpenClaim := { program := "ytdkibmdpipoioaa", sum := "d1078fdc87465cd7fecd2f458fab9b5cc4f57104e11a5948d895b8facbe28860", func := "loop.example/g01049/laws.FnExactCurrentOf", spec := "fnExactCurrentOf", apart := false, narrowed := true }
def FnExactCurrentOfUptoSaid : Prop := fnExactCurrentOfUptoRow.holds Try.pinned (OpenSpec.upto fnExactCurrentOfSpec)

/-- 'laws.FnExactAddModule', WHERE WHAT IT READS IS OF BULK AT MOST 1048576: true; the input reads as it did. -/
def fnExactAddModuleUptoRow : OpenClaim := { program := "ytdkibmdpipoioaa", sum := "d1078fdc87465cd7fecd2f458fab9b5cc4f57104e11a5948d895b8facbe28860", func := "loop.example/g01049/laws.FnExactAddModule", spec := "fnExactAddModule", apart := false, narrowed := true }
def FnExactAddModuleUptoSaid : Prop := fnExactAddModuleUptoRow.holds Try.pinned (OpenSpec.upto fnExactAddModuleSpec)

/-- 'laws.FnExactDepthOf', WHERE WHAT IT READS IS OF BULK AT MOST 1048576: true; the input reads as it did. -/
def fnExactDepthOfUptoRow : OpenClaim := { program := "ytdkibmdpipoioaa", sum := "d1078fdc87465cd7fecd2f458fab9b5cc4f57104e11a5948d895b8facbe28860", func := "loop.example/g01049/laws.FnExactDepthOf", spec := "fnExactDepthOf", apart := false, narrowed := true }
def FnExactDepthOfUptoSaid : Prop := fnExactDepthOfUptoRow.holds Try.pinned (OpenSpec.upto fnExactDepthOfSpec)

/-- 'laws.FnExactVoltsFor', WHERE WHAT IT READS IS OF BULK AT MOST 1048576: true; the input reads as it did. -/
def fnExactVoltsForUptoRow : OpenClaim := { program := "ytdkibmdpipoioaa", sum := "d1078fdc87465cd7fecd2f458fab9b5cc4f57104e11a5948d895b8facbe28860", func := "loop.example/g01049/laws.FnExactVoltsFor", spec := "fnExactVoltsFor", apart := false, narrowed := true }
def FnExactVoltsForUptoSaid : Prop := fnExactVoltsForUptoRow.holds Try.pinned (OpenSpec.upto fnExactVoltsForSpec)

/-- 'laws.FnExactMeetingPoint', WHERE WHAT IT READS IS OF BULK AT MOST 1048576: true; the input reads as it did. -/
def fnExactMeetingPointUptoRow : OpenClaim := { program := "ytdkibmdpipoioaa", sum := "d1078fdc87465cd7fecd2f458fab9b5cc4f57104e11a5948d895b8facbe28860", func := "loop.example/g01049/laws.FnExactMeetingPoint", spec := "fnExactMeetingPoint", apart := false, narrowed := true }
def FnExactMeetingPointUptoSaid : Prop := fnExactMeetingPointUptoRow.holds Try.pinned (OpenSpec.upto fnExactMeetingPointSpec)

/-- 'laws.FnWired', WHERE WHAT IT READS IS OF BULK AT MOST 1048576: true; the input reads as it did. -/
def fnWiredUptoRow : OpenClaim := { program := "ytdkibmdpipoioaa", sum := "d1078fdc87465cd7fecd2f458fab9b5cc4f57104e11a5948d895b8facbe28860", func := "loop.example/g01049/laws.FnWired", spec := "fnWired", apart := false, narrowed := true }
def FnWiredUptoSaid : Prop := fnWiredUptoRow.holds Try.pinned (OpenSpec.upto fnWiredSpec)

/-- 'laws.FnExactAddIgniter', WHERE WHAT IT READS IS OF BULK AT MOST 1048576: true; the input reads as it did. -/
def fnExactAddIgniterUptoRow : OpenClaim := { program := "ytdkibmdpipoioaa", sum := "d1078fdc87465cd7fecd2f458fab9b5cc4f57104e11a5948d895b8facbe28860", func := "loop.example/g01049/laws.FnExactAddIgniter", spec := "fnExactAddIgniter", apart := false, narrowed := true }
def FnExactAddIgniterUptoSaid : Prop := fnExactAddIgniterUptoRow.holds Try.pinned (OpenSpec.upto fnExactAddIgniterSpec)

/-- 'laws.FnExactPiecesFor', WHERE WHAT IT READS IS OF BULK AT MOST 1048576: true; the input reads as it did. -/
def fnExactPiecesForUptoRow : OpenClaim := { program := "ytdkibmdpipoioaa", sum := "d1078fdc87465cd7fecd2f458fab9b5cc4f57104e11a5948d895b8facbe28860", func := "loop.example/g01049/laws.FnExactPiecesFor", spec := "fnExactPiecesFor", apart := false, narrowed := true }
def FnExactPiecesForUptoSaid : Prop := fnExactPiecesForUptoRow.holds Try.pinned (OpenSpec.upto fnExactPiecesForSpec)

/-- 'laws.FnExactDistanceFor', WHERE WHAT IT READS IS OF BULK AT MOST 1048576: true; the input reads as it did. -/
def fnExactDistanceForUptoRow : OpenClaim := { program := "ytdkibmdpipoioaa", sum := "d1078fdc87465cd7fecd2f458fab9b5cc4f57104e11a5948d895b8facbe28860", func := "loop.example/g01049/laws.FnExactDistanceFor", spec := "fnExactDistanceFor", apart := false, narrowed := true }
def FnExactDistanceForUptoSaid : Prop := fnExactDistanceForUptoRow.holds Try.pinned (OpenSpec.upto fnExactDistanceForSpec)

/-- 'laws.FnExactMixDelays', WHERE WHAT IT READS IS OF BULK AT MOST 1048576: true; the input reads as it did. -/
def fnExactMixDelaysUptoRow : OpenClaim := { program := "ytdkibmdpipoioaa", sum := "d1078fdc87465cd7fecd2f458fab9b5cc4f57104e11a5948d895b8facbe28860", func := "loop.example/g01049/laws.FnExactMixDelays", spec := "fnExactMixDelays", apart := false, narrowed := true }
def FnExactMixDelaysUptoSaid : Prop := fnExactMixDelaysUptoRow.holds Try.pinned (OpenSpec.upto fnExactMixDelaysSpec)

end Rows
end Go.Proofs.Ytdkibmdpipoioaa
