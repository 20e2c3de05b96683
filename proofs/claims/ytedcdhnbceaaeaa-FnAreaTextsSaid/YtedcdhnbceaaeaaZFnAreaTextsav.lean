/- PFnAreaTextsx0 of the law FnAreaTexts: taken over, declaration by declaration, as far as the law leans on it (the words and the printed functions are the kit's own print). No condition but what each says. -/
import Derived.Test.YtedcdhnbceaaeaaProg
import Derived.Below
import Derived.Deep.Draws
import Derived.Deep.AppendLies
import Derived.Maps.AppendAt
import Derived.OwnWalk
import Derived.Laws.BytesArg
import Derived.Laws.MakeOwn
import Derived.Laws.OwnMore
import Derived.Deep.OwnRows
import Derived.Tactics
import Derived.Lib.ConvBytes
import Derived.Laws.Slices
import Derived.WalkKit
import Derived.KernelRfl
import Derived.RowKit3
import Derived.Deep.LoopGhost
import Derived.Deep.QuietTactic
import Derived.BigQuiet
import Derived.WideLaws
import Derived.Deep.DeepCutAuto
import Derived.Deep.CutBlock
import Derived.Deep.RegionHeld3
import Derived.Laws.Rows
import Derived.Lib.AppendStr
import Derived.ArgAppend
import Derived.Laws.IdiomCopy
import Derived.OrdersHeld
import Derived.Laws.BitsLemmas
import Derived.RowKit
import Derived.Test.YtedcdhnbceaaeaaZFnAreaTextsaa
import Derived.Test.YtedcdhnbceaaeaaZFnAreaTextsab
import Derived.Test.YtedcdhnbceaaeaaZFnAreaTextsac
import Derived.Test.YtedcdhnbceaaeaaZFnAreaTextsad
import Derived.Test.YtedcdhnbceaaeaaZFnAreaTextsae
import Derived.Test.YtedcdhnbceaaeaaZFnAreaTextsaf
import Derived.Test.YtedcdhnbceaaeaaZFnAreaTextsag
import Derived.Test.YtedcdhnbceaaeaaZFnAreaTextsah
import Derived.Test.YtedcdhnbceaaeaaZFnAreaTextsai
import Derived.Test.YtedcdhnbceaaeaaZFnAreaTextsaj
import Derived.Test.YtedcdhnbceaaeaaZFnAreaTextsak
import Derived.Test.YtedcdhnbceaaeaaZFnAreaTextsal
import Derived.Test.YtedcdhnbceaaeaaZFnAreaTextsam
import Derived.Test.YtedcdhnbceaaeaaZFnAreaTextsan
import Derived.Test.YtedcdhnbceaaeaaZFnAreaTextsao
import Derived.Test.YtedcdhnbceaaeaaZFnAreaTextsap
import Derived.Test.YtedcdhnbceaaeaaZFnAreaTextsaq
import Derived.Test.YtedcdhnbceaaeaaZFnAreaTextsar
import Derived.Test.YtedcdhnbceaaeaaZFnAreaTextsas
import Derived.Test.YtedcdhnbceaaeaaZFnAreaTextsat
import Derived.Test.YtedcdhnbceaaeaaZFnAreaTextsau
namespace Go.Proofs.Ytedcdhnbceaaeaa.PFnAreaTexts
open Go.RowKit Go.Proofs.YtedcdhnbceaaeaaW.PrintWords Go.Proofs.YtedcdhnbceaaeaaW.PrintLast Go.Proofs.YtedcdhnbceaaeaaW.PrintMore
attribute [local go_sem] max2_int min2_int max_two min_two max_three min_three max_four min_four   -- for this text's walks alone
set_option linter.unusedVariables false
set_option linter.unusedSimpArgs false
def errW : Option Int → Value
  | none => .nilIface
  | some c => .iface 0 (.int .i64 c)
theorem errW_none : errW none = .nilIface := rfl
theorem errW_some (c : Int) : errW (some c) = .iface 0 (.int .i64 c) := rfl
theorem info2 : (Try.prog.info? 2).map (fun i => (i.zero, i.size, i.bytes)) = some (some (.int .i64 0), 1, 8) := by kernel_rfl
theorem info9 : (Try.prog.info? 9).map (fun i => (i.zero, i.size, i.bytes)) = some (some (.string ⟨#[]⟩), 1, 16) := by kernel_rfl
end Go.Proofs.Ytedcdhnbceaaeaa.PFnAreaTexts
