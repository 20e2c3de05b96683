/- PFnExactReadAreax0 of the law FnExactReadArea: taken over, declaration by declaration, as far as the law leans on it (the words and the printed functions are the kit's own print). No condition but what each says. -/
import Derived.Test.YtedcdhnbceaaeaaProg
import Derived.Below
import Derived.Deep.Draws
import Derived.Deep.AppendLies
import Derived.Maps.AppendAt
import Derived.OwnWalk
import Derived.Laws.BytesArg
import Derived.Laws.MakeOwn
import Derived.Laws.OwnMore
import Derived.Deep.OwnRows
import Derived.Tactics
import Derived.Lib.ConvBytes
import Derived.Laws.Slices
import Derived.WalkKit
import Derived.KernelRfl
import Derived.RowKit3
import Derived.Deep.LoopGhost
import Derived.Deep.QuietTactic
import Derived.BigQuiet
import Derived.WideLaws
import Derived.Deep.DeepCutAuto
import Derived.Deep.CutBlock
import Derived.Deep.RegionHeld3
import Derived.Laws.Rows
import Derived.Lib.AppendStr
import Derived.ArgAppend
import Derived.Laws.IdiomCopy
import Derived.OrdersHeld
import Derived.Laws.BitsLemmas
import Derived.RowKit
import Derived.Test.YtedcdhnbceaaeaaZFnExactReadAreaaa
import Derived.Test.YtedcdhnbceaaeaaZFnExactReadAreaab
import Derived.Test.YtedcdhnbceaaeaaZFnExactReadAreaac
import Derived.Test.YtedcdhnbceaaeaaZFnExactReadAreaad
import Derived.Test.YtedcdhnbceaaeaaZFnExactReadAreaae
import Derived.Test.YtedcdhnbceaaeaaZFnExactReadAreaaf
import Derived.Test.YtedcdhnbceaaeaaZFnExactReadAreaag
import Derived.Test.YtedcdhnbceaaeaaZFnExactReadAreaah
import Derived.Test.YtedcdhnbceaaeaaZFnExactReadAreaai
import Derived.Test.YtedcdhnbceaaeaaZFnExactReadAreaaj
import Derived.Test.YtedcdhnbceaaeaaZFnExactReadAreaak
import Derived.Test.YtedcdhnbceaaeaaZFnExactReadAreaal
import Derived.Test.YtedcdhnbceaaeaaZFnExactReadAreaam
import Derived.Test.YtedcdhnbceaaeaaZFnExactReadAreaan
import Derived.Test.YtedcdhnbceaaeaaZFnExactReadAreaao
import Derived.Test.YtedcdhnbceaaeaaZFnExactReadAreaap
import Derived.Test.YtedcdhnbceaaeaaZFnExactReadAreaaq
import Derived.Test.YtedcdhnbceaaeaaZFnExactReadAreaar
import Derived.Test.YtedcdhnbceaaeaaZFnExactReadAreaas
import Derived.Test.YtedcdhnbceaaeaaZFnExactReadAreaat
import Derived.Test.YtedcdhnbceaaeaaZFnExactReadAreaau
namespace Go.Proofs.Ytedcdhnbceaaeaa.PFnExactReadArea
open Go.RowKit Go.Proofs.YtedcdhnbceaaeaaW.PrintWords Go.Proofs.YtedcdhnbceaaeaaW.PrintLast Go.Proofs.YtedcdhnbceaaeaaW.PrintMore
attribute [local go_sem] max2_int min2_int max_two min_two max_three min_three max_four min_four   -- for this text's walks alone
set_option linter.unusedVariables false
set_option linter.unusedSimpArgs false
def errW : Option Int → Value
  | none => .nilIface
  | some c => .iface 0 (.int .i64 c)
theorem errW_none : errW none = .nilIface := rfl
theorem errW_some (c : Int) : errW (some c) = .iface 0 (.int .i64 c) := rfl
theorem info2 : (Try.prog.info? 2).map (fun i => (i.zero, i.size, i.bytes)) = some (some (.int .i64 0), 1, 8) := by kernel_rfl
theorem info9 : (Try.prog.info? 9).map (fun i => (i.zero, i.size, i.bytes)) = some (some (.string ⟨#[]⟩), 1, 16) := by kernel_rfl
end Go.Proofs.Ytedcdhnbceaaeaa.PFnExactReadArea
