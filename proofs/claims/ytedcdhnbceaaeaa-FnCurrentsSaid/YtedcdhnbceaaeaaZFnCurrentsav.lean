/- PFnCurrentsx0 of the law FnCurrents: taken over, declaration by declaration, as far as the law leans on it (the words and the printed functions are the kit's own print). No condition but what each says. -/
import Derived.Test.YtedcdhnbceaaeaaProg
import Derived.Below
import Derived.Deep.Draws
import Derived.Deep.AppendLies
import Derived.Maps.AppendAt
import Derived.OwnWalk
import Derived.Laws.BytesArg
import Derived.Laws.MakeOwn
import Derived.Laws.OwnMore
import Derived.Deep.OwnRows
import Derived.Tactics
import Derived.Lib.ConvBytes
import Derived.Laws.Slices
import Derived.WalkKit
import Derived.KernelRfl
import Derived.RowKit3
import Derived.Deep.LoopGhost
import Derived.Deep.QuietTactic
import Derived.BigQuiet
import Derived.WideLaws
import Derived.Deep.DeepCutAuto
import Derived.Deep.CutBlock
import Derived.Deep.RegionHeld3
import Derived.Laws.Rows
import Derived.Lib.AppendStr
import Derived.ArgAppend
import Derived.Laws.IdiomCopy
import Derived.OrdersHeld
import Derived.Laws.BitsLemmas
import Derived.RowKit
import Derived.Test.YtedcdhnbceaaeaaZFnCurrentsaa
import Derived.Test.YtedcdhnbceaaeaaZFnCurrentsab
import Derived.Test.YtedcdhnbceaaeaaZFnCurrentsac
import Derived.Test.YtedcdhnbceaaeaaZFnCurrentsad
import Derived.Test.YtedcdhnbceaaeaaZFnCurrentsae
import Derived.Test.YtedcdhnbceaaeaaZFnCurrentsaf
import Derived.Test.YtedcdhnbceaaeaaZFnCurrentsag
import Derived.Test.YtedcdhnbceaaeaaZFnCurrentsah
import Derived.Test.YtedcdhnbceaaeaaZFnCurrentsai
import Derived.Test.YtedcdhnbceaaeaaZFnCurrentsaj
import Derived.Test.YtedcdhnbceaaeaaZFnCurrentsak
import Derived.Test.YtedcdhnbceaaeaaZFnCurrentsal
import Derived.Test.YtedcdhnbceaaeaaZFnCurrentsam
import Derived.Test.YtedcdhnbceaaeaaZFnCurrentsan
import Derived.Test.YtedcdhnbceaaeaaZFnCurrentsao
import Derived.Test.YtedcdhnbceaaeaaZFnCurrentsap
import Derived.Test.YtedcdhnbceaaeaaZFnCurrentsaq
import Derived.Test.YtedcdhnbceaaeaaZFnCurrentsar
import Derived.Test.YtedcdhnbceaaeaaZFnCurrentsas
import Derived.Test.YtedcdhnbceaaeaaZFnCurrentsat
import Derived.Test.YtedcdhnbceaaeaaZFnCurrentsau
namespace Go.Proofs.Ytedcdhnbceaaeaa.PFnCurrents
open Go.RowKit Go.Proofs.YtedcdhnbceaaeaaW.PrintWords Go.Proofs.YtedcdhnbceaaeaaW.PrintLast Go.Proofs.YtedcdhnbceaaeaaW.PrintMore
attribute [local go_sem] max2_int min2_int max_two min_two max_three min_three max_four min_four   -- for this text's walks alone
set_option linter.unusedVariables false
set_option linter.unusedSimpArgs false
def errW : Option Int → Value
  | none => .nilIface
  | some c => .iface 0 (.int .i64 c)
theorem errW_none : errW none = .nilIface := rfl
theorem errW_some (c : Int) : errW (some c) = .iface 0 (.int .i64 c) := rfl
theorem info2 : (Try.prog.info? 2).map (fun i => (i.zero, i.size, i.bytes)) = some (some (.int .i64 0), 1, 8) := by kernel_rfl
end Go.Proofs.Ytedcdhnbceaaeaa.PFnCurrents
