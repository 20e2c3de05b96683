-- PRINTED BY print.sh 35421559b90ae4d0a3588c463048766b98c2df88dd9212a6774a882060cdf62d: not written by this session
import Derived.Test.YtdkibmdpipoioaaProg
import Derived.Below
import Derived.Deep.Draws
import Derived.Deep.AppendLies
import Derived.Maps.AppendAt
import Derived.OwnWalk
import Derived.Laws.BytesArg
import Derived.Laws.MakeOwn
import Derived.Laws.OwnMore
import Derived.Deep.OwnRows
import Derived.Tactics
import Derived.Lib.ConvBytes
import Derived.Laws.Slices
import Derived.WalkKit
import Derived.KernelRfl
import Derived.RowKit3
import Derived.Deep.LoopGhost
import Derived.Deep.QuietTactic
import Derived.BigQuiet
import Derived.WideLaws
import Derived.Deep.DeepCutAuto
import Derived.Deep.CutBlock
import Derived.Deep.RegionHeld3
import Derived.Laws.Rows
import Derived.Lib.AppendStr
import Derived.ArgAppend
import Derived.Laws.IdiomCopy
import Derived.OrdersHeld
import Derived.Laws.BitsLemmas
import Derived.RowKit
import Derived.Test.YtdkibmdpipoioaaWWords
import Derived.Test.YtdkibmdpipoioaaWLast
import Derived.Test.YtdkibmdpipoioaaWTab
import Derived.Test.YtdkibmdpipoioaaWFour
import Derived.Test.YtdkibmdpipoioaaWQPut
import Derived.Test.YtdkibmdpipoioaaWApart
import Derived.Test.YtdkibmdpipoioaaWArr
import Derived.Test.YtdkibmdpipoioaaWZeros
import Derived.Test.YtdkibmdpipoioaaWFoot
import Derived.Test.YtdkibmdpipoioaaWKept
import Derived.Test.YtdkibmdpipoioaaWShare
import Derived.Test.YtdkibmdpipoioaaWN
import Derived.Test.YtdkibmdpipoioaaWFootNe
import Derived.Test.YtdkibmdpipoioaaWAt
import Derived.Test.YtdkibmdpipoioaaWEqStruct
import Derived.Test.YtdkibmdpipoioaaWRepsOne
import Derived.Test.YtdkibmdpipoioaaWInv
import Derived.Test.YtdkibmdpipoioaaWInvWords
import Derived.Test.YtdkibmdpipoioaaWGuard
import Derived.Test.YtdkibmdpipoioaaWNEv
import Derived.Test.YtdkibmdpipoioaaWMore
namespace Go.Proofs.Ytdkibmdpipoioaa.PFnExactAddIgniter
open Go.RowKit Go.Proofs.YtdkibmdpipoioaaW.PrintWords Go.Proofs.YtdkibmdpipoioaaW.PrintLast Go.Proofs.YtdkibmdpipoioaaW.PrintMore
attribute [local go_sem] max2_int min2_int max_two min_two max_three min_three max_four min_four   -- for this text's walks alone
set_option linter.unusedVariables false
set_option linter.unusedSimpArgs false



def errW : Option Int → Value
  | none => .nilIface
  | some c => .iface 0 (.int .i64 c)
theorem errW_none : errW none = .nilIface := rfl
theorem errW_some (c : Int) : errW (some c) = .iface 0 (.int .i64 c) := rfl

theorem info2 : (Try.prog.info? 2).map (fun i => (i.zero, i.size, i.bytes)) = some (some (.int .i64 0), 1, 8) := by kernel_rfl
-- the values' own types

end Go.Proofs.Ytdkibmdpipoioaa.PFnExactAddIgniter
