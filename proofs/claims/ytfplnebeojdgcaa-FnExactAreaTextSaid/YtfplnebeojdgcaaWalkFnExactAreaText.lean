/- The walk of the law FnExactAreaText: the call returns true and keeps what was there. No condition but what the row's reading gives. -/
import Derived.Test.YtfplnebeojdgcaaPFnExactAreaTextx0
import Derived.Test.YtfplnebeojdgcaaQFnExactAreaTexta
import Derived.Test.YtfplnebeojdgcaaQFnExactAreaTextb
import Derived.Test.YtfplnebeojdgcaaQFnExactAreaTextc
import Derived.Test.YtfplnebeojdgcaaOpen
import Derived.Test.YtfplnebeojdgcaaPureFnExactAreaText
namespace Go.Proofs.Ytfplnebeojdgcaa.WalkFnExactAreaText
open Go.RowKit Go.Proofs.YtfplnebeojdgcaaW.PrintWords Go.Proofs.Ytfplnebeojdgcaa.Opening Go.Proofs.Ytfplnebeojdgcaa.PFnExactAreaText
set_option linter.unusedVariables false
theorem walk (a0_0 : Int) (a0_1 : Int) (a0_2 : Int) (a0_3 : Int) (a0_4 : Int) (w : World) (q0 : (I64 a0_0 ∧ I64 a0_1 ∧ I64 a0_2 ∧ I64 a0_3 ∧ I64 a0_4)) :
    Calls Try.prog 6 #[.agg #[.int .i64 a0_0, .int .i64 a0_1, .int .i64 a0_2, .int .i64 a0_3, .int .i64 a0_4]] w fun e w' => e = .returned (.bool true) ∧ Below w.heap.size w w' := by
  obtain ⟨k, h⟩ := Pure.FnExactAreaText a0_0 a0_1 a0_2 a0_3 a0_4 q0
  refine (laws_FnExactAreaText.calls k a0_0 a0_1 a0_2 a0_3 a0_4 true w h).mono ?_
  rintro e w' ⟨rfl, hd⟩
  exact ⟨rfl, hd⟩
end Go.Proofs.Ytfplnebeojdgcaa.WalkFnExactAreaText
