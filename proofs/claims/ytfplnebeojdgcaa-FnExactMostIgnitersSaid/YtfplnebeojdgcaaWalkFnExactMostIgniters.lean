/- The walk of the law FnExactMostIgniters: the call returns true and keeps what was there. No condition but what the row's reading gives. -/
import Derived.Test.YtfplnebeojdgcaaPFnExactMostIgnitersx1
import Derived.Test.YtfplnebeojdgcaaOpen
import Derived.Test.YtfplnebeojdgcaaPureFnExactMostIgniters
namespace Go.Proofs.Ytfplnebeojdgcaa.WalkFnExactMostIgniters
open Go.RowKit Go.Proofs.YtfplnebeojdgcaaW.PrintWords Go.Proofs.Ytfplnebeojdgcaa.Opening Go.Proofs.Ytfplnebeojdgcaa.PFnExactMostIgniters
set_option linter.unusedVariables false
theorem walk (a0 : Int) (a1 : Int) (a2 : Int) (a3 : Int) (w : World) (q0 : I64 a0) (q1 : I64 a1) (q2 : I64 a2) (q3 : I64 a3) :
    Calls Try.prog 4 #[.int .i64 a0, .int .i64 a1, .int .i64 a2, .int .i64 a3] w fun e w' => e = .returned (.bool true) ∧ Below w.heap.size w w' := by
  obtain ⟨k, h⟩ := Pure.FnExactMostIgniters a0 a1 a2 a3 q0 q1 q2 q3
  refine (laws_FnExactMostIgniters.calls k a0 a1 a2 a3 true w h).mono ?_
  rintro e w' ⟨rfl, hd⟩
  exact ⟨rfl, hd.below⟩
end Go.Proofs.Ytfplnebeojdgcaa.WalkFnExactMostIgniters
