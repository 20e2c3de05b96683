/- The walk of the law FnExactSquareTo: the call returns true and keeps what was there. No condition but what the row's reading gives. -/
import Derived.Test.YtfplnebeojdgcaaPFnExactSquareTox2
import Derived.Test.YtfplnebeojdgcaaOpen
import Derived.Test.YtfplnebeojdgcaaPureFnExactSquareTo
namespace Go.Proofs.Ytfplnebeojdgcaa.WalkFnExactSquareTo
open Go.RowKit Go.Proofs.YtfplnebeojdgcaaW.PrintWords Go.Proofs.Ytfplnebeojdgcaa.Opening Go.Proofs.Ytfplnebeojdgcaa.PFnExactSquareTo
set_option linter.unusedVariables false
theorem walk (a0_0 : Int) (a0_1 : Int) (a0_2 : Int) (a0_3 : Int) (a0_4 : Int) (a1 : Int) (a2 : Int) (w : World) (q0 : (I64 a0_0 ∧ I64 a0_1 ∧ I64 a0_2 ∧ I64 a0_3 ∧ I64 a0_4)) (q1 : I64 a1) (q2 : I64 a2) :
    Calls Try.prog 5 #[.agg #[.int .i64 a0_0, .int .i64 a0_1, .int .i64 a0_2, .int .i64 a0_3, .int .i64 a0_4], .int .i64 a1, .int .i64 a2] w fun e w' => e = .returned (.bool true) ∧ Below w.heap.size w w' := by
  obtain ⟨k, h⟩ := Pure.FnExactSquareTo a0_0 a0_1 a0_2 a0_3 a0_4 a1 a2 q0 q1 q2
  refine (laws_FnExactSquareTo.calls k a0_0 a0_1 a0_2 a0_3 a0_4 a1 a2 true w h).mono ?_
  rintro e w' ⟨rfl, hd⟩
  exact ⟨rfl, hd⟩
end Go.Proofs.Ytfplnebeojdgcaa.WalkFnExactSquareTo
