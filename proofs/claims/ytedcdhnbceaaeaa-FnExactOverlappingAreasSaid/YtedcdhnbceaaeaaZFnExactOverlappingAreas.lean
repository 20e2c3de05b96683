/- The law FnExactOverlappingAreas: for every input the call returns true, and its arguments read afterwards as before; no condition. -/
import Derived.Test.YtedcdhnbceaaeaaRows
import Derived.Test.YtedcdhnbceaaeaaZFnExactOverlappingAreasbg
import Derived.Test.YtedcdhnbceaaeaaZFnExactOverlappingAreasba
import Derived.WalkKit
import Derived.ProofKit
import Derived.OpenShut
import Derived.ShutString
import Derived.ChangeOld
import Derived.Below
import Derived.SizedLaws
namespace Go.Proofs.Ytedcdhnbceaaeaa.fnExactOverlappingAreas
open Go.ChangeShapes Go.WideShapes Go.ChangeAt Go.RowKit Go.Proofs.YtedcdhnbceaaeaaW.PrintWords Go.Proofs.Ytedcdhnbceaaeaa.Opening Go.Proofs.Ytedcdhnbceaaeaa.PFnExactOverlappingAreas
open Go.ChangeMaps (open_string shut_string)
set_option linter.unusedVariables false
theorem own : ownKnob Try.prog.godebug = none := by kernel_rfl
theorem laidOut : laidOutB Try.prog = true := by kernel_rfl
theorem i64_of {n : Int} (h : (Lit.int .i64 n).wf = true) : I64 n := by
  simp only [Lit.wf, Bool.and_eq_true, decide_eq_true_eq] at h
  have h1 : IntKind.min .i64 = -9223372036854775808 := by decide
  have h2 : IntKind.max .i64 = 9223372036854775807 := by decide
  rw [h1, h2] at h
  exact h
set_option maxRecDepth 100000 in
theorem lifted (os : Os) (started : os.Started) (H : Type) (enc : TypeId × Value → H) :
    ReturnsInHanded {} Try.checked os 9 .any (Rows.fnExactOverlappingAreasSpec.pre6 enc Try.prog Try.f9 Rows.fnExactOverlappingAreasRow.domain false) (Rows.fnExactOverlappingAreasSpec.post enc Try.prog Try.f9 false true false false) := by
  refine returnsInHanded_of_change_sized (C := Try.checked) own started (by kernel_rfl) Try.func9
    (ChangeSpec.witness6 (enc := enc) (C := Try.checked) false ⟨#[], #[.slice none 0 0], []⟩ 8 (by kernel_rfl) (by kernel_rfl) (by kernel_rfl) (by kernel_rfl)) ?_
  intro W base args ds gs before hval0 hW hcnd hsz0 _
  have hsz : (DataW.weightsEach Try.prog (Try.f9.params.toList ++ Rows.fnExactOverlappingAreasSpec.plain.varTypes Try.prog) (ds ++ gs)).all (· ≤ reachBytes) = true := hsz0
  have hval : ∀ (j : Nat) t v, Try.f9.params[j]? = some t → args[j]? = some v → Value.okWide Try.prog W .any base t v := hval0
  have hW' := hW
  obtain ⟨p, q, hA0, hV, rfl, hfz, hnd⟩ := hW
  have hA : DataW.TrodAll enc Try.prog W 0 (fun _ => true) true Try.f9.params.toList args.toList ds p := hA0
  rw [Try.params9] at hA hval hsz
  obtain ⟨v0, vs0, d0, ds0, p0, q0, hargs, rfl, rfl, h0, r0⟩ := trodAll_cons hA
  obtain ⟨rfl, rfl, rfl⟩ := trodAll_nil r0
  obtain rfl : args = #[v0] := by cases args; simp_all
  obtain ⟨rfl, rfl⟩ := trodVars_none hV
  obtain ⟨A0, len0, c0, rfl⟩ := okWide_slice Try.underlying23 (hval 0 23 v0 rfl rfl)
  have k0_ := h0
  have lt0 : ∀ x ∈ p0, x.block < W.heap.size := by obtain ⟨m, hm⟩ := k0_; exact DataW.trod_lt m _ _ _ hm
  obtain ⟨l0, rfl, hc0, hr0, q0⟩ := arg_slice (opens_slice Try.underlying23 (opens_iso (opens_struct Try.underlying141 (opensF_cons (opens_i64 Try.underlying2) rfl (by kernel_rfl) (opensF_cons (opens_i64 Try.underlying2) rfl (by kernel_rfl) (opensF_cons (opens_i64 Try.underlying2) rfl (by kernel_rfl) (opensF_cons (opens_i64 Try.underlying2) rfl (by kernel_rfl) (opensF_one (opens_i64 Try.underlying2) rfl (by kernel_rfl)))))) (by kernel_rfl)) (fun x : S141 => (x.f0, x.f1, x.f2, x.f3, x.f4)) (fun a => ⟨a.1, a.2.1, a.2.2.1, a.2.2.2.1, a.2.2.2.2⟩) (fun _ => rfl)) (by kernel_rfl) (by kernel_rfl)) h0 hsz (j := 0) rfl rfl
  (try clear hA0 hval0 hsz0 hsz)
  refine (WalkFnExactOverlappingAreas.walk A0 c0 l0 W hc0 hr0 q0).mono fun e W' ⟨he, bel⟩ => ?_
  subst he
  exact ⟨_, rfl, _, _, _, [], _, [], hW', trodAll_mk1 (shut_bool Try.underlying4 _), (trodAll_cons_mk (Below.trod laidOut (by kernel_rfl) (of_decide_eq_true (by kernel_rfl)) k0_ bel lt0) trodAll_mk0), rfl, bel.frame _, fun h => by cases h⟩
theorem over : Rows.fnExactOverlappingAreasRow.holds Try.pinned (OpenSpec.ofChange Rows.fnExactOverlappingAreasSpec) :=
  OpenClaim.holds_of_wide 9 Try.f9 rfl rfl rfl rfl rfl rfl rfl ⟨rfl, rfl, rfl, rfl, rfl⟩ rfl rfl rfl rfl rfl (by kernel_rfl) Try.func9 (by kernel_rfl)
    (of_decide_eq_true (by kernel_rfl)) (by unfold Func.isWrapper; first | (rw [if_pos (by decide +kernel)]; kernel_rfl) | (rw [if_neg (by decide +kernel)]; exact ⟨rfl, rfl⟩))
    (fun os started H enc _ => lifted os started H enc)
theorem proved : Rows.FnExactOverlappingAreasSaid := over
#print axioms proved
end Go.Proofs.Ytedcdhnbceaaeaa.fnExactOverlappingAreas
namespace Go.Proofs.Ytedcdhnbceaaeaa
/-- The row, under a short name, for the claim. -/
theorem fnExactOverlappingAreas_holds : Rows.FnExactOverlappingAreasSaid := fnExactOverlappingAreas.proved
end Go.Proofs.Ytedcdhnbceaaeaa
