/- The walk of the law FnExactAddModule: the call returns true and keeps what was there. No condition but what the row's reading gives. -/
import Derived.Test.YtdkibmdpipoioaaPFnExactAddModulex0
import Derived.Test.YtdkibmdpipoioaaQFnExactAddModulea
import Derived.Test.YtdkibmdpipoioaaQFnExactAddModuleb
import Derived.Test.YtdkibmdpipoioaaQFnExactAddModulec
import Derived.Test.YtdkibmdpipoioaaQFnExactAddModuled
import Derived.Test.YtdkibmdpipoioaaInjFnExactAddModule
namespace Go.Proofs.Ytdkibmdpipoioaa.WalkFnExactAddModule
open Go.RowKit Go.Proofs.YtdkibmdpipoioaaW.PrintWords Go.Proofs.YtdkibmdpipoioaaW.PrintLast Go.Proofs.YtdkibmdpipoioaaW.PrintMore Go.Proofs.Ytdkibmdpipoioaa.Owned Go.Proofs.Ytdkibmdpipoioaa.Opening Go.Proofs.Ytdkibmdpipoioaa.PFnExactAddModule
open Go.Proofs.Ytdkibmdpipoioaa.Pure (w64 Ev_shift)
set_option linter.unusedVariables false
set_option linter.unusedSimpArgs false
theorem toF (b : Bool) (l0 : List S43) (hl : l0.length ≤ 1000000) : Ev (fun k => laws_toModuleS.f k l0 b) ((l0.map fun x => (⟨x.f0, x.f1⟩ : S49))) := by
  refine ⟨2 * l0.length + 10, fun k hk => ?_⟩
  cases b with
  | true => exact laws_toModuleS_bare l0 hl k hk
  | false => show laws_toModuleS.f k l0 false = _; rw [laws_toModuleS_eq l0 false (.inl rfl) hl k hk, List.take_append_of_le_length (by simp), List.take_of_length_le (by simp)]
theorem inF (l : List S49) : Ev (fun k => full_intactModuleS.f k l l) true := by
  unfold full_intactModuleS.f
  simp only [if_true]
  exact Ev.now _
theorem some_sz (l : List S43) : ∃ s, laws_szModuleS.f l 1000000 = some s := by
  unfold laws_szModuleS.f
  split
  · exact ⟨_, rfl⟩
  · exact ⟨_, rfl⟩
theorem eqF (l : List S49) (hl : l.length ≤ 10000000) : Ev (fun k => laws_eqModuleS.f k l l) true := ⟨l.length + 1, fun k hk => laws_eqModuleS_same l (by omega) k (by omega)⟩
theorem markF (l : List S49) (hl : l.length ≤ 10000000) : Ev (fun k => laws_markModuleS.f k l 101) (101 + 2 * (l.length : Int), marksModule l.length 101) := ⟨l.length + 1, fun k hk => laws_markModuleS_eq l 101 (by omega) (by omega) (by omega) k (by omega)⟩
theorem heldF (m : Nat) (hl : m ≤ 10000000) : Ev (fun k => laws_heldModuleS.f k (marksModule m 101) 101) (101 + 2 * (m : Int)) := ⟨m + 1, fun k hk => laws_heldModuleS_eq m 101 (by omega) (by omega) (by omega) k (by omega)⟩
theorem true_ (l0 : List S43) (a1_0 : Int) (a1_1 : Int) (q0 : (l0.length * 16 ≤ 140737488351232 ∧ ∀ x ∈ l0, (I64 x.f0 ∧ I64 x.f1))) (q1 : (I64 a1_0 ∧ I64 a1_1)) : Ev (fun k => full_FnExactAddModule.f k l0 a1_0 a1_1) true := by
  unfold full_FnExactAddModule.f
  obtain ⟨s, hs⟩ := some_sz l0
  rw [hs]
  simp only [Option.bind_some]
  by_cases c : s < 0
  · simp only [if_pos c]
    exact Ev.now _
  · simp only [if_neg c]
    have hl := laws_szModuleS_hn (by have := q0.1; omega) hs (decide_eq_false c)
    obtain ⟨K0, r1, r2, hrl, hag⟩ := Pure.agree_AddModule ((l0.map fun x => (⟨x.f0, x.f1⟩ : S49))) a1_0 a1_1 (by simpa using hl) (by have := q0.2; simpa using this) q1
    have es : Ev (fun k => spec_AddModule.f k ((l0.map fun x => (⟨x.f0, x.f1⟩ : S49))) a1_0 a1_1) (r1, r2) := ⟨K0, fun k hk => (hag k hk).1⟩
    have ei : Ev (fun k => impl_AddModule.f k ((l0.map fun x => (⟨x.f0, x.f1⟩ : S49))) a1_0 a1_1) (r1, r2) := ⟨K0, fun k hk => (hag k hk).2⟩
    repeat (first | exact Ev.now _ | refine Ev.bind (toF _ l0 hl) ?_ | refine Ev.bind es ?_ | refine Ev.bind ei ?_ | refine Ev.bind (inF _) ?_ | refine Ev.bind (eqF r1 hrl) ?_ | refine Ev.bind (markF ((l0.map fun x => (⟨x.f0, x.f1⟩ : S49))) (by simp; omega)) ?_ | refine Ev.bind (markF r1 hrl) ?_ | refine Ev.bind (heldF r1.length hrl) ?_ | (simp only [if_neg (show ¬ (101 + 2 * ((((l0.map fun x => (⟨x.f0, x.f1⟩ : S49))).length : Nat) : Int)) < 0 by omega)]) | (simp only [if_neg (show ¬ (101 + 2 * (r1.length : Int)) < 0 by omega)]) | (simp only [laws_toModule.f, Option.bind_some, bne_self_eq_false, if_true, if_false, Bool.false_eq_true, reduceIte]) | (refine Ev_shift ?_; simp only [full_FnExactAddModule.j0, full_FnExactAddModule.j1, full_FnExactAddModule.j2, laws_toModule.f, Option.bind_some, bne_self_eq_false, if_true, if_false, Bool.false_eq_true]))
theorem walk (A0 : Option Addr) (c0 : Nat) (l0 : (List S43)) (a1_0 : Int) (a1_1 : Int) (w : World) (hc0 : l0.length ≤ c0) (hr0 : Kd.C k43 w A0 l0.length l0) (q0 : (l0.length * 16 ≤ 140737488351232 ∧ ∀ x ∈ l0, (I64 x.f0 ∧ I64 x.f1))) (q1 : (I64 a1_0 ∧ I64 a1_1)) :
    Calls Try.prog 6 #[.slice A0 l0.length c0, .agg #[.int .i64 a1_0, .int .i64 a1_1]] w fun e w' => e = .returned (.bool true) ∧ Below w.heap.size w w' := by
  obtain ⟨K, h⟩ := true_ l0 a1_0 a1_1 q0 q1
  refine (full_FnExactAddModule.calls K A0 c0 l0 a1_0 a1_1 true w hr0 hc0 (h K (Nat.le_refl _))).mono ?_
  rintro e w' ⟨rfl, hd⟩
  exact ⟨rfl, hd⟩
end Go.Proofs.Ytdkibmdpipoioaa.WalkFnExactAddModule
