/- The walk of the law FnExactStateOf: the call returns true and keeps what was there. No condition but what the row's reading gives. -/
import Derived.Test.YtmemamokmeonjaaPFnExactStateOfx0
import Derived.Test.YtmemamokmeonjaaQFnExactStateOfa
import Derived.Test.YtmemamokmeonjaaQFnExactStateOfb
import Derived.Test.YtmemamokmeonjaaQFnExactStateOfc
import Derived.Test.YtmemamokmeonjaaInjFnExactStateOf
namespace Go.Proofs.Ytmemamokmeonjaa.WalkFnExactStateOf
open Go.RowKit Go.Proofs.YtmemamokmeonjaaW.PrintWords Go.Proofs.YtmemamokmeonjaaW.PrintLast Go.Proofs.YtmemamokmeonjaaW.PrintMore Go.Proofs.Ytmemamokmeonjaa.Owned Go.Proofs.Ytmemamokmeonjaa.Opening Go.Proofs.Ytmemamokmeonjaa.PFnExactStateOf
open Go.Proofs.Ytmemamokmeonjaa.Pure (w64 Ev_shift)
set_option linter.unusedVariables false
set_option linter.unusedSimpArgs false
theorem toF (b : Bool) (a : Int) (l : List Int) (hl : l.length ≤ 1000000) : Ev (fun k => laws_toCircuit.f k a l b) (a, l) := by
  unfold laws_toCircuit.f
  refine Ev.bind (a := l) ⟨2 * l.length + 10, fun k hk => ?_⟩ (Ev.now _)
  cases b with
  | true => exact laws_toInt64S_bare l hl k hk
  | false => show laws_toInt64S.f k l false = _; rw [laws_toInt64S_eq l false (.inl rfl) hl k hk, List.take_append_of_le_length (by simp), List.take_of_length_le (by simp)]
theorem inF (a : Int) (l : List Int) : Ev (fun k => full_intactCircuit.f k a l a l) true := by
  unfold full_intactCircuit.f full_intactInt64S.f
  simp only [if_true, Option.bind_some]
  exact Ev.now _
theorem some_sz (a : Int) (l : List Int) : ∃ s, laws_szCircuit.f a l 1000000 = some s := by
  unfold laws_szCircuit.f laws_szInt64S.f
  split
  · simp only [Option.bind_some]
    split
    · exact ⟨_, rfl⟩
    · exact ⟨_, rfl⟩
  · simp only [Option.bind_some]
    split
    · exact ⟨_, rfl⟩
    · exact ⟨_, rfl⟩
theorem true_ (a0_0 : Int) (l0_1 : (List Int)) (a1 : Int) (a2 : Int) (q0 : (I64 a0_0 ∧ (l0_1.length * 8 ≤ 140737488351232 ∧ ∀ x ∈ l0_1, I64 x))) (q1 : I64 a1) (q2 : I64 a2) : Ev (fun k => full_FnExactStateOf.f k a0_0 l0_1 a1 a2) true := by
  unfold full_FnExactStateOf.f
  obtain ⟨s, hs⟩ := some_sz a0_0 l0_1
  rw [hs]
  simp only [Option.bind_some]
  by_cases c : s < 0
  · simp only [if_pos c]
    exact Ev.now _
  · simp only [if_neg c]
    have hl := laws_szCircuit_hn (by have := q0.2.1; omega) hs (decide_eq_false c)
    obtain ⟨K0, r1, r2, hag⟩ := Pure.agree_StateOf a0_0 l0_1 a1 a2 hl q0.1 q0.2.2 q1 q2
    have es : Ev (fun k => spec_StateOf.f k a0_0 l0_1 a1 a2) (r1, r2) := ⟨K0, fun k hk => (hag k hk).1⟩
    have ei : Ev (fun k => impl_StateOf.f k a0_0 l0_1 a1 a2) (r1, r2) := ⟨K0, fun k hk => (hag k hk).2⟩
    repeat (first | exact Ev.now _ | refine Ev.bind (toF _ a0_0 l0_1 hl) ?_ | refine Ev.bind es ?_ | refine Ev.bind ei ?_ | refine Ev.bind (inF a0_0 l0_1) ?_ | (simp only [bne_self_eq_false, if_true, if_false, Bool.false_eq_true, reduceIte]) | (refine Ev_shift ?_; simp only [full_FnExactStateOf.j0, bne_self_eq_false, if_true, if_false, Bool.false_eq_true]))
theorem walk (a0_0 : Int) (A0_1 : Option Addr) (c0_1 : Nat) (l0_1 : (List Int)) (a1 : Int) (a2 : Int) (w : World) (hc0_1 : l0_1.length ≤ c0_1) (hr0_1 : Kd.C (Kd.int .i64) w A0_1 l0_1.length l0_1) (q0 : (I64 a0_0 ∧ (l0_1.length * 8 ≤ 140737488351232 ∧ ∀ x ∈ l0_1, I64 x))) (q1 : I64 a1) (q2 : I64 a2) :
    Calls Try.prog 8 #[.agg #[.int .i64 a0_0, .slice A0_1 l0_1.length c0_1], .int .i64 a1, .int .i64 a2] w fun e w' => e = .returned (.bool true) ∧ Below w.heap.size w w' := by
  obtain ⟨K, h⟩ := true_ a0_0 l0_1 a1 a2 q0 q1 q2
  refine (full_FnExactStateOf.calls K a0_0 A0_1 c0_1 l0_1 a1 a2 true w hr0_1 hc0_1 (h K (Nat.le_refl _))).mono ?_
  rintro e w' ⟨rfl, hd⟩
  exact ⟨rfl, hd⟩
end Go.Proofs.Ytmemamokmeonjaa.WalkFnExactStateOf
