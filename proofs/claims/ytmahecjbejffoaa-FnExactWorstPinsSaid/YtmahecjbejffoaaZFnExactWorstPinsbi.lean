/- Cf of the law FnExactWorstPins: taken over, declaration by declaration, as far as the law leans on it (the words and the printed functions are the kit's own print). No condition but what each says. -/
import Derived.Test.YtmahecjbejffoaaZFnExactWorstPinsbg
namespace Go.Proofs.Ytmahecjbejffoaa.PFnExactWorstPins
open Go.RowKit Go.Proofs.YtmahecjbejffoaaW.PrintWords Go.Proofs.YtmahecjbejffoaaW.PrintLast Go.Proofs.YtmahecjbejffoaaW.PrintMore Go.Proofs.Ytmahecjbejffoaa.Owned
attribute [local go_sem] max2_int min2_int max_two min_two max_three min_three max_four min_four
set_option linter.unusedVariables false
set_option linter.unusedSimpArgs false
theorem full_toCircuitS.told (k : Nat) (A0 : Option Addr) (c0 : Nat) (l0 : List (S130)) (a1 : Bool) (r : List P26) (w : World) (hr0 : Kd.C k130 w A0 l0.length l0) (hc0 : l0.length ≤ c0) (h : full_toCircuitS.f k l0 a1 = some r) :
    Calls Try.prog 40 #[.slice A0 l0.length c0, .bool a1] w fun e w' => ∃ A c y, (r.take l0.length).map pS = y ∧ e = .returned (.slice A y.length c) ∧ Kd.S k26 26 w' w.heap.size (fun _ => True) (.slice A y.length c) y ∧ Sp kP w' A c r ∧ Below w.heap.size w w' := by
  refine (full_toCircuitS.calls k A0 c0 l0 a1 r w hr0 hc0 h).mono ?_
  rintro e w' ⟨A, c, y, hy, he, hs, hp, hb⟩
  refine ⟨A, c, y.map pS, by rw [hy], ?_, ?_, hp, hb⟩
  · rw [List.length_map]
    exact he
  · rw [List.length_map]
    exact S_pS hs
theorem heldn_heldInt64S.calls (k : Nat) (A0 : Option Addr) (c0 : Nat) (l0 : List Int) (a1 : Int) (r : Int) (n0 : Nat) (w : World) (hn0 : n0 = l0.length) (hr0 : Kd.C (Kd.int .i64) w A0 l0.length l0) (hc0 : l0.length ≤ c0) (h : laws_heldInt64S.f k l0 a1 = some r) :
    Calls Try.prog 47 #[.slice A0 n0 c0, .int .i64 a1] w fun e w' => e = .returned (.int .i64 r) ∧ Drawn0 w w' := by
  subst hn0
  exact laws_heldInt64S.calls k A0 c0 l0 a1 r w hr0 hc0 h
end Go.Proofs.Ytmahecjbejffoaa.PFnExactWorstPins
