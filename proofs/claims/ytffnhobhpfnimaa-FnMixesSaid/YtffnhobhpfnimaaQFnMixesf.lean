/- Functions that FnMixes reaches, with their walks: taken and turned by a program of this session out of the print's text. No condition but what each contract says. -/
import Derived.Test.YtffnhobhpfnimaaPFnMixesx0
import Derived.Test.YtffnhobhpfnimaaQFnMixesa
import Derived.Test.YtffnhobhpfnimaaQFnMixesb
import Derived.Test.YtffnhobhpfnimaaQFnMixesc
import Derived.Test.YtffnhobhpfnimaaQFnMixese
namespace Go.Proofs.Ytffnhobhpfnimaa.PFnMixes
open Go.RowKit Go.Proofs.YtffnhobhpfnimaaW.PrintWords Go.Proofs.YtffnhobhpfnimaaW.PrintLast Go.Proofs.YtffnhobhpfnimaaW.PrintMore
attribute [local go_sem] max2_int min2_int max_two min_two max_three min_three max_four min_four   -- for this text's walks alone
set_option linter.unusedVariables false
set_option linter.unusedSimpArgs false

/-! ### laws_sum: function 73 -/
def laws_sum.l0 : Nat → List Int → Int → Int → Option (Int)
  | 0, _, _, _ => none
  | k + 1, x0, x3, x4 => if x4 < (x0.length : Int) then (if 0 ≤ x4 then (laws_sum.l0 k x0 (wrap64 (x3 + (rd x0 x4))) (wrap64 (x4 + 1))) else (none)) else (some x3)
def laws_sum.f (k : Nat) (l0 : List Int) : Option (Int) := laws_sum.l0 k l0 0 0
theorem laws_sum.mono_l : ∀ k, (∀ y0 y1 y2, LeO (laws_sum.l0 k y0 y1 y2) (laws_sum.l0 (k + 1) y0 y1 y2))
  | 0 => fun _ _ _ r h => by simp [laws_sum.l0] at h
  | k + 1 => by
    have ih0 := laws_sum.mono_l k
    · intro y0 y1 y2
      unfold laws_sum.l0
      repeat' first
      | (with_reducible exact ih0 _ _ _)
      | (with_reducible exact LeO.refl _)
      | (with_reducible exact LeO.none _)
      | (with_reducible refine LeO.ite ?_ ?_)
      | (with_reducible refine LeO.bind ?_ (fun _ => ?_))
      | exact ih0 _ _ _
      | exact LeO.none _
      | refine LeO.ite ?_ ?_
      | refine LeO.bind ?_ (fun _ => ?_)
theorem laws_sum.mono : ∀ a0 k, LeO (laws_sum.f k a0) (laws_sum.f (k + 1) a0) := by
  intro a0 k
  have ih0 := laws_sum.mono_l k
  unfold laws_sum.f
  repeat' first
      | (with_reducible exact ih0 _ _ _)
      | (with_reducible exact LeO.refl _)
      | (with_reducible exact LeO.none _)
      | (with_reducible refine LeO.ite ?_ ?_)
      | (with_reducible refine LeO.bind ?_ (fun _ => ?_))
      | exact ih0 _ _ _
      | exact LeO.none _
      | refine LeO.ite ?_ ?_
      | refine LeO.bind ?_ (fun _ => ?_)
set_option maxHeartbeats 8000000 in
set_option maxRecDepth 100000 in
theorem laws_sum.calls (k : Nat) (A0 : Option Addr) (c0 : Nat) (l0 : List Int) (r : Int) (w : World) (hr0 : Kd.C (Kd.int .i64) w A0 l0.length l0) (hc0 : l0.length ≤ c0) (h : laws_sum.f k l0 = some r) :
    Calls Try.prog 73 #[.slice A0 l0.length c0] w fun e w' => e = .returned (.int .i64 r) ∧ Drawn0 w w' := by
  have HR0 := Aside0.mk hr0
  have HC0 := Aside0.mk hc0
  clear hr0 hc0
  have H : (laws_sum.l0 k l0 0 0) = some r := h
  clear h
  have H' := Aside0.mk H
  clear H
  go_enter Try.func73, Try.ntmps73
  go_wp2
  go_loopg [3, 4] k (fun kq v3 v4 w' => ∃ (x3_1 : Int) (x4_1 : Int), v3 = .int .i64 x3_1 ∧ v4 = .int .i64 x4_1 ∧ Aside0 (laws_sum.l0 kq l0 x3_1 x4_1 = some r) ∧ Aside0 (kq ≤ k) ∧ Drawn0 w w')
  case atStart => exact ⟨(0), (0), (by first | rfl | (simp; done) | (simp [*]; done)), (by first | rfl | (simp; done) | (simp [*]; done)), H', ⟨Nat.le_refl _⟩, by repeat (first | exact Drawn0.refl _ | apply Drawn0.step)⟩
  case round =>
    clear H'
    obtain ⟨x3_1, x4_1, rfl, rfl, HA, HK1, ⟨m1, rfl⟩⟩ := hrel
    cases gk with
    | zero => exact absurd HA.out (by simp [laws_sum.l0])
    | succ k1 =>
      have H := HA.out
      clear HA
      simp only [laws_sum.l0] at H
      by_cases c2 : x4_1 < (l0.length : Int)
      · rw [if_pos c2] at H
        have c2b0 : decide (x4_1 < (l0.length : Int)) = true := decide_eq_true c2
        clear c2
        by_cases c3 : 0 ≤ x4_1
        · rw [if_pos c3] at H
          have c3b0 : decide (0 ≤ x4_1) = true := decide_eq_true c3
          clear c3
          have H' := Aside0.mk H
          clear H
          have p297 : 0 ≤ (x4_1 : Int) := of_decide_eq_true (by first | (with_reducible assumption) | assumption)
          have q297 : x4_1 < (l0.length : Int) := of_decide_eq_true (by first | (with_reducible assumption) | assumption)
          obtain ⟨ad297, e297, hx297_0⟩ := Kd.at_int HR0.out x4_1 p297 q297
          cases e297
          replace p297 := eq_true p297
          replace q297 := eq_true q297
          go_wp2
          go_roundg k1
          case measure => have := HK1.out; omega
          case rel => exact ⟨(wrap64 (x3_1 + (rd l0 x4_1))), (wrap64 (x4_1 + 1)), (by first | rfl | (simp; done) | (simp [*]; done)), (by first | rfl | (simp; done) | (simp [*]; done)), H', ⟨by have := HK1.out; omega⟩, by repeat (first | exact Drawn0.refl _ | apply Drawn0.step)⟩
        · rw [if_neg c3] at H
          exact absurd H (by simp)
      · rw [if_neg c2] at H
        have c2b0 : decide (x4_1 < (l0.length : Int)) = false := decide_eq_false c2
        clear c2
        obtain rfl := Option.some.inj H
        go_wp2
        go_ret
        exact ⟨by first | rfl | (simp; done) | (simp [*]; done), by repeat (first | exact Drawn0.refl _ | apply Drawn0.step)⟩


/-! ### laws_FnMixes: function 12 -/
mutual
def laws_FnMixes.j0 : Nat → List Int → Int → List Int → Int → List Int → Int → Int → Int → Bool → Option (Bool)
  | 0, _, _, _, _, _, _, _, _, _ => none
  | k + 1, x3, x4, x5, x6, x9, x10, x11, x12, x85 => if x85 = true then (some false) else (if x12 = 0 then ((impl_MixDelays.f k x9 x11).bind fun bt321 => (if bt321.2 = 0 then (if x11 = x10 then (laws_FnMixes.j1 k x3 x4 x5 x6) else ((impl_MixDelays.f k x9 x10).bind fun bt325 => (if bt325.2 = 4 then (laws_FnMixes.j1 k x3 x4 x5 x6) else (some false)))) else (some false))) else (laws_FnMixes.j1 k x3 x4 x5 x6))
def laws_FnMixes.j1 : Nat → List Int → Int → List Int → Int → Option (Bool)
  | 0, _, _, _, _ => none
  | k + 1, x3, x4, x5, x6 => if x6 = 0 then (laws_FnMixes.l0 k x3 x4 x5 0) else (some true)
def laws_FnMixes.l0 : Nat → List Int → Int → List Int → Int → Option (Bool)
  | 0, _, _, _, _ => none
  | k + 1, x3, x4, x5, x19 => if x19 < (x5.length : Int) then (if 0 ≤ x19 then ((laws_hasInt.f k x3 (rd x5 x19)).bind fun t330 => (if t330 = true then (if x19 > 0 then (if 0 ≤ (wrap64 (x19 - 1)) then (if (wrap64 (x19 - 1)) < (x5.length : Int) then (if (rd x5 x19) < (rd x5 (wrap64 (x19 - 1))) then (some false) else (laws_FnMixes.l0 k x3 x4 x5 (wrap64 (x19 + 1)))) else (none)) else (none)) else (laws_FnMixes.l0 k x3 x4 x5 (wrap64 (x19 + 1)))) else (some false))) else (none)) else (if x4 = 0 then (some ((x5.length : Int) == 0)) else (laws_FnMixes.l1 k x3 x4 x5 (([0] : List Int)) 1))
def laws_FnMixes.l1 : Nat → List Int → Int → List Int → List Int → Int → Option (Bool)
  | 0, _, _, _, _, _ => none
  | k + 1, x3, x4, x5, x20, x21 => if x21 ≤ x4 then (laws_FnMixes.l2 k x3 x4 x5 x20 x21 (-1) 0) else ((laws_sum.f k x5).bind fun t336 => (if t336 = x4 then (if (x5.length : Int) ≤ 30 then (if 0 ≤ x4 then (if x4 < (x20.length : Int) then (some ((x5.length : Int) == (rd x20 x4))) else (none)) else (none)) else (some false)) else (some false)))
def laws_FnMixes.l2 : Nat → List Int → Int → List Int → List Int → Int → Int → Int → Option (Bool)
  | 0, _, _, _, _, _, _, _ => none
  | k + 1, x3, x4, x5, x20, x21, x22, x23 => if x23 < (x3.length : Int) then (if 0 ≤ x23 then (if (rd x3 x23) ≤ x21 then (if 0 ≤ (wrap64 (x21 - (rd x3 x23))) then (if (wrap64 (x21 - (rd x3 x23))) < (x20.length : Int) then (if (rd x20 (wrap64 (x21 - (rd x3 x23)))) ≥ 0 then (if x22 < 0 then (laws_FnMixes.l2 k x3 x4 x5 x20 x21 (wrap64 ((rd x20 (wrap64 (x21 - (rd x3 x23)))) + 1)) (wrap64 (x23 + 1))) else (if (wrap64 ((rd x20 (wrap64 (x21 - (rd x3 x23)))) + 1)) < x22 then (laws_FnMixes.l2 k x3 x4 x5 x20 x21 (wrap64 ((rd x20 (wrap64 (x21 - (rd x3 x23)))) + 1)) (wrap64 (x23 + 1))) else (laws_FnMixes.l2 k x3 x4 x5 x20 x21 x22 (wrap64 (x23 + 1))))) else (laws_FnMixes.l2 k x3 x4 x5 x20 x21 x22 (wrap64 (x23 + 1)))) else (none)) else (none)) else (laws_FnMixes.l2 k x3 x4 x5 x20 x21 x22 (wrap64 (x23 + 1)))) else (none)) else (if x20.length < 17592186044416 then (laws_FnMixes.l1 k x3 x4 x5 (x20 ++ [x22]) (wrap64 (x21 + 1))) else (none))
end
def laws_FnMixes.f (k : Nat) (l0 : List Int) : Option (Bool) := (laws_big.f l0).bind fun t298 => (if t298 = true then (some true) else ((spec_DrawMixDelays.f k l0).bind fun bt299 => ((impl_MixDelays.f k bt299.1 bt299.2).bind fun bt303 => ((spec_MixDelays.f k bt299.1 bt299.2).bind fun bt307 => ((spec_DrawNearestMix.f k l0).bind fun bt311 => ((impl_NearestMix.f k bt311.1 bt311.2).bind fun bt315 => ((spec_NearestMix.f k bt311.1 bt311.2).bind fun bt317 => (if bt303.2 = bt307.2 then ((laws_likeInts.f k bt303.1 bt307.1).bind fun t319 => (if t319 = true then (if bt315.2 = bt317.2 then (if bt315.1 = bt317.1 then ((impl_ArePieces.f k bt299.1).bind fun t320 => (laws_FnMixes.j0 k bt299.1 bt299.2 bt303.1 bt303.2 bt311.1 bt311.2 bt315.1 bt315.2 (t320 != (bt307.2 != 1)))) else (laws_FnMixes.j0 k bt299.1 bt299.2 bt303.1 bt303.2 bt311.1 bt311.2 bt315.1 bt315.2 true)) else (laws_FnMixes.j0 k bt299.1 bt299.2 bt303.1 bt303.2 bt311.1 bt311.2 bt315.1 bt315.2 true)) else (laws_FnMixes.j0 k bt299.1 bt299.2 bt303.1 bt303.2 bt311.1 bt311.2 bt315.1 bt315.2 true))) else (laws_FnMixes.j0 k bt299.1 bt299.2 bt303.1 bt303.2 bt311.1 bt311.2 bt315.1 bt315.2 true)))))))))
theorem laws_FnMixes.mono_l : ∀ k, (∀ y0 y1 y2 y3 y4 y5 y6 y7 y8, LeO (laws_FnMixes.j0 k y0 y1 y2 y3 y4 y5 y6 y7 y8) (laws_FnMixes.j0 (k + 1) y0 y1 y2 y3 y4 y5 y6 y7 y8)) ∧ (∀ y0 y1 y2 y3, LeO (laws_FnMixes.j1 k y0 y1 y2 y3) (laws_FnMixes.j1 (k + 1) y0 y1 y2 y3)) ∧ (∀ y0 y1 y2 y3, LeO (laws_FnMixes.l0 k y0 y1 y2 y3) (laws_FnMixes.l0 (k + 1) y0 y1 y2 y3)) ∧ (∀ y0 y1 y2 y3 y4, LeO (laws_FnMixes.l1 k y0 y1 y2 y3 y4) (laws_FnMixes.l1 (k + 1) y0 y1 y2 y3 y4)) ∧ (∀ y0 y1 y2 y3 y4 y5 y6, LeO (laws_FnMixes.l2 k y0 y1 y2 y3 y4 y5 y6) (laws_FnMixes.l2 (k + 1) y0 y1 y2 y3 y4 y5 y6))
  | 0 => ⟨fun _ _ _ _ _ _ _ _ _ r h => by simp [laws_FnMixes.j0] at h, fun _ _ _ _ r h => by simp [laws_FnMixes.j1] at h, fun _ _ _ _ r h => by simp [laws_FnMixes.l0] at h, fun _ _ _ _ _ r h => by simp [laws_FnMixes.l1] at h, fun _ _ _ _ _ _ _ r h => by simp [laws_FnMixes.l2] at h⟩
  | k + 1 => by
    obtain ⟨ih0, ih1, ih2, ih3, ih4⟩ := laws_FnMixes.mono_l k
    refine ⟨?_, ?_, ?_, ?_, ?_⟩
    · intro y0 y1 y2 y3 y4 y5 y6 y7 y8
      unfold laws_FnMixes.j0
      repeat' first
      | (with_reducible exact ih0 _ _ _ _ _ _ _ _ _)
      | (with_reducible exact ih1 _ _ _ _)
      | (with_reducible exact ih2 _ _ _ _)
      | (with_reducible exact ih3 _ _ _ _ _)
      | (with_reducible exact ih4 _ _ _ _ _ _ _)
      | (with_reducible exact impl_ArePieces.mono _ _)
      | (with_reducible exact impl_MixDelays.mono _ _ _)
      | (with_reducible exact impl_NearestMix.mono _ _ _)
      | (with_reducible exact laws_hasInt.mono _ _ _)
      | (with_reducible exact laws_likeInts.mono _ _ _)
      | (with_reducible exact laws_sum.mono _ _)
      | (with_reducible exact spec_DrawMixDelays.mono _ _)
      | (with_reducible exact spec_DrawNearestMix.mono _ _)
      | (with_reducible exact spec_MixDelays.mono _ _ _)
      | (with_reducible exact spec_NearestMix.mono _ _ _)
      | (with_reducible exact LeO.refl _)
      | (with_reducible exact LeO.none _)
      | (with_reducible refine LeO.ite ?_ ?_)
      | (with_reducible refine LeO.bind ?_ (fun _ => ?_))
      | exact ih0 _ _ _ _ _ _ _ _ _
      | exact ih1 _ _ _ _
      | exact ih2 _ _ _ _
      | exact ih3 _ _ _ _ _
      | exact ih4 _ _ _ _ _ _ _
      | exact impl_ArePieces.mono _ _
      | exact impl_MixDelays.mono _ _ _
      | exact impl_NearestMix.mono _ _ _
      | exact laws_hasInt.mono _ _ _
      | exact laws_likeInts.mono _ _ _
      | exact laws_sum.mono _ _
      | exact spec_DrawMixDelays.mono _ _
      | exact spec_DrawNearestMix.mono _ _
      | exact spec_MixDelays.mono _ _ _
      | exact spec_NearestMix.mono _ _ _
      | exact LeO.none _
      | refine LeO.ite ?_ ?_
      | refine LeO.bind ?_ (fun _ => ?_)
    · intro y0 y1 y2 y3
      unfold laws_FnMixes.j1
      repeat' first
      | (with_reducible exact ih0 _ _ _ _ _ _ _ _ _)
      | (with_reducible exact ih1 _ _ _ _)
      | (with_reducible exact ih2 _ _ _ _)
      | (with_reducible exact ih3 _ _ _ _ _)
      | (with_reducible exact ih4 _ _ _ _ _ _ _)
      | (with_reducible exact impl_ArePieces.mono _ _)
      | (with_reducible exact impl_MixDelays.mono _ _ _)
      | (with_reducible exact impl_NearestMix.mono _ _ _)
      | (with_reducible exact laws_hasInt.mono _ _ _)
      | (with_reducible exact laws_likeInts.mono _ _ _)
      | (with_reducible exact laws_sum.mono _ _)
      | (with_reducible exact spec_DrawMixDelays.mono _ _)
      | (with_reducible exact spec_DrawNearestMix.mono _ _)
      | (with_reducible exact spec_MixDelays.mono _ _ _)
      | (with_reducible exact spec_NearestMix.mono _ _ _)
      | (with_reducible exact LeO.refl _)
      | (with_reducible exact LeO.none _)
      | (with_reducible refine LeO.ite ?_ ?_)
      | (with_reducible refine LeO.bind ?_ (fun _ => ?_))
      | exact ih0 _ _ _ _ _ _ _ _ _
      | exact ih1 _ _ _ _
      | exact ih2 _ _ _ _
      | exact ih3 _ _ _ _ _
      | exact ih4 _ _ _ _ _ _ _
      | exact impl_ArePieces.mono _ _
      | exact impl_MixDelays.mono _ _ _
      | exact impl_NearestMix.mono _ _ _
      | exact laws_hasInt.mono _ _ _
      | exact laws_likeInts.mono _ _ _
      | exact laws_sum.mono _ _
      | exact spec_DrawMixDelays.mono _ _
      | exact spec_DrawNearestMix.mono _ _
      | exact spec_MixDelays.mono _ _ _
      | exact spec_NearestMix.mono _ _ _
      | exact LeO.none _
      | refine LeO.ite ?_ ?_
      | refine LeO.bind ?_ (fun _ => ?_)
    · intro y0 y1 y2 y3
      unfold laws_FnMixes.l0
      repeat' first
      | (with_reducible exact ih0 _ _ _ _ _ _ _ _ _)
      | (with_reducible exact ih1 _ _ _ _)
      | (with_reducible exact ih2 _ _ _ _)
      | (with_reducible exact ih3 _ _ _ _ _)
      | (with_reducible exact ih4 _ _ _ _ _ _ _)
      | (with_reducible exact impl_ArePieces.mono _ _)
      | (with_reducible exact impl_MixDelays.mono _ _ _)
      | (with_reducible exact impl_NearestMix.mono _ _ _)
      | (with_reducible exact laws_hasInt.mono _ _ _)
      | (with_reducible exact laws_likeInts.mono _ _ _)
      | (with_reducible exact laws_sum.mono _ _)
      | (with_reducible exact spec_DrawMixDelays.mono _ _)
      | (with_reducible exact spec_DrawNearestMix.mono _ _)
      | (with_reducible exact spec_MixDelays.mono _ _ _)
      | (with_reducible exact spec_NearestMix.mono _ _ _)
      | (with_reducible exact LeO.refl _)
      | (with_reducible exact LeO.none _)
      | (with_reducible refine LeO.ite ?_ ?_)
      | (with_reducible refine LeO.bind ?_ (fun _ => ?_))
      | exact ih0 _ _ _ _ _ _ _ _ _
      | exact ih1 _ _ _ _
      | exact ih2 _ _ _ _
      | exact ih3 _ _ _ _ _
      | exact ih4 _ _ _ _ _ _ _
      | exact impl_ArePieces.mono _ _
      | exact impl_MixDelays.mono _ _ _
      | exact impl_NearestMix.mono _ _ _
      | exact laws_hasInt.mono _ _ _
      | exact laws_likeInts.mono _ _ _
      | exact laws_sum.mono _ _
      | exact spec_DrawMixDelays.mono _ _
      | exact spec_DrawNearestMix.mono _ _
      | exact spec_MixDelays.mono _ _ _
      | exact spec_NearestMix.mono _ _ _
      | exact LeO.none _
      | refine LeO.ite ?_ ?_
      | refine LeO.bind ?_ (fun _ => ?_)
    · intro y0 y1 y2 y3 y4
      unfold laws_FnMixes.l1
      repeat' first
      | (with_reducible exact ih0 _ _ _ _ _ _ _ _ _)
      | (with_reducible exact ih1 _ _ _ _)
      | (with_reducible exact ih2 _ _ _ _)
      | (with_reducible exact ih3 _ _ _ _ _)
      | (with_reducible exact ih4 _ _ _ _ _ _ _)
      | (with_reducible exact impl_ArePieces.mono _ _)
      | (with_reducible exact impl_MixDelays.mono _ _ _)
      | (with_reducible exact impl_NearestMix.mono _ _ _)
      | (with_reducible exact laws_hasInt.mono _ _ _)
      | (with_reducible exact laws_likeInts.mono _ _ _)
      | (with_reducible exact laws_sum.mono _ _)
      | (with_reducible exact spec_DrawMixDelays.mono _ _)
      | (with_reducible exact spec_DrawNearestMix.mono _ _)
      | (with_reducible exact spec_MixDelays.mono _ _ _)
      | (with_reducible exact spec_NearestMix.mono _ _ _)
      | (with_reducible exact LeO.refl _)
      | (with_reducible exact LeO.none _)
      | (with_reducible refine LeO.ite ?_ ?_)
      | (with_reducible refine LeO.bind ?_ (fun _ => ?_))
      | exact ih0 _ _ _ _ _ _ _ _ _
      | exact ih1 _ _ _ _
      | exact ih2 _ _ _ _
      | exact ih3 _ _ _ _ _
      | exact ih4 _ _ _ _ _ _ _
      | exact impl_ArePieces.mono _ _
      | exact impl_MixDelays.mono _ _ _
      | exact impl_NearestMix.mono _ _ _
      | exact laws_hasInt.mono _ _ _
      | exact laws_likeInts.mono _ _ _
      | exact laws_sum.mono _ _
      | exact spec_DrawMixDelays.mono _ _
      | exact spec_DrawNearestMix.mono _ _
      | exact spec_MixDelays.mono _ _ _
      | exact spec_NearestMix.mono _ _ _
      | exact LeO.none _
      | refine LeO.ite ?_ ?_
      | refine LeO.bind ?_ (fun _ => ?_)
    · intro y0 y1 y2 y3 y4 y5 y6
      unfold laws_FnMixes.l2
      repeat' first
      | (with_reducible exact ih0 _ _ _ _ _ _ _ _ _)
      | (with_reducible exact ih1 _ _ _ _)
      | (with_reducible exact ih2 _ _ _ _)
      | (with_reducible exact ih3 _ _ _ _ _)
      | (with_reducible exact ih4 _ _ _ _ _ _ _)
      | (with_reducible exact impl_ArePieces.mono _ _)
      | (with_reducible exact impl_MixDelays.mono _ _ _)
      | (with_reducible exact impl_NearestMix.mono _ _ _)
      | (with_reducible exact laws_hasInt.mono _ _ _)
      | (with_reducible exact laws_likeInts.mono _ _ _)
      | (with_reducible exact laws_sum.mono _ _)
      | (with_reducible exact spec_DrawMixDelays.mono _ _)
      | (with_reducible exact spec_DrawNearestMix.mono _ _)
      | (with_reducible exact spec_MixDelays.mono _ _ _)
      | (with_reducible exact spec_NearestMix.mono _ _ _)
      | (with_reducible exact LeO.refl _)
      | (with_reducible exact LeO.none _)
      | (with_reducible refine LeO.ite ?_ ?_)
      | (with_reducible refine LeO.bind ?_ (fun _ => ?_))
      | exact ih0 _ _ _ _ _ _ _ _ _
      | exact ih1 _ _ _ _
      | exact ih2 _ _ _ _
      | exact ih3 _ _ _ _ _
      | exact ih4 _ _ _ _ _ _ _
      | exact impl_ArePieces.mono _ _
      | exact impl_MixDelays.mono _ _ _
      | exact impl_NearestMix.mono _ _ _
      | exact laws_hasInt.mono _ _ _
      | exact laws_likeInts.mono _ _ _
      | exact laws_sum.mono _ _
      | exact spec_DrawMixDelays.mono _ _
      | exact spec_DrawNearestMix.mono _ _
      | exact spec_MixDelays.mono _ _ _
      | exact spec_NearestMix.mono _ _ _
      | exact LeO.none _
      | refine LeO.ite ?_ ?_
      | refine LeO.bind ?_ (fun _ => ?_)
theorem laws_FnMixes.mono : ∀ a0 k, LeO (laws_FnMixes.f k a0) (laws_FnMixes.f (k + 1) a0) := by
  intro a0 k
  obtain ⟨ih0, ih1, ih2, ih3, ih4⟩ := laws_FnMixes.mono_l k
  unfold laws_FnMixes.f
  repeat' first
      | (with_reducible exact ih0 _ _ _ _ _ _ _ _ _)
      | (with_reducible exact ih1 _ _ _ _)
      | (with_reducible exact ih2 _ _ _ _)
      | (with_reducible exact ih3 _ _ _ _ _)
      | (with_reducible exact ih4 _ _ _ _ _ _ _)
      | (with_reducible exact impl_ArePieces.mono _ _)
      | (with_reducible exact impl_MixDelays.mono _ _ _)
      | (with_reducible exact impl_NearestMix.mono _ _ _)
      | (with_reducible exact laws_hasInt.mono _ _ _)
      | (with_reducible exact laws_likeInts.mono _ _ _)
      | (with_reducible exact laws_sum.mono _ _)
      | (with_reducible exact spec_DrawMixDelays.mono _ _)
      | (with_reducible exact spec_DrawNearestMix.mono _ _)
      | (with_reducible exact spec_MixDelays.mono _ _ _)
      | (with_reducible exact spec_NearestMix.mono _ _ _)
      | (with_reducible exact LeO.refl _)
      | (with_reducible exact LeO.none _)
      | (with_reducible refine LeO.ite ?_ ?_)
      | (with_reducible refine LeO.bind ?_ (fun _ => ?_))
      | exact ih0 _ _ _ _ _ _ _ _ _
      | exact ih1 _ _ _ _
      | exact ih2 _ _ _ _
      | exact ih3 _ _ _ _ _
      | exact ih4 _ _ _ _ _ _ _
      | exact impl_ArePieces.mono _ _
      | exact impl_MixDelays.mono _ _ _
      | exact impl_NearestMix.mono _ _ _
      | exact laws_hasInt.mono _ _ _
      | exact laws_likeInts.mono _ _ _
      | exact laws_sum.mono _ _
      | exact spec_DrawMixDelays.mono _ _
      | exact spec_DrawNearestMix.mono _ _
      | exact spec_MixDelays.mono _ _ _
      | exact spec_NearestMix.mono _ _ _
      | exact LeO.none _
      | refine LeO.ite ?_ ?_
      | refine LeO.bind ?_ (fun _ => ?_)
theorem laws_FnMixes.j0_true {k : Nat} {a0} {a1} {a2} {a3} {a4} {a5} {a6} {a7} {r : Bool} (h : laws_FnMixes.j0 k a0 a1 a2 a3 a4 a5 a6 a7 true = some r) : false = r := by
  cases k with
  | zero => simp [laws_FnMixes.j0] at h
  | succ k => simpa [laws_FnMixes.j0] using h

set_option maxHeartbeats 8000000 in
set_option maxRecDepth 100000 in
theorem laws_FnMixes.calls (k : Nat) (A0 : Option Addr) (c0 : Nat) (l0 : List Int) (r : Bool) (w : World) (hr0 : Kd.C (Kd.int .u8) w A0 l0.length l0) (hc0 : l0.length ≤ c0) (h : laws_FnMixes.f k l0 = some r) (hT : r = true) :
    Calls Try.prog 12 #[.slice A0 l0.length c0] w fun e w' => e = .returned (.bool r) ∧ Below w.heap.size w w' := by
  have HR0 := Aside0.mk hr0
  have HC0 := Aside0.mk hc0
  clear hr0 hc0
  have HB := Aside0.mk (Below.refl w.heap.size w)
  have H : ((laws_big.f l0).bind fun t298 => (if t298 = true then (some true) else ((spec_DrawMixDelays.f k l0).bind fun bt299 => ((impl_MixDelays.f k bt299.1 bt299.2).bind fun bt303 => ((spec_MixDelays.f k bt299.1 bt299.2).bind fun bt307 => ((spec_DrawNearestMix.f k l0).bind fun bt311 => ((impl_NearestMix.f k bt311.1 bt311.2).bind fun bt315 => ((spec_NearestMix.f k bt311.1 bt311.2).bind fun bt317 => (if bt303.2 = bt307.2 then ((laws_likeInts.f k bt303.1 bt307.1).bind fun t319 => (if t319 = true then (if bt315.2 = bt317.2 then (if bt315.1 = bt317.1 then ((impl_ArePieces.f k bt299.1).bind fun t320 => (laws_FnMixes.j0 k bt299.1 bt299.2 bt303.1 bt303.2 bt311.1 bt311.2 bt315.1 bt315.2 (t320 != (bt307.2 != 1)))) else (laws_FnMixes.j0 k bt299.1 bt299.2 bt303.1 bt303.2 bt311.1 bt311.2 bt315.1 bt315.2 true)) else (laws_FnMixes.j0 k bt299.1 bt299.2 bt303.1 bt303.2 bt311.1 bt311.2 bt315.1 bt315.2 true)) else (laws_FnMixes.j0 k bt299.1 bt299.2 bt303.1 bt303.2 bt311.1 bt311.2 bt315.1 bt315.2 true))) else (laws_FnMixes.j0 k bt299.1 bt299.2 bt303.1 bt303.2 bt311.1 bt311.2 bt315.1 bt315.2 true)))))))))) = some r := h
  clear h
  replace H := Option.bind_eq_some_iff.mp H
  obtain ⟨t298, A20, H⟩ := H
  replace H : (if t298 = true then (some true) else ((spec_DrawMixDelays.f k l0).bind fun bt299 => ((impl_MixDelays.f k bt299.1 bt299.2).bind fun bt303 => ((spec_MixDelays.f k bt299.1 bt299.2).bind fun bt307 => ((spec_DrawNearestMix.f k l0).bind fun bt311 => ((impl_NearestMix.f k bt311.1 bt311.2).bind fun bt315 => ((spec_NearestMix.f k bt311.1 bt311.2).bind fun bt317 => (if bt303.2 = bt307.2 then ((laws_likeInts.f k bt303.1 bt307.1).bind fun t319 => (if t319 = true then (if bt315.2 = bt317.2 then (if bt315.1 = bt317.1 then ((impl_ArePieces.f k bt299.1).bind fun t320 => (laws_FnMixes.j0 k bt299.1 bt299.2 bt303.1 bt303.2 bt311.1 bt311.2 bt315.1 bt315.2 (t320 != (bt307.2 != 1)))) else (laws_FnMixes.j0 k bt299.1 bt299.2 bt303.1 bt303.2 bt311.1 bt311.2 bt315.1 bt315.2 true)) else (laws_FnMixes.j0 k bt299.1 bt299.2 bt303.1 bt303.2 bt311.1 bt311.2 bt315.1 bt315.2 true)) else (laws_FnMixes.j0 k bt299.1 bt299.2 bt303.1 bt303.2 bt311.1 bt311.2 bt315.1 bt315.2 true))) else (laws_FnMixes.j0 k bt299.1 bt299.2 bt303.1 bt303.2 bt311.1 bt311.2 bt315.1 bt315.2 true))))))))) = some r := H
  have A2 := Aside0.mk A20
  clear A20
  by_cases c3 : t298 = true
  · subst c3
    have H1 : (some true) = some r := by rw [if_pos rfl] at H; exact H
    clear H
    have H := H1
    clear H1
    obtain rfl := Option.some.inj H
    go_enter Try.func12, Try.ntmps12
    go_wp2_with (first | (go_at_call 37; (with_reducible refine (laws_big.calls _ _ l0 true _ ?side1 ?side2 A2.out).mono ?_); (case side1 => repeat (first | exact HR0.out | (with_reducible refine Kd.C_alloc ?_ _) | (with_reducible refine Kd.C_drewN ?_ _) | (with_reducible refine Kd.C_drew ?_))); (case side2 => exact HC0.out); rintro e w' ⟨rfl, ⟨nd, rfl⟩⟩; (try first | exact ⟨rfl, _, World.drewN_drewN _ _ _⟩ | exact ⟨rfl, _, Eq.trans (World.drewN_drewN _ _ _) (congrArg (World.drewN _) (Nat.add_assoc _ _ _))⟩)))
    repeat (go_quiet (first | (go_at_call 37; (with_reducible refine (laws_big.calls _ _ l0 true _ ?side1 ?side2 A2.out).mono ?_); (case side1 => repeat (first | exact HR0.out | (with_reducible refine Kd.C_alloc ?_ _) | (with_reducible refine Kd.C_drewN ?_ _) | (with_reducible refine Kd.C_drew ?_))); (case side2 => exact HC0.out); rintro e w' ⟨rfl, ⟨nd, rfl⟩⟩; (try first | exact ⟨rfl, _, World.drewN_drewN _ _ _⟩ | exact ⟨rfl, _, Eq.trans (World.drewN_drewN _ _ _) (congrArg (World.drewN _) (Nat.add_assoc _ _ _))⟩))); try go_wp2_with (first | (go_at_call 37; (with_reducible refine (laws_big.calls _ _ l0 true _ ?side1 ?side2 A2.out).mono ?_); (case side1 => repeat (first | exact HR0.out | (with_reducible refine Kd.C_alloc ?_ _) | (with_reducible refine Kd.C_drewN ?_ _) | (with_reducible refine Kd.C_drew ?_))); (case side2 => exact HC0.out); rintro e w' ⟨rfl, ⟨nd, rfl⟩⟩; (try first | exact ⟨rfl, _, World.drewN_drewN _ _ _⟩ | exact ⟨rfl, _, Eq.trans (World.drewN_drewN _ _ _) (congrArg (World.drewN _) (Nat.add_assoc _ _ _))⟩))))
    go_ret
    exact ⟨by first | rfl | (simp [errW_none, errW_some] <;> rfl) | (simp [*, errW_none, errW_some] <;> rfl), by repeat (first | (with_reducible first | exact HB.out | apply below_alloc | apply pw_below_drewN | apply below_drew1) | exact HB.out)⟩
  · replace c3 := Bool.eq_false_iff.mpr c3
    subst c3
    have H1 : ((spec_DrawMixDelays.f k l0).bind fun bt299 => ((impl_MixDelays.f k bt299.1 bt299.2).bind fun bt303 => ((spec_MixDelays.f k bt299.1 bt299.2).bind fun bt307 => ((spec_DrawNearestMix.f k l0).bind fun bt311 => ((impl_NearestMix.f k bt311.1 bt311.2).bind fun bt315 => ((spec_NearestMix.f k bt311.1 bt311.2).bind fun bt317 => (if bt303.2 = bt307.2 then ((laws_likeInts.f k bt303.1 bt307.1).bind fun t319 => (if t319 = true then (if bt315.2 = bt317.2 then (if bt315.1 = bt317.1 then ((impl_ArePieces.f k bt299.1).bind fun t320 => (laws_FnMixes.j0 k bt299.1 bt299.2 bt303.1 bt303.2 bt311.1 bt311.2 bt315.1 bt315.2 (t320 != (bt307.2 != 1)))) else (laws_FnMixes.j0 k bt299.1 bt299.2 bt303.1 bt303.2 bt311.1 bt311.2 bt315.1 bt315.2 true)) else (laws_FnMixes.j0 k bt299.1 bt299.2 bt303.1 bt303.2 bt311.1 bt311.2 bt315.1 bt315.2 true)) else (laws_FnMixes.j0 k bt299.1 bt299.2 bt303.1 bt303.2 bt311.1 bt311.2 bt315.1 bt315.2 true))) else (laws_FnMixes.j0 k bt299.1 bt299.2 bt303.1 bt303.2 bt311.1 bt311.2 bt315.1 bt315.2 true)))))))) = some r := by rw [if_neg (show ¬ (false = true) by decide)] at H; exact H
    clear H
    have H := H1
    clear H1
    replace H := Option.bind_eq_some_iff.mp H
    obtain ⟨⟨t299, t300⟩, A40, H⟩ := H
    replace H : ((impl_MixDelays.f k t299 t300).bind fun bt303 => ((spec_MixDelays.f k t299 t300).bind fun bt307 => ((spec_DrawNearestMix.f k l0).bind fun bt311 => ((impl_NearestMix.f k bt311.1 bt311.2).bind fun bt315 => ((spec_NearestMix.f k bt311.1 bt311.2).bind fun bt317 => (if bt303.2 = bt307.2 then ((laws_likeInts.f k bt303.1 bt307.1).bind fun t319 => (if t319 = true then (if bt315.2 = bt317.2 then (if bt315.1 = bt317.1 then ((impl_ArePieces.f k t299).bind fun t320 => (laws_FnMixes.j0 k t299 t300 bt303.1 bt303.2 bt311.1 bt311.2 bt315.1 bt315.2 (t320 != (bt307.2 != 1)))) else (laws_FnMixes.j0 k t299 t300 bt303.1 bt303.2 bt311.1 bt311.2 bt315.1 bt315.2 true)) else (laws_FnMixes.j0 k t299 t300 bt303.1 bt303.2 bt311.1 bt311.2 bt315.1 bt315.2 true)) else (laws_FnMixes.j0 k t299 t300 bt303.1 bt303.2 bt311.1 bt311.2 bt315.1 bt315.2 true))) else (laws_FnMixes.j0 k t299 t300 bt303.1 bt303.2 bt311.1 bt311.2 bt315.1 bt315.2 true))))))) = some r := H
    have A4 := Aside0.mk A40
    clear A40
    replace H := Option.bind_eq_some_iff.mp H
    obtain ⟨⟨t303, t304⟩, A50, H⟩ := H
    replace H : ((spec_MixDelays.f k t299 t300).bind fun bt307 => ((spec_DrawNearestMix.f k l0).bind fun bt311 => ((impl_NearestMix.f k bt311.1 bt311.2).bind fun bt315 => ((spec_NearestMix.f k bt311.1 bt311.2).bind fun bt317 => (if t304 = bt307.2 then ((laws_likeInts.f k t303 bt307.1).bind fun t319 => (if t319 = true then (if bt315.2 = bt317.2 then (if bt315.1 = bt317.1 then ((impl_ArePieces.f k t299).bind fun t320 => (laws_FnMixes.j0 k t299 t300 t303 t304 bt311.1 bt311.2 bt315.1 bt315.2 (t320 != (bt307.2 != 1)))) else (laws_FnMixes.j0 k t299 t300 t303 t304 bt311.1 bt311.2 bt315.1 bt315.2 true)) else (laws_FnMixes.j0 k t299 t300 t303 t304 bt311.1 bt311.2 bt315.1 bt315.2 true)) else (laws_FnMixes.j0 k t299 t300 t303 t304 bt311.1 bt311.2 bt315.1 bt315.2 true))) else (laws_FnMixes.j0 k t299 t300 t303 t304 bt311.1 bt311.2 bt315.1 bt315.2 true)))))) = some r := H
    have A5 := Aside0.mk A50
    clear A50
    replace H := Option.bind_eq_some_iff.mp H
    obtain ⟨⟨t307, t308⟩, A60, H⟩ := H
    replace H : ((spec_DrawNearestMix.f k l0).bind fun bt311 => ((impl_NearestMix.f k bt311.1 bt311.2).bind fun bt315 => ((spec_NearestMix.f k bt311.1 bt311.2).bind fun bt317 => (if t304 = t308 then ((laws_likeInts.f k t303 t307).bind fun t319 => (if t319 = true then (if bt315.2 = bt317.2 then (if bt315.1 = bt317.1 then ((impl_ArePieces.f k t299).bind fun t320 => (laws_FnMixes.j0 k t299 t300 t303 t304 bt311.1 bt311.2 bt315.1 bt315.2 (t320 != (t308 != 1)))) else (laws_FnMixes.j0 k t299 t300 t303 t304 bt311.1 bt311.2 bt315.1 bt315.2 true)) else (laws_FnMixes.j0 k t299 t300 t303 t304 bt311.1 bt311.2 bt315.1 bt315.2 true)) else (laws_FnMixes.j0 k t299 t300 t303 t304 bt311.1 bt311.2 bt315.1 bt315.2 true))) else (laws_FnMixes.j0 k t299 t300 t303 t304 bt311.1 bt311.2 bt315.1 bt315.2 true))))) = some r := H
    have A6 := Aside0.mk A60
    clear A60
    replace H := Option.bind_eq_some_iff.mp H
    obtain ⟨⟨t311, t312⟩, A70, H⟩ := H
    replace H : ((impl_NearestMix.f k t311 t312).bind fun bt315 => ((spec_NearestMix.f k t311 t312).bind fun bt317 => (if t304 = t308 then ((laws_likeInts.f k t303 t307).bind fun t319 => (if t319 = true then (if bt315.2 = bt317.2 then (if bt315.1 = bt317.1 then ((impl_ArePieces.f k t299).bind fun t320 => (laws_FnMixes.j0 k t299 t300 t303 t304 t311 t312 bt315.1 bt315.2 (t320 != (t308 != 1)))) else (laws_FnMixes.j0 k t299 t300 t303 t304 t311 t312 bt315.1 bt315.2 true)) else (laws_FnMixes.j0 k t299 t300 t303 t304 t311 t312 bt315.1 bt315.2 true)) else (laws_FnMixes.j0 k t299 t300 t303 t304 t311 t312 bt315.1 bt315.2 true))) else (laws_FnMixes.j0 k t299 t300 t303 t304 t311 t312 bt315.1 bt315.2 true)))) = some r := H
    have A7 := Aside0.mk A70
    clear A70
    replace H := Option.bind_eq_some_iff.mp H
    obtain ⟨⟨t315, t316⟩, A80, H⟩ := H
    replace H : ((spec_NearestMix.f k t311 t312).bind fun bt317 => (if t304 = t308 then ((laws_likeInts.f k t303 t307).bind fun t319 => (if t319 = true then (if t316 = bt317.2 then (if t315 = bt317.1 then ((impl_ArePieces.f k t299).bind fun t320 => (laws_FnMixes.j0 k t299 t300 t303 t304 t311 t312 t315 t316 (t320 != (t308 != 1)))) else (laws_FnMixes.j0 k t299 t300 t303 t304 t311 t312 t315 t316 true)) else (laws_FnMixes.j0 k t299 t300 t303 t304 t311 t312 t315 t316 true)) else (laws_FnMixes.j0 k t299 t300 t303 t304 t311 t312 t315 t316 true))) else (laws_FnMixes.j0 k t299 t300 t303 t304 t311 t312 t315 t316 true))) = some r := H
    have A8 := Aside0.mk A80
    clear A80
    replace H := Option.bind_eq_some_iff.mp H
    obtain ⟨⟨t317, t318⟩, A90, H⟩ := H
    replace H : (if t304 = t308 then ((laws_likeInts.f k t303 t307).bind fun t319 => (if t319 = true then (if t316 = t318 then (if t315 = t317 then ((impl_ArePieces.f k t299).bind fun t320 => (laws_FnMixes.j0 k t299 t300 t303 t304 t311 t312 t315 t316 (t320 != (t308 != 1)))) else (laws_FnMixes.j0 k t299 t300 t303 t304 t311 t312 t315 t316 true)) else (laws_FnMixes.j0 k t299 t300 t303 t304 t311 t312 t315 t316 true)) else (laws_FnMixes.j0 k t299 t300 t303 t304 t311 t312 t315 t316 true))) else (laws_FnMixes.j0 k t299 t300 t303 t304 t311 t312 t315 t316 true)) = some r := H
    have A9 := Aside0.mk A90
    clear A90
    have HC10 := Aside0.mk H
    clear H
    go_enter Try.func12, Try.ntmps12
    go_upto_region 9 with (first | (go_at_call 37; (with_reducible refine (laws_big.calls _ _ l0 false _ ?side1 ?side2 A2.out).mono ?_); (case side1 => repeat (first | exact HR0.out | (with_reducible refine Kd.C_alloc ?_ _) | (with_reducible refine Kd.C_drewN ?_ _) | (with_reducible refine Kd.C_drew ?_))); (case side2 => exact HC0.out); rintro e w' ⟨rfl, ⟨nd, rfl⟩⟩; (try first | exact ⟨rfl, _, World.drewN_drewN _ _ _⟩ | exact ⟨rfl, _, Eq.trans (World.drewN_drewN _ _ _) (congrArg (World.drewN _) (Nat.add_assoc _ _ _))⟩)) | (go_at_call 67; (with_reducible refine (spec_DrawMixDelays.calls k _ _ l0 t299 t300 _ ?side1 ?side2 A4.out).mono ?_); (case side1 => repeat (first | exact HR0.out | (with_reducible refine Kd.C_alloc ?_ _) | (with_reducible refine Kd.C_drewN ?_ _) | (with_reducible refine Kd.C_drew ?_))); (case side2 => exact HC0.out); rintro e w11 ⟨v301, rfl, ho0, hb⟩; have n0_ := Aside0.mk (Kd.R_lower ho0 (below_size (by repeat (first | (with_reducible first | exact HB.out | apply below_alloc | apply pw_below_drewN | apply below_drew1) | exact HB.out)))); have n1_ := Aside0.mk (below_step (by repeat (first | (with_reducible first | exact HB.out | apply below_alloc | apply pw_below_drewN | apply below_drew1) | exact HB.out)) hb); clear HB; have HO302 := n0_; have HB := n1_; clear n0_ n1_; (try clear hb); (try clear hb2); (try clear hk); (try clear hi); (try clear ho0); obtain ⟨Ao12, co12, eo12⟩ := Kd.R_slice HO302.out; subst eo12) | (go_at_call 42; (with_reducible refine (impl_MixDelays.calls k _ _ t299 t300 t303 t304 _ ?side1 ?side2 A5.out).mono ?_); (case side1 => repeat (first | exact (Kd.R_reads' HO302.out).2.2 | (with_reducible refine Kd.C_alloc ?_ _) | (with_reducible refine Kd.C_drewN ?_ _) | (with_reducible refine Kd.C_drew ?_))); (case side2 => exact (Kd.R_reads' HO302.out).2.1); rintro e w13 ⟨v305, rfl, ho0, hb⟩; have n0_ := Aside0.mk (Kd.R_elder' (by (with_reducible repeat (first | apply Kd.R_alloc | apply Kd.R_drewN | apply Kd.R_drew)); exact HO302.out) (Kd.R_base ho0) hb); have n1_ := Aside0.mk (Kd.R_lower (Kd.R_new' ho0 (Kd.R_lt (by (with_reducible repeat (first | apply Kd.R_alloc | apply Kd.R_drewN | apply Kd.R_drew)); exact HO302.out))) (below_size (by repeat (first | (with_reducible first | exact HB.out | apply below_alloc | apply pw_below_drewN | apply below_drew1) | exact HB.out)))); have n2_ := Aside0.mk (below_step (by repeat (first | (with_reducible first | exact HB.out | apply below_alloc | apply pw_below_drewN | apply below_drew1) | exact HB.out)) hb); clear HO302; clear HB; have HO302 := n0_; have HO306 := n1_; have HB := n2_; clear n0_ n1_ n2_; (try clear hb); (try clear hb2); (try clear hk); (try clear hi); (try clear ho0)) | (go_at_call 68; (with_reducible refine (spec_MixDelays.calls k _ _ t299 t300 t307 t308 _ ?side1 ?side2 A6.out).mono ?_); (case side1 => repeat (first | exact (Kd.R_reads' HO302.out).2.2 | (with_reducible refine Kd.C_alloc ?_ _) | (with_reducible refine Kd.C_drewN ?_ _) | (with_reducible refine Kd.C_drew ?_))); (case side2 => exact (Kd.R_reads' HO302.out).2.1); rintro e w14 ⟨v309, rfl, ho0, hb⟩; have n0_ := Aside0.mk (Kd.R_elder' (by (with_reducible repeat (first | apply Kd.R_alloc | apply Kd.R_drewN | apply Kd.R_drew)); exact HO302.out) (Kd.R_base ho0) hb); have n1_ := Aside0.mk (Kd.R_elder' (by (with_reducible repeat (first | apply Kd.R_alloc | apply Kd.R_drewN | apply Kd.R_drew)); exact HO306.out) (Kd.R_base ho0) hb); have n2_ := Aside0.mk (Kd.R_lower (Kd.R_new' (Kd.R_new' ho0 (Kd.R_lt (by (with_reducible repeat (first | apply Kd.R_alloc | apply Kd.R_drewN | apply Kd.R_drew)); exact HO302.out))) (Kd.R_lt (by (with_reducible repeat (first | apply Kd.R_alloc | apply Kd.R_drewN | apply Kd.R_drew)); exact HO306.out))) (below_size (by repeat (first | (with_reducible first | exact HB.out | apply below_alloc | apply pw_below_drewN | apply below_drew1) | exact HB.out)))); have n3_ := Aside0.mk (below_step (by repeat (first | (with_reducible first | exact HB.out | apply below_alloc | apply pw_below_drewN | apply below_drew1) | exact HB.out)) hb); clear HO302; clear HO306; clear HB; have HO302 := n0_; have HO306 := n1_; have HO310 := n2_; have HB := n3_; clear n0_ n1_ n2_ n3_; (try clear hb); (try clear hb2); (try clear hk); (try clear hi); (try clear ho0)) | (go_at_call 69; (with_reducible refine (spec_DrawNearestMix.calls k _ _ l0 t311 t312 _ ?side1 ?side2 A7.out).mono ?_); (case side1 => repeat (first | exact (Kd.C_below HR0.out HB.out) | (with_reducible refine Kd.C_alloc ?_ _) | (with_reducible refine Kd.C_drewN ?_ _) | (with_reducible refine Kd.C_drew ?_))); (case side2 => exact HC0.out); rintro e w15 ⟨v313, rfl, ho0, hb⟩; have n0_ := Aside0.mk (Kd.R_elder' (by (with_reducible repeat (first | apply Kd.R_alloc | apply Kd.R_drewN | apply Kd.R_drew)); exact HO302.out) (Kd.R_base ho0) hb); have n1_ := Aside0.mk (Kd.R_elder' (by (with_reducible repeat (first | apply Kd.R_alloc | apply Kd.R_drewN | apply Kd.R_drew)); exact HO306.out) (Kd.R_base ho0) hb); have n2_ := Aside0.mk (Kd.R_elder' (by (with_reducible repeat (first | apply Kd.R_alloc | apply Kd.R_drewN | apply Kd.R_drew)); exact HO310.out) (Kd.R_base ho0) hb); have n3_ := Aside0.mk (Kd.R_lower (Kd.R_new' (Kd.R_new' (Kd.R_new' ho0 (Kd.R_lt (by (with_reducible repeat (first | apply Kd.R_alloc | apply Kd.R_drewN | apply Kd.R_drew)); exact HO302.out))) (Kd.R_lt (by (with_reducible repeat (first | apply Kd.R_alloc | apply Kd.R_drewN | apply Kd.R_drew)); exact HO306.out))) (Kd.R_lt (by (with_reducible repeat (first | apply Kd.R_alloc | apply Kd.R_drewN | apply Kd.R_drew)); exact HO310.out))) (below_size (by repeat (first | (with_reducible first | exact HB.out | apply below_alloc | apply pw_below_drewN | apply below_drew1) | exact HB.out)))); have n4_ := Aside0.mk (below_step (by repeat (first | (with_reducible first | exact HB.out | apply below_alloc | apply pw_below_drewN | apply below_drew1) | exact HB.out)) hb); clear HO302; clear HO306; clear HO310; clear HB; have HO302 := n0_; have HO306 := n1_; have HO310 := n2_; have HO314 := n3_; have HB := n4_; clear n0_ n1_ n2_ n3_ n4_; (try clear hb); (try clear hb2); (try clear hk); (try clear hi); (try clear ho0); obtain ⟨Ao16, co16, eo16⟩ := Kd.R_slice HO314.out; subst eo16) | (go_at_call 70; (with_reducible refine (impl_NearestMix.calls k _ _ t311 t312 t315 t316 _ ?side1 ?side2 A8.out).mono ?_); (case side1 => repeat (first | exact (Kd.R_reads' HO314.out).2.2 | (with_reducible refine Kd.C_alloc ?_ _) | (with_reducible refine Kd.C_drewN ?_ _) | (with_reducible refine Kd.C_drew ?_))); (case side2 => exact (Kd.R_reads' HO314.out).2.1); rintro e w17 ⟨rfl, hb⟩; have n0_ := Aside0.mk (Kd.R_below (by (with_reducible repeat (first | apply Kd.R_alloc | apply Kd.R_drewN | apply Kd.R_drew)); exact HO302.out) hb); have n1_ := Aside0.mk (Kd.R_below (by (with_reducible repeat (first | apply Kd.R_alloc | apply Kd.R_drewN | apply Kd.R_drew)); exact HO306.out) hb); have n2_ := Aside0.mk (Kd.R_below (by (with_reducible repeat (first | apply Kd.R_alloc | apply Kd.R_drewN | apply Kd.R_drew)); exact HO310.out) hb); have n3_ := Aside0.mk (Kd.R_below (by (with_reducible repeat (first | apply Kd.R_alloc | apply Kd.R_drewN | apply Kd.R_drew)); exact HO314.out) hb); have n4_ := Aside0.mk (below_step (by repeat (first | (with_reducible first | exact HB.out | apply below_alloc | apply pw_below_drewN | apply below_drew1) | exact HB.out)) hb); clear HO302; clear HO306; clear HO310; clear HO314; clear HB; have HO302 := n0_; have HO306 := n1_; have HO310 := n2_; have HO314 := n3_; have HB := n4_; clear n0_ n1_ n2_ n3_ n4_; (try clear hb); (try clear hb2); (try clear hk); (try clear hi)) | (go_at_call 71; (with_reducible refine (spec_NearestMix.calls k _ _ t311 t312 t317 t318 _ ?side1 ?side2 A9.out).mono ?_); (case side1 => repeat (first | exact (Kd.R_reads' HO314.out).2.2 | (with_reducible refine Kd.C_alloc ?_ _) | (with_reducible refine Kd.C_drewN ?_ _) | (with_reducible refine Kd.C_drew ?_))); (case side2 => exact (Kd.R_reads' HO314.out).2.1); rintro e w18 ⟨rfl, hb⟩; have n0_ := Aside0.mk (Kd.R_below (by (with_reducible repeat (first | apply Kd.R_alloc | apply Kd.R_drewN | apply Kd.R_drew)); exact HO302.out) hb); have n1_ := Aside0.mk (Kd.R_below (by (with_reducible repeat (first | apply Kd.R_alloc | apply Kd.R_drewN | apply Kd.R_drew)); exact HO306.out) hb); have n2_ := Aside0.mk (Kd.R_below (by (with_reducible repeat (first | apply Kd.R_alloc | apply Kd.R_drewN | apply Kd.R_drew)); exact HO310.out) hb); have n3_ := Aside0.mk (Kd.R_below (by (with_reducible repeat (first | apply Kd.R_alloc | apply Kd.R_drewN | apply Kd.R_drew)); exact HO314.out) hb); have n4_ := Aside0.mk (below_step (by repeat (first | (with_reducible first | exact HB.out | apply below_alloc | apply pw_below_drewN | apply below_drew1) | exact HB.out)) hb); clear HO302; clear HO306; clear HO310; clear HO314; clear HB; have HO302 := n0_; have HO306 := n1_; have HO310 := n2_; have HO314 := n3_; have HB := n4_; clear n0_ n1_ n2_ n3_ n4_; (try clear hb); (try clear hb2); (try clear hk); (try clear hi)))
    repeat (go_quiet (first | (go_at_call 37; (with_reducible refine (laws_big.calls _ _ l0 false _ ?side1 ?side2 A2.out).mono ?_); (case side1 => repeat (first | exact HR0.out | (with_reducible refine Kd.C_alloc ?_ _) | (with_reducible refine Kd.C_drewN ?_ _) | (with_reducible refine Kd.C_drew ?_))); (case side2 => exact HC0.out); rintro e w' ⟨rfl, ⟨nd, rfl⟩⟩; (try first | exact ⟨rfl, _, World.drewN_drewN _ _ _⟩ | exact ⟨rfl, _, Eq.trans (World.drewN_drewN _ _ _) (congrArg (World.drewN _) (Nat.add_assoc _ _ _))⟩)) | (go_at_call 67; (with_reducible refine (spec_DrawMixDelays.calls k _ _ l0 t299 t300 _ ?side1 ?side2 A4.out).mono ?_); (case side1 => repeat (first | exact HR0.out | (with_reducible refine Kd.C_alloc ?_ _) | (with_reducible refine Kd.C_drewN ?_ _) | (with_reducible refine Kd.C_drew ?_))); (case side2 => exact HC0.out); rintro e w11 ⟨v301, rfl, ho0, hb⟩; have n0_ := Aside0.mk (Kd.R_lower ho0 (below_size (by repeat (first | (with_reducible first | exact HB.out | apply below_alloc | apply pw_below_drewN | apply below_drew1) | exact HB.out)))); have n1_ := Aside0.mk (below_step (by repeat (first | (with_reducible first | exact HB.out | apply below_alloc | apply pw_below_drewN | apply below_drew1) | exact HB.out)) hb); clear HB; have HO302 := n0_; have HB := n1_; clear n0_ n1_; (try clear hb); (try clear hb2); (try clear hk); (try clear hi); (try clear ho0); obtain ⟨Ao12, co12, eo12⟩ := Kd.R_slice HO302.out; subst eo12) | (go_at_call 42; (with_reducible refine (impl_MixDelays.calls k _ _ t299 t300 t303 t304 _ ?side1 ?side2 A5.out).mono ?_); (case side1 => repeat (first | exact (Kd.R_reads' HO302.out).2.2 | (with_reducible refine Kd.C_alloc ?_ _) | (with_reducible refine Kd.C_drewN ?_ _) | (with_reducible refine Kd.C_drew ?_))); (case side2 => exact (Kd.R_reads' HO302.out).2.1); rintro e w13 ⟨v305, rfl, ho0, hb⟩; have n0_ := Aside0.mk (Kd.R_elder' (by (with_reducible repeat (first | apply Kd.R_alloc | apply Kd.R_drewN | apply Kd.R_drew)); exact HO302.out) (Kd.R_base ho0) hb); have n1_ := Aside0.mk (Kd.R_lower (Kd.R_new' ho0 (Kd.R_lt (by (with_reducible repeat (first | apply Kd.R_alloc | apply Kd.R_drewN | apply Kd.R_drew)); exact HO302.out))) (below_size (by repeat (first | (with_reducible first | exact HB.out | apply below_alloc | apply pw_below_drewN | apply below_drew1) | exact HB.out)))); have n2_ := Aside0.mk (below_step (by repeat (first | (with_reducible first | exact HB.out | apply below_alloc | apply pw_below_drewN | apply below_drew1) | exact HB.out)) hb); clear HO302; clear HB; have HO302 := n0_; have HO306 := n1_; have HB := n2_; clear n0_ n1_ n2_; (try clear hb); (try clear hb2); (try clear hk); (try clear hi); (try clear ho0)) | (go_at_call 68; (with_reducible refine (spec_MixDelays.calls k _ _ t299 t300 t307 t308 _ ?side1 ?side2 A6.out).mono ?_); (case side1 => repeat (first | exact (Kd.R_reads' HO302.out).2.2 | (with_reducible refine Kd.C_alloc ?_ _) | (with_reducible refine Kd.C_drewN ?_ _) | (with_reducible refine Kd.C_drew ?_))); (case side2 => exact (Kd.R_reads' HO302.out).2.1); rintro e w14 ⟨v309, rfl, ho0, hb⟩; have n0_ := Aside0.mk (Kd.R_elder' (by (with_reducible repeat (first | apply Kd.R_alloc | apply Kd.R_drewN | apply Kd.R_drew)); exact HO302.out) (Kd.R_base ho0) hb); have n1_ := Aside0.mk (Kd.R_elder' (by (with_reducible repeat (first | apply Kd.R_alloc | apply Kd.R_drewN | apply Kd.R_drew)); exact HO306.out) (Kd.R_base ho0) hb); have n2_ := Aside0.mk (Kd.R_lower (Kd.R_new' (Kd.R_new' ho0 (Kd.R_lt (by (with_reducible repeat (first | apply Kd.R_alloc | apply Kd.R_drewN | apply Kd.R_drew)); exact HO302.out))) (Kd.R_lt (by (with_reducible repeat (first | apply Kd.R_alloc | apply Kd.R_drewN | apply Kd.R_drew)); exact HO306.out))) (below_size (by repeat (first | (with_reducible first | exact HB.out | apply below_alloc | apply pw_below_drewN | apply below_drew1) | exact HB.out)))); have n3_ := Aside0.mk (below_step (by repeat (first | (with_reducible first | exact HB.out | apply below_alloc | apply pw_below_drewN | apply below_drew1) | exact HB.out)) hb); clear HO302; clear HO306; clear HB; have HO302 := n0_; have HO306 := n1_; have HO310 := n2_; have HB := n3_; clear n0_ n1_ n2_ n3_; (try clear hb); (try clear hb2); (try clear hk); (try clear hi); (try clear ho0)) | (go_at_call 69; (with_reducible refine (spec_DrawNearestMix.calls k _ _ l0 t311 t312 _ ?side1 ?side2 A7.out).mono ?_); (case side1 => repeat (first | exact (Kd.C_below HR0.out HB.out) | (with_reducible refine Kd.C_alloc ?_ _) | (with_reducible refine Kd.C_drewN ?_ _) | (with_reducible refine Kd.C_drew ?_))); (case side2 => exact HC0.out); rintro e w15 ⟨v313, rfl, ho0, hb⟩; have n0_ := Aside0.mk (Kd.R_elder' (by (with_reducible repeat (first | apply Kd.R_alloc | apply Kd.R_drewN | apply Kd.R_drew)); exact HO302.out) (Kd.R_base ho0) hb); have n1_ := Aside0.mk (Kd.R_elder' (by (with_reducible repeat (first | apply Kd.R_alloc | apply Kd.R_drewN | apply Kd.R_drew)); exact HO306.out) (Kd.R_base ho0) hb); have n2_ := Aside0.mk (Kd.R_elder' (by (with_reducible repeat (first | apply Kd.R_alloc | apply Kd.R_drewN | apply Kd.R_drew)); exact HO310.out) (Kd.R_base ho0) hb); have n3_ := Aside0.mk (Kd.R_lower (Kd.R_new' (Kd.R_new' (Kd.R_new' ho0 (Kd.R_lt (by (with_reducible repeat (first | apply Kd.R_alloc | apply Kd.R_drewN | apply Kd.R_drew)); exact HO302.out))) (Kd.R_lt (by (with_reducible repeat (first | apply Kd.R_alloc | apply Kd.R_drewN | apply Kd.R_drew)); exact HO306.out))) (Kd.R_lt (by (with_reducible repeat (first | apply Kd.R_alloc | apply Kd.R_drewN | apply Kd.R_drew)); exact HO310.out))) (below_size (by repeat (first | (with_reducible first | exact HB.out | apply below_alloc | apply pw_below_drewN | apply below_drew1) | exact HB.out)))); have n4_ := Aside0.mk (below_step (by repeat (first | (with_reducible first | exact HB.out | apply below_alloc | apply pw_below_drewN | apply below_drew1) | exact HB.out)) hb); clear HO302; clear HO306; clear HO310; clear HB; have HO302 := n0_; have HO306 := n1_; have HO310 := n2_; have HO314 := n3_; have HB := n4_; clear n0_ n1_ n2_ n3_ n4_; (try clear hb); (try clear hb2); (try clear hk); (try clear hi); (try clear ho0); obtain ⟨Ao16, co16, eo16⟩ := Kd.R_slice HO314.out; subst eo16) | (go_at_call 70; (with_reducible refine (impl_NearestMix.calls k _ _ t311 t312 t315 t316 _ ?side1 ?side2 A8.out).mono ?_); (case side1 => repeat (first | exact (Kd.R_reads' HO314.out).2.2 | (with_reducible refine Kd.C_alloc ?_ _) | (with_reducible refine Kd.C_drewN ?_ _) | (with_reducible refine Kd.C_drew ?_))); (case side2 => exact (Kd.R_reads' HO314.out).2.1); rintro e w17 ⟨rfl, hb⟩; have n0_ := Aside0.mk (Kd.R_below (by (with_reducible repeat (first | apply Kd.R_alloc | apply Kd.R_drewN | apply Kd.R_drew)); exact HO302.out) hb); have n1_ := Aside0.mk (Kd.R_below (by (with_reducible repeat (first | apply Kd.R_alloc | apply Kd.R_drewN | apply Kd.R_drew)); exact HO306.out) hb); have n2_ := Aside0.mk (Kd.R_below (by (with_reducible repeat (first | apply Kd.R_alloc | apply Kd.R_drewN | apply Kd.R_drew)); exact HO310.out) hb); have n3_ := Aside0.mk (Kd.R_below (by (with_reducible repeat (first | apply Kd.R_alloc | apply Kd.R_drewN | apply Kd.R_drew)); exact HO314.out) hb); have n4_ := Aside0.mk (below_step (by repeat (first | (with_reducible first | exact HB.out | apply below_alloc | apply pw_below_drewN | apply below_drew1) | exact HB.out)) hb); clear HO302; clear HO306; clear HO310; clear HO314; clear HB; have HO302 := n0_; have HO306 := n1_; have HO310 := n2_; have HO314 := n3_; have HB := n4_; clear n0_ n1_ n2_ n3_ n4_; (try clear hb); (try clear hb2); (try clear hk); (try clear hi)) | (go_at_call 71; (with_reducible refine (spec_NearestMix.calls k _ _ t311 t312 t317 t318 _ ?side1 ?side2 A9.out).mono ?_); (case side1 => repeat (first | exact (Kd.R_reads' HO314.out).2.2 | (with_reducible refine Kd.C_alloc ?_ _) | (with_reducible refine Kd.C_drewN ?_ _) | (with_reducible refine Kd.C_drew ?_))); (case side2 => exact (Kd.R_reads' HO314.out).2.1); rintro e w18 ⟨rfl, hb⟩; have n0_ := Aside0.mk (Kd.R_below (by (with_reducible repeat (first | apply Kd.R_alloc | apply Kd.R_drewN | apply Kd.R_drew)); exact HO302.out) hb); have n1_ := Aside0.mk (Kd.R_below (by (with_reducible repeat (first | apply Kd.R_alloc | apply Kd.R_drewN | apply Kd.R_drew)); exact HO306.out) hb); have n2_ := Aside0.mk (Kd.R_below (by (with_reducible repeat (first | apply Kd.R_alloc | apply Kd.R_drewN | apply Kd.R_drew)); exact HO310.out) hb); have n3_ := Aside0.mk (Kd.R_below (by (with_reducible repeat (first | apply Kd.R_alloc | apply Kd.R_drewN | apply Kd.R_drew)); exact HO314.out) hb); have n4_ := Aside0.mk (below_step (by repeat (first | (with_reducible first | exact HB.out | apply below_alloc | apply pw_below_drewN | apply below_drew1) | exact HB.out)) hb); clear HO302; clear HO306; clear HO310; clear HO314; clear HB; have HO302 := n0_; have HO306 := n1_; have HO310 := n2_; have HO314 := n3_; have HB := n4_; clear n0_ n1_ n2_ n3_ n4_; (try clear hb); (try clear hb2); (try clear hk); (try clear hi))); go_upto_region 9 with (first | (go_at_call 37; (with_reducible refine (laws_big.calls _ _ l0 false _ ?side1 ?side2 A2.out).mono ?_); (case side1 => repeat (first | exact HR0.out | (with_reducible refine Kd.C_alloc ?_ _) | (with_reducible refine Kd.C_drewN ?_ _) | (with_reducible refine Kd.C_drew ?_))); (case side2 => exact HC0.out); rintro e w' ⟨rfl, ⟨nd, rfl⟩⟩; (try first | exact ⟨rfl, _, World.drewN_drewN _ _ _⟩ | exact ⟨rfl, _, Eq.trans (World.drewN_drewN _ _ _) (congrArg (World.drewN _) (Nat.add_assoc _ _ _))⟩)) | (go_at_call 67; (with_reducible refine (spec_DrawMixDelays.calls k _ _ l0 t299 t300 _ ?side1 ?side2 A4.out).mono ?_); (case side1 => repeat (first | exact HR0.out | (with_reducible refine Kd.C_alloc ?_ _) | (with_reducible refine Kd.C_drewN ?_ _) | (with_reducible refine Kd.C_drew ?_))); (case side2 => exact HC0.out); rintro e w11 ⟨v301, rfl, ho0, hb⟩; have n0_ := Aside0.mk (Kd.R_lower ho0 (below_size (by repeat (first | (with_reducible first | exact HB.out | apply below_alloc | apply pw_below_drewN | apply below_drew1) | exact HB.out)))); have n1_ := Aside0.mk (below_step (by repeat (first | (with_reducible first | exact HB.out | apply below_alloc | apply pw_below_drewN | apply below_drew1) | exact HB.out)) hb); clear HB; have HO302 := n0_; have HB := n1_; clear n0_ n1_; (try clear hb); (try clear hb2); (try clear hk); (try clear hi); (try clear ho0); obtain ⟨Ao12, co12, eo12⟩ := Kd.R_slice HO302.out; subst eo12) | (go_at_call 42; (with_reducible refine (impl_MixDelays.calls k _ _ t299 t300 t303 t304 _ ?side1 ?side2 A5.out).mono ?_); (case side1 => repeat (first | exact (Kd.R_reads' HO302.out).2.2 | (with_reducible refine Kd.C_alloc ?_ _) | (with_reducible refine Kd.C_drewN ?_ _) | (with_reducible refine Kd.C_drew ?_))); (case side2 => exact (Kd.R_reads' HO302.out).2.1); rintro e w13 ⟨v305, rfl, ho0, hb⟩; have n0_ := Aside0.mk (Kd.R_elder' (by (with_reducible repeat (first | apply Kd.R_alloc | apply Kd.R_drewN | apply Kd.R_drew)); exact HO302.out) (Kd.R_base ho0) hb); have n1_ := Aside0.mk (Kd.R_lower (Kd.R_new' ho0 (Kd.R_lt (by (with_reducible repeat (first | apply Kd.R_alloc | apply Kd.R_drewN | apply Kd.R_drew)); exact HO302.out))) (below_size (by repeat (first | (with_reducible first | exact HB.out | apply below_alloc | apply pw_below_drewN | apply below_drew1) | exact HB.out)))); have n2_ := Aside0.mk (below_step (by repeat (first | (with_reducible first | exact HB.out | apply below_alloc | apply pw_below_drewN | apply below_drew1) | exact HB.out)) hb); clear HO302; clear HB; have HO302 := n0_; have HO306 := n1_; have HB := n2_; clear n0_ n1_ n2_; (try clear hb); (try clear hb2); (try clear hk); (try clear hi); (try clear ho0)) | (go_at_call 68; (with_reducible refine (spec_MixDelays.calls k _ _ t299 t300 t307 t308 _ ?side1 ?side2 A6.out).mono ?_); (case side1 => repeat (first | exact (Kd.R_reads' HO302.out).2.2 | (with_reducible refine Kd.C_alloc ?_ _) | (with_reducible refine Kd.C_drewN ?_ _) | (with_reducible refine Kd.C_drew ?_))); (case side2 => exact (Kd.R_reads' HO302.out).2.1); rintro e w14 ⟨v309, rfl, ho0, hb⟩; have n0_ := Aside0.mk (Kd.R_elder' (by (with_reducible repeat (first | apply Kd.R_alloc | apply Kd.R_drewN | apply Kd.R_drew)); exact HO302.out) (Kd.R_base ho0) hb); have n1_ := Aside0.mk (Kd.R_elder' (by (with_reducible repeat (first | apply Kd.R_alloc | apply Kd.R_drewN | apply Kd.R_drew)); exact HO306.out) (Kd.R_base ho0) hb); have n2_ := Aside0.mk (Kd.R_lower (Kd.R_new' (Kd.R_new' ho0 (Kd.R_lt (by (with_reducible repeat (first | apply Kd.R_alloc | apply Kd.R_drewN | apply Kd.R_drew)); exact HO302.out))) (Kd.R_lt (by (with_reducible repeat (first | apply Kd.R_alloc | apply Kd.R_drewN | apply Kd.R_drew)); exact HO306.out))) (below_size (by repeat (first | (with_reducible first | exact HB.out | apply below_alloc | apply pw_below_drewN | apply below_drew1) | exact HB.out)))); have n3_ := Aside0.mk (below_step (by repeat (first | (with_reducible first | exact HB.out | apply below_alloc | apply pw_below_drewN | apply below_drew1) | exact HB.out)) hb); clear HO302; clear HO306; clear HB; have HO302 := n0_; have HO306 := n1_; have HO310 := n2_; have HB := n3_; clear n0_ n1_ n2_ n3_; (try clear hb); (try clear hb2); (try clear hk); (try clear hi); (try clear ho0)) | (go_at_call 69; (with_reducible refine (spec_DrawNearestMix.calls k _ _ l0 t311 t312 _ ?side1 ?side2 A7.out).mono ?_); (case side1 => repeat (first | exact (Kd.C_below HR0.out HB.out) | (with_reducible refine Kd.C_alloc ?_ _) | (with_reducible refine Kd.C_drewN ?_ _) | (with_reducible refine Kd.C_drew ?_))); (case side2 => exact HC0.out); rintro e w15 ⟨v313, rfl, ho0, hb⟩; have n0_ := Aside0.mk (Kd.R_elder' (by (with_reducible repeat (first | apply Kd.R_alloc | apply Kd.R_drewN | apply Kd.R_drew)); exact HO302.out) (Kd.R_base ho0) hb); have n1_ := Aside0.mk (Kd.R_elder' (by (with_reducible repeat (first | apply Kd.R_alloc | apply Kd.R_drewN | apply Kd.R_drew)); exact HO306.out) (Kd.R_base ho0) hb); have n2_ := Aside0.mk (Kd.R_elder' (by (with_reducible repeat (first | apply Kd.R_alloc | apply Kd.R_drewN | apply Kd.R_drew)); exact HO310.out) (Kd.R_base ho0) hb); have n3_ := Aside0.mk (Kd.R_lower (Kd.R_new' (Kd.R_new' (Kd.R_new' ho0 (Kd.R_lt (by (with_reducible repeat (first | apply Kd.R_alloc | apply Kd.R_drewN | apply Kd.R_drew)); exact HO302.out))) (Kd.R_lt (by (with_reducible repeat (first | apply Kd.R_alloc | apply Kd.R_drewN | apply Kd.R_drew)); exact HO306.out))) (Kd.R_lt (by (with_reducible repeat (first | apply Kd.R_alloc | apply Kd.R_drewN | apply Kd.R_drew)); exact HO310.out))) (below_size (by repeat (first | (with_reducible first | exact HB.out | apply below_alloc | apply pw_below_drewN | apply below_drew1) | exact HB.out)))); have n4_ := Aside0.mk (below_step (by repeat (first | (with_reducible first | exact HB.out | apply below_alloc | apply pw_below_drewN | apply below_drew1) | exact HB.out)) hb); clear HO302; clear HO306; clear HO310; clear HB; have HO302 := n0_; have HO306 := n1_; have HO310 := n2_; have HO314 := n3_; have HB := n4_; clear n0_ n1_ n2_ n3_ n4_; (try clear hb); (try clear hb2); (try clear hk); (try clear hi); (try clear ho0); obtain ⟨Ao16, co16, eo16⟩ := Kd.R_slice HO314.out; subst eo16) | (go_at_call 70; (with_reducible refine (impl_NearestMix.calls k _ _ t311 t312 t315 t316 _ ?side1 ?side2 A8.out).mono ?_); (case side1 => repeat (first | exact (Kd.R_reads' HO314.out).2.2 | (with_reducible refine Kd.C_alloc ?_ _) | (with_reducible refine Kd.C_drewN ?_ _) | (with_reducible refine Kd.C_drew ?_))); (case side2 => exact (Kd.R_reads' HO314.out).2.1); rintro e w17 ⟨rfl, hb⟩; have n0_ := Aside0.mk (Kd.R_below (by (with_reducible repeat (first | apply Kd.R_alloc | apply Kd.R_drewN | apply Kd.R_drew)); exact HO302.out) hb); have n1_ := Aside0.mk (Kd.R_below (by (with_reducible repeat (first | apply Kd.R_alloc | apply Kd.R_drewN | apply Kd.R_drew)); exact HO306.out) hb); have n2_ := Aside0.mk (Kd.R_below (by (with_reducible repeat (first | apply Kd.R_alloc | apply Kd.R_drewN | apply Kd.R_drew)); exact HO310.out) hb); have n3_ := Aside0.mk (Kd.R_below (by (with_reducible repeat (first | apply Kd.R_alloc | apply Kd.R_drewN | apply Kd.R_drew)); exact HO314.out) hb); have n4_ := Aside0.mk (below_step (by repeat (first | (with_reducible first | exact HB.out | apply below_alloc | apply pw_below_drewN | apply below_drew1) | exact HB.out)) hb); clear HO302; clear HO306; clear HO310; clear HO314; clear HB; have HO302 := n0_; have HO306 := n1_; have HO310 := n2_; have HO314 := n3_; have HB := n4_; clear n0_ n1_ n2_ n3_ n4_; (try clear hb); (try clear hb2); (try clear hk); (try clear hi)) | (go_at_call 71; (with_reducible refine (spec_NearestMix.calls k _ _ t311 t312 t317 t318 _ ?side1 ?side2 A9.out).mono ?_); (case side1 => repeat (first | exact (Kd.R_reads' HO314.out).2.2 | (with_reducible refine Kd.C_alloc ?_ _) | (with_reducible refine Kd.C_drewN ?_ _) | (with_reducible refine Kd.C_drew ?_))); (case side2 => exact (Kd.R_reads' HO314.out).2.1); rintro e w18 ⟨rfl, hb⟩; have n0_ := Aside0.mk (Kd.R_below (by (with_reducible repeat (first | apply Kd.R_alloc | apply Kd.R_drewN | apply Kd.R_drew)); exact HO302.out) hb); have n1_ := Aside0.mk (Kd.R_below (by (with_reducible repeat (first | apply Kd.R_alloc | apply Kd.R_drewN | apply Kd.R_drew)); exact HO306.out) hb); have n2_ := Aside0.mk (Kd.R_below (by (with_reducible repeat (first | apply Kd.R_alloc | apply Kd.R_drewN | apply Kd.R_drew)); exact HO310.out) hb); have n3_ := Aside0.mk (Kd.R_below (by (with_reducible repeat (first | apply Kd.R_alloc | apply Kd.R_drewN | apply Kd.R_drew)); exact HO314.out) hb); have n4_ := Aside0.mk (below_step (by repeat (first | (with_reducible first | exact HB.out | apply below_alloc | apply pw_below_drewN | apply below_drew1) | exact HB.out)) hb); clear HO302; clear HO306; clear HO310; clear HO314; clear HB; have HO302 := n0_; have HO306 := n1_; have HO310 := n2_; have HO314 := n3_; have HB := n4_; clear n0_ n1_ n2_ n3_ n4_; (try clear hb); (try clear hb2); (try clear hk); (try clear hi))))
    (try simp only [Act.put, List.setIfInBounds_toArray, List.set_cons_zero, List.set_cons_succ])
    go_cut [85] (fun v85 wc => ∃ (kq : Nat) (x85_9 : Bool), v85 = .bool x85_9 ∧ Aside0 (laws_FnMixes.j0 kq t299 t300 t303 t304 t311 t312 t315 t316 x85_9 = some r) ∧ Aside0 (kq ≤ k) ∧ Aside0 (Kd.R (Kd.int .i64) 2 wc w.heap.size (fun k_ => some k_ ≠ (v305 : Value).ownBlock ∧ some k_ ≠ ((.slice Ao16 t311.length co16) : Value).ownBlock) (.slice Ao12 t299.length co12) t299) ∧ Aside0 (Kd.R (Kd.int .i64) 2 wc w.heap.size (fun k_ => some k_ ≠ ((.slice Ao12 t299.length co12) : Value).ownBlock ∧ some k_ ≠ ((.slice Ao16 t311.length co16) : Value).ownBlock) v305 t303) ∧ Aside0 (Kd.R (Kd.int .i64) 2 wc w.heap.size (fun k_ => some k_ ≠ ((.slice Ao12 t299.length co12) : Value).ownBlock ∧ some k_ ≠ (v305 : Value).ownBlock) (.slice Ao16 t311.length co16) t311) ∧ Aside0 (Below w.heap.size w wc))
    case first =>
      have H := HC10.out
      clear HC10
      by_cases c19 : t304 = t308
      · rw [if_pos c19] at H
        have c19b0 : (t304 == t308) = true := beq_iff_eq.mpr c19
        have c19b1 : (t304 != t308) = false := bne_eq_false_iff_eq.mpr c19
        clear c19
        (first | rw [c19b0] | (simp only [i64_w, i32_w]; rw [c19b0]) | skip)
        replace H := Option.bind_eq_some_iff.mp H
        obtain ⟨t319, A200, H⟩ := H
        replace H : (if t319 = true then (if t316 = t318 then (if t315 = t317 then ((impl_ArePieces.f k t299).bind fun t320 => (laws_FnMixes.j0 k t299 t300 t303 t304 t311 t312 t315 t316 (t320 != (t308 != 1)))) else (laws_FnMixes.j0 k t299 t300 t303 t304 t311 t312 t315 t316 true)) else (laws_FnMixes.j0 k t299 t300 t303 t304 t311 t312 t315 t316 true)) else (laws_FnMixes.j0 k t299 t300 t303 t304 t311 t312 t315 t316 true)) = some r := H
        have A20 := Aside0.mk A200
        clear A200
        by_cases c21 : t319 = true
        · subst c21
          have H1 : (if t316 = t318 then (if t315 = t317 then ((impl_ArePieces.f k t299).bind fun t320 => (laws_FnMixes.j0 k t299 t300 t303 t304 t311 t312 t315 t316 (t320 != (t308 != 1)))) else (laws_FnMixes.j0 k t299 t300 t303 t304 t311 t312 t315 t316 true)) else (laws_FnMixes.j0 k t299 t300 t303 t304 t311 t312 t315 t316 true)) = some r := by rw [if_pos rfl] at H; exact H
          clear H
          have H := H1
          clear H1
          by_cases c22 : t316 = t318
          · rw [if_pos c22] at H
            have c22b0 : (t316 == t318) = true := beq_iff_eq.mpr c22
            have c22b1 : (t316 != t318) = false := bne_eq_false_iff_eq.mpr c22
            clear c22
            by_cases c23 : t315 = t317
            · rw [if_pos c23] at H
              have c23b0 : (t315 == t317) = true := beq_iff_eq.mpr c23
              have c23b1 : (t315 != t317) = false := bne_eq_false_iff_eq.mpr c23
              clear c23
              replace H := Option.bind_eq_some_iff.mp H
              obtain ⟨t320, A240, H⟩ := H
              replace H : (laws_FnMixes.j0 k t299 t300 t303 t304 t311 t312 t315 t316 (t320 != (t308 != 1))) = some r := H
              have A24 := Aside0.mk A240
              clear A240
              have H' := Aside0.mk H
              clear H
              obtain ⟨Ao25, co25, eo25⟩ := Kd.R_slice HO306.out
              subst eo25
              obtain ⟨Ao26, co26, eo26⟩ := Kd.R_slice HO310.out
              subst eo26
              go_wp2_with (first | (go_at_call 41; (with_reducible refine (laws_likeInts.calls k _ _ t303 _ _ t307 true _ ?side1 ?side2 ?side3 ?side4 A20.out).mono ?_); (case side1 => repeat (first | exact (Kd.R_reads' HO306.out).2.2 | (with_reducible refine Kd.C_alloc ?_ _) | (with_reducible refine Kd.C_drewN ?_ _) | (with_reducible refine Kd.C_drew ?_))); (case side2 => exact (Kd.R_reads' HO306.out).2.1); (case side3 => repeat (first | exact (Kd.R_reads' HO310.out).2.2 | (with_reducible refine Kd.C_alloc ?_ _) | (with_reducible refine Kd.C_drewN ?_ _) | (with_reducible refine Kd.C_drew ?_))); (case side4 => exact (Kd.R_reads' HO310.out).2.1); rintro e w' ⟨rfl, ⟨nd, rfl⟩⟩; (try first | exact ⟨rfl, _, World.drewN_drewN _ _ _⟩ | exact ⟨rfl, _, Eq.trans (World.drewN_drewN _ _ _) (congrArg (World.drewN _) (Nat.add_assoc _ _ _))⟩)) | (go_at_call 72; (with_reducible refine (impl_ArePieces.calls k _ _ t299 t320 _ ?side1 ?side2 A24.out).mono ?_); (case side1 => repeat (first | exact (Kd.R_reads' HO302.out).2.2 | (with_reducible refine Kd.C_alloc ?_ _) | (with_reducible refine Kd.C_drewN ?_ _) | (with_reducible refine Kd.C_drew ?_))); (case side2 => exact (Kd.R_reads' HO302.out).2.1); rintro e w' ⟨rfl, ⟨nd, rfl⟩⟩; (try first | exact ⟨rfl, _, World.drewN_drewN _ _ _⟩ | exact ⟨rfl, _, Eq.trans (World.drewN_drewN _ _ _) (congrArg (World.drewN _) (Nat.add_assoc _ _ _))⟩)))
              repeat (go_quiet (first | (go_at_call 41; (with_reducible refine (laws_likeInts.calls k _ _ t303 _ _ t307 true _ ?side1 ?side2 ?side3 ?side4 A20.out).mono ?_); (case side1 => repeat (first | exact (Kd.R_reads' HO306.out).2.2 | (with_reducible refine Kd.C_alloc ?_ _) | (with_reducible refine Kd.C_drewN ?_ _) | (with_reducible refine Kd.C_drew ?_))); (case side2 => exact (Kd.R_reads' HO306.out).2.1); (case side3 => repeat (first | exact (Kd.R_reads' HO310.out).2.2 | (with_reducible refine Kd.C_alloc ?_ _) | (with_reducible refine Kd.C_drewN ?_ _) | (with_reducible refine Kd.C_drew ?_))); (case side4 => exact (Kd.R_reads' HO310.out).2.1); rintro e w' ⟨rfl, ⟨nd, rfl⟩⟩; (try first | exact ⟨rfl, _, World.drewN_drewN _ _ _⟩ | exact ⟨rfl, _, Eq.trans (World.drewN_drewN _ _ _) (congrArg (World.drewN _) (Nat.add_assoc _ _ _))⟩)) | (go_at_call 72; (with_reducible refine (impl_ArePieces.calls k _ _ t299 t320 _ ?side1 ?side2 A24.out).mono ?_); (case side1 => repeat (first | exact (Kd.R_reads' HO302.out).2.2 | (with_reducible refine Kd.C_alloc ?_ _) | (with_reducible refine Kd.C_drewN ?_ _) | (with_reducible refine Kd.C_drew ?_))); (case side2 => exact (Kd.R_reads' HO302.out).2.1); rintro e w' ⟨rfl, ⟨nd, rfl⟩⟩; (try first | exact ⟨rfl, _, World.drewN_drewN _ _ _⟩ | exact ⟨rfl, _, Eq.trans (World.drewN_drewN _ _ _) (congrArg (World.drewN _) (Nat.add_assoc _ _ _))⟩))); try go_wp2_with (first | (go_at_call 41; (with_reducible refine (laws_likeInts.calls k _ _ t303 _ _ t307 true _ ?side1 ?side2 ?side3 ?side4 A20.out).mono ?_); (case side1 => repeat (first | exact (Kd.R_reads' HO306.out).2.2 | (with_reducible refine Kd.C_alloc ?_ _) | (with_reducible refine Kd.C_drewN ?_ _) | (with_reducible refine Kd.C_drew ?_))); (case side2 => exact (Kd.R_reads' HO306.out).2.1); (case side3 => repeat (first | exact (Kd.R_reads' HO310.out).2.2 | (with_reducible refine Kd.C_alloc ?_ _) | (with_reducible refine Kd.C_drewN ?_ _) | (with_reducible refine Kd.C_drew ?_))); (case side4 => exact (Kd.R_reads' HO310.out).2.1); rintro e w' ⟨rfl, ⟨nd, rfl⟩⟩; (try first | exact ⟨rfl, _, World.drewN_drewN _ _ _⟩ | exact ⟨rfl, _, Eq.trans (World.drewN_drewN _ _ _) (congrArg (World.drewN _) (Nat.add_assoc _ _ _))⟩)) | (go_at_call 72; (with_reducible refine (impl_ArePieces.calls k _ _ t299 t320 _ ?side1 ?side2 A24.out).mono ?_); (case side1 => repeat (first | exact (Kd.R_reads' HO302.out).2.2 | (with_reducible refine Kd.C_alloc ?_ _) | (with_reducible refine Kd.C_drewN ?_ _) | (with_reducible refine Kd.C_drew ?_))); (case side2 => exact (Kd.R_reads' HO302.out).2.1); rintro e w' ⟨rfl, ⟨nd, rfl⟩⟩; (try first | exact ⟨rfl, _, World.drewN_drewN _ _ _⟩ | exact ⟨rfl, _, Eq.trans (World.drewN_drewN _ _ _) (congrArg (World.drewN _) (Nat.add_assoc _ _ _))⟩))))
              go_meet
              case rel => exact ⟨_, ((t320 != (t308 != 1))), (by first | rfl | (simp; done) | (simp [*]; done)), H', ⟨by first | omega | exact Nat.le_refl _⟩, ⟨by (with_reducible repeat (first | apply Kd.R_alloc | apply Kd.R_drewN | apply Kd.R_drew)); exact Kd.R_mono HO302.out (fun _ hk => ⟨hk.1.1.2, hk.2⟩)⟩, ⟨by (with_reducible repeat (first | apply Kd.R_alloc | apply Kd.R_drewN | apply Kd.R_drew)); exact Kd.R_mono HO306.out (fun _ hk => ⟨hk.1.1.2, hk.2⟩)⟩, ⟨by (with_reducible repeat (first | apply Kd.R_alloc | apply Kd.R_drewN | apply Kd.R_drew)); exact Kd.R_mono HO314.out (fun _ hk => ⟨hk.1.1.2, hk.1.2⟩)⟩, ⟨by repeat (first | (with_reducible first | exact HB.out | apply below_alloc | apply pw_below_drewN | apply below_drew1) | exact HB.out)⟩⟩
            · rw [if_neg c23] at H
              have c23b0 : (t315 == t317) = false := beq_eq_false_iff_ne.mpr c23
              have c23b1 : (t315 != t317) = true := bne_iff_ne.mpr c23
              exact absurd ((laws_FnMixes.j0_true H).trans hT) (by decide)
          · rw [if_neg c22] at H
            have c22b0 : (t316 == t318) = false := beq_eq_false_iff_ne.mpr c22
            have c22b1 : (t316 != t318) = true := bne_iff_ne.mpr c22
            exact absurd ((laws_FnMixes.j0_true H).trans hT) (by decide)
        · replace c21 := Bool.eq_false_iff.mpr c21
          subst c21
          have H1 : (laws_FnMixes.j0 k t299 t300 t303 t304 t311 t312 t315 t316 true) = some r := by rw [if_neg (show ¬ (false = true) by decide)] at H; exact H
          clear H
          have H := H1
          clear H1
          exact absurd ((laws_FnMixes.j0_true H).trans hT) (by decide)
      · rw [if_neg c19] at H
        have c19b0 : (t304 == t308) = false := beq_eq_false_iff_ne.mpr c19
        have c19b1 : (t304 != t308) = true := bne_iff_ne.mpr c19
        (first | rw [c19b0] | (simp only [i64_w, i32_w]; rw [c19b0]) | skip)
        exact absurd ((laws_FnMixes.j0_true H).trans hT) (by decide)
    case rest =>
      clear HC10
      try clear c1
      try clear c2
      try clear p2
      try clear c3
      try clear c12
      try clear c19
      try clear c19b0
      try clear c19b1
      try clear c21
      try clear c22
      try clear c22b0
      try clear c22b1
      try clear c23
      try clear c23b0
      try clear c23b1
      obtain ⟨kq, x85_9, rfl, HA, HJ9, HO_3, HO_5, HO_9, HB⟩ := hcut
      cases kq with
      | zero => exact absurd HA.out (by simp [laws_FnMixes.j0])
      | succ kj9 =>
        have H := HA.out
        clear HA
        simp only [laws_FnMixes.j0] at H
        by_cases c33 : x85_9 = true
        · subst c33
          have H1 : (some false) = some r := by rw [if_pos rfl] at H; exact H
          clear H
          have H := H1
          clear H1
          exact absurd ((Option.some.inj H).trans hT) (by decide)
        · replace c33 := Bool.eq_false_iff.mpr c33
          subst c33
          have H1 : (if t316 = 0 then ((impl_MixDelays.f kj9 t311 t315).bind fun bt321 => (if bt321.2 = 0 then (if t315 = t312 then (laws_FnMixes.j1 kj9 t299 t300 t303 t304) else ((impl_MixDelays.f kj9 t311 t312).bind fun bt325 => (if bt325.2 = 4 then (laws_FnMixes.j1 kj9 t299 t300 t303 t304) else (some false)))) else (some false))) else (laws_FnMixes.j1 kj9 t299 t300 t303 t304)) = some r := by rw [if_neg (show ¬ (false = true) by decide)] at H; exact H
          clear H
          have H := H1
          clear H1
          have HC34 := Aside0.mk H
          clear H
          go_upto_if 87 with (fail)
          repeat (go_quiet (fail); go_upto_if 87 with (fail))
          go_cut [] (fun wc => ∃ (kq : Nat), Aside0 (laws_FnMixes.j1 kq t299 t300 t303 t304 = some r) ∧ Aside0 (kq ≤ kj9) ∧ Aside0 (Kd.R (Kd.int .i64) 2 wc w.heap.size (fun k_ => some k_ ≠ (v305 : Value).ownBlock) (.slice Ao12 t299.length co12) t299) ∧ Aside0 (Kd.R (Kd.int .i64) 2 wc w.heap.size (fun k_ => some k_ ≠ ((.slice Ao12 t299.length co12) : Value).ownBlock) v305 t303) ∧ Aside0 (Below w.heap.size w wc))
          case first =>
            have H := HC34.out
            clear HC34
            by_cases c35 : t316 = 0
            · rw [if_pos c35] at H
              have c35b0 : (t316 == 0) = true := beq_iff_eq.mpr c35
              have c35b1 : (t316 != 0) = false := bne_eq_false_iff_eq.mpr c35
              clear c35
              (first | rw [c35b0] | (simp only [i64_w, i32_w]; rw [c35b0]) | skip)
              replace H := Option.bind_eq_some_iff.mp H
              obtain ⟨⟨t321, t322⟩, A360, H⟩ := H
              replace H : (if t322 = 0 then (if t315 = t312 then (laws_FnMixes.j1 kj9 t299 t300 t303 t304) else ((impl_MixDelays.f kj9 t311 t312).bind fun bt325 => (if bt325.2 = 4 then (laws_FnMixes.j1 kj9 t299 t300 t303 t304) else (some false)))) else (some false)) = some r := H
              have A36 := Aside0.mk A360
              clear A360
              by_cases c37 : t322 = 0
              · rw [if_pos c37] at H
                have c37b0 : (t322 == 0) = true := beq_iff_eq.mpr c37
                have c37b1 : (t322 != 0) = false := bne_eq_false_iff_eq.mpr c37
                clear c37
                by_cases c38 : t315 = t312
                · rw [if_pos c38] at H
                  have c38b0 : (t315 == t312) = true := beq_iff_eq.mpr c38
                  have c38b1 : (t315 != t312) = false := bne_eq_false_iff_eq.mpr c38
                  clear c38
                  have H' := Aside0.mk H
                  clear H
                  go_wp2_with (first | (go_at_call 42; (with_reducible refine (impl_MixDelays.calls kj9 _ _ t311 t315 t321 t322 _ ?side1 ?side2 A36.out).mono ?_); (case side1 => repeat (first | exact (Kd.R_reads' HO_9.out).2.2 | (with_reducible refine Kd.C_alloc ?_ _) | (with_reducible refine Kd.C_drewN ?_ _) | (with_reducible refine Kd.C_drew ?_))); (case side2 => exact (Kd.R_reads' HO_9.out).2.1); rintro e w39 ⟨v323, rfl, ho0, hb⟩; have n0_ := Aside0.mk (Kd.R_elder' (by (with_reducible repeat (first | apply Kd.R_alloc | apply Kd.R_drewN | apply Kd.R_drew)); exact HO_3.out) (Kd.R_base ho0) hb); have n1_ := Aside0.mk (Kd.R_elder' (by (with_reducible repeat (first | apply Kd.R_alloc | apply Kd.R_drewN | apply Kd.R_drew)); exact HO_5.out) (Kd.R_base ho0) hb); have n2_ := Aside0.mk (Kd.R_elder' (by (with_reducible repeat (first | apply Kd.R_alloc | apply Kd.R_drewN | apply Kd.R_drew)); exact HO_9.out) (Kd.R_base ho0) hb); have n3_ := Aside0.mk (Kd.R_lower (Kd.R_new' (Kd.R_new' (Kd.R_new' ho0 (Kd.R_lt (by (with_reducible repeat (first | apply Kd.R_alloc | apply Kd.R_drewN | apply Kd.R_drew)); exact HO_3.out))) (Kd.R_lt (by (with_reducible repeat (first | apply Kd.R_alloc | apply Kd.R_drewN | apply Kd.R_drew)); exact HO_5.out))) (Kd.R_lt (by (with_reducible repeat (first | apply Kd.R_alloc | apply Kd.R_drewN | apply Kd.R_drew)); exact HO_9.out))) (below_size (by repeat (first | (with_reducible first | exact HB.out | apply below_alloc | apply pw_below_drewN | apply below_drew1) | exact HB.out)))); have n4_ := Aside0.mk (below_step (by repeat (first | (with_reducible first | exact HB.out | apply below_alloc | apply pw_below_drewN | apply below_drew1) | exact HB.out)) hb); clear HO_3; clear HO_5; clear HO_9; clear HB; have HO_3 := n0_; have HO_5 := n1_; have HO_9 := n2_; have HO324 := n3_; have HB := n4_; clear n0_ n1_ n2_ n3_ n4_; (try clear hb); (try clear hb2); (try clear hk); (try clear hi); (try clear ho0)))
                  repeat (go_quiet (first | (go_at_call 42; (with_reducible refine (impl_MixDelays.calls kj9 _ _ t311 t315 t321 t322 _ ?side1 ?side2 A36.out).mono ?_); (case side1 => repeat (first | exact (Kd.R_reads' HO_9.out).2.2 | (with_reducible refine Kd.C_alloc ?_ _) | (with_reducible refine Kd.C_drewN ?_ _) | (with_reducible refine Kd.C_drew ?_))); (case side2 => exact (Kd.R_reads' HO_9.out).2.1); rintro e w39 ⟨v323, rfl, ho0, hb⟩; have n0_ := Aside0.mk (Kd.R_elder' (by (with_reducible repeat (first | apply Kd.R_alloc | apply Kd.R_drewN | apply Kd.R_drew)); exact HO_3.out) (Kd.R_base ho0) hb); have n1_ := Aside0.mk (Kd.R_elder' (by (with_reducible repeat (first | apply Kd.R_alloc | apply Kd.R_drewN | apply Kd.R_drew)); exact HO_5.out) (Kd.R_base ho0) hb); have n2_ := Aside0.mk (Kd.R_elder' (by (with_reducible repeat (first | apply Kd.R_alloc | apply Kd.R_drewN | apply Kd.R_drew)); exact HO_9.out) (Kd.R_base ho0) hb); have n3_ := Aside0.mk (Kd.R_lower (Kd.R_new' (Kd.R_new' (Kd.R_new' ho0 (Kd.R_lt (by (with_reducible repeat (first | apply Kd.R_alloc | apply Kd.R_drewN | apply Kd.R_drew)); exact HO_3.out))) (Kd.R_lt (by (with_reducible repeat (first | apply Kd.R_alloc | apply Kd.R_drewN | apply Kd.R_drew)); exact HO_5.out))) (Kd.R_lt (by (with_reducible repeat (first | apply Kd.R_alloc | apply Kd.R_drewN | apply Kd.R_drew)); exact HO_9.out))) (below_size (by repeat (first | (with_reducible first | exact HB.out | apply below_alloc | apply pw_below_drewN | apply below_drew1) | exact HB.out)))); have n4_ := Aside0.mk (below_step (by repeat (first | (with_reducible first | exact HB.out | apply below_alloc | apply pw_below_drewN | apply below_drew1) | exact HB.out)) hb); clear HO_3; clear HO_5; clear HO_9; clear HB; have HO_3 := n0_; have HO_5 := n1_; have HO_9 := n2_; have HO324 := n3_; have HB := n4_; clear n0_ n1_ n2_ n3_ n4_; (try clear hb); (try clear hb2); (try clear hk); (try clear hi); (try clear ho0))); try go_wp2_with (first | (go_at_call 42; (with_reducible refine (impl_MixDelays.calls kj9 _ _ t311 t315 t321 t322 _ ?side1 ?side2 A36.out).mono ?_); (case side1 => repeat (first | exact (Kd.R_reads' HO_9.out).2.2 | (with_reducible refine Kd.C_alloc ?_ _) | (with_reducible refine Kd.C_drewN ?_ _) | (with_reducible refine Kd.C_drew ?_))); (case side2 => exact (Kd.R_reads' HO_9.out).2.1); rintro e w39 ⟨v323, rfl, ho0, hb⟩; have n0_ := Aside0.mk (Kd.R_elder' (by (with_reducible repeat (first | apply Kd.R_alloc | apply Kd.R_drewN | apply Kd.R_drew)); exact HO_3.out) (Kd.R_base ho0) hb); have n1_ := Aside0.mk (Kd.R_elder' (by (with_reducible repeat (first | apply Kd.R_alloc | apply Kd.R_drewN | apply Kd.R_drew)); exact HO_5.out) (Kd.R_base ho0) hb); have n2_ := Aside0.mk (Kd.R_elder' (by (with_reducible repeat (first | apply Kd.R_alloc | apply Kd.R_drewN | apply Kd.R_drew)); exact HO_9.out) (Kd.R_base ho0) hb); have n3_ := Aside0.mk (Kd.R_lower (Kd.R_new' (Kd.R_new' (Kd.R_new' ho0 (Kd.R_lt (by (with_reducible repeat (first | apply Kd.R_alloc | apply Kd.R_drewN | apply Kd.R_drew)); exact HO_3.out))) (Kd.R_lt (by (with_reducible repeat (first | apply Kd.R_alloc | apply Kd.R_drewN | apply Kd.R_drew)); exact HO_5.out))) (Kd.R_lt (by (with_reducible repeat (first | apply Kd.R_alloc | apply Kd.R_drewN | apply Kd.R_drew)); exact HO_9.out))) (below_size (by repeat (first | (with_reducible first | exact HB.out | apply below_alloc | apply pw_below_drewN | apply below_drew1) | exact HB.out)))); have n4_ := Aside0.mk (below_step (by repeat (first | (with_reducible first | exact HB.out | apply below_alloc | apply pw_below_drewN | apply below_drew1) | exact HB.out)) hb); clear HO_3; clear HO_5; clear HO_9; clear HB; have HO_3 := n0_; have HO_5 := n1_; have HO_9 := n2_; have HO324 := n3_; have HB := n4_; clear n0_ n1_ n2_ n3_ n4_; (try clear hb); (try clear hb2); (try clear hk); (try clear hi); (try clear ho0))))
                  go_meet
                  case rel => exact ⟨_, H', ⟨by have := HJ9.out; first | omega | exact Nat.le_refl _⟩, ⟨by (with_reducible repeat (first | apply Kd.R_alloc | apply Kd.R_drewN | apply Kd.R_drew)); exact Kd.R_mono HO_3.out (fun _ hk => hk.1.1)⟩, ⟨by (with_reducible repeat (first | apply Kd.R_alloc | apply Kd.R_drewN | apply Kd.R_drew)); exact Kd.R_mono HO_5.out (fun _ hk => hk.1.1)⟩, ⟨by repeat (first | (with_reducible first | exact HB.out | apply below_alloc | apply pw_below_drewN | apply below_drew1) | exact HB.out)⟩⟩
                · rw [if_neg c38] at H
                  have c38b0 : (t315 == t312) = false := beq_eq_false_iff_ne.mpr c38
                  have c38b1 : (t315 != t312) = true := bne_iff_ne.mpr c38
                  replace H := Option.bind_eq_some_iff.mp H
                  obtain ⟨⟨t325, t326⟩, A400, H⟩ := H
                  replace H : (if t326 = 4 then (laws_FnMixes.j1 kj9 t299 t300 t303 t304) else (some false)) = some r := H
                  have A40 := Aside0.mk A400
                  clear A400
                  by_cases c41 : t326 = 4
                  · rw [if_pos c41] at H
                    have c41b0 : (t326 == 4) = true := beq_iff_eq.mpr c41
                    have c41b1 : (t326 != 4) = false := bne_eq_false_iff_eq.mpr c41
                    clear c41
                    have H' := Aside0.mk H
                    clear H
                    go_wp2_with (first | (go_at_call 42; (with_reducible refine (impl_MixDelays.calls kj9 _ _ t311 t315 t321 t322 _ ?side1 ?side2 A36.out).mono ?_); (case side1 => repeat (first | exact (Kd.R_reads' HO_9.out).2.2 | (with_reducible refine Kd.C_alloc ?_ _) | (with_reducible refine Kd.C_drewN ?_ _) | (with_reducible refine Kd.C_drew ?_))); (case side2 => exact (Kd.R_reads' HO_9.out).2.1); rintro e w42 ⟨v323, rfl, ho0, hb⟩; have n0_ := Aside0.mk (Kd.R_elder' (by (with_reducible repeat (first | apply Kd.R_alloc | apply Kd.R_drewN | apply Kd.R_drew)); exact HO_3.out) (Kd.R_base ho0) hb); have n1_ := Aside0.mk (Kd.R_elder' (by (with_reducible repeat (first | apply Kd.R_alloc | apply Kd.R_drewN | apply Kd.R_drew)); exact HO_5.out) (Kd.R_base ho0) hb); have n2_ := Aside0.mk (Kd.R_elder' (by (with_reducible repeat (first | apply Kd.R_alloc | apply Kd.R_drewN | apply Kd.R_drew)); exact HO_9.out) (Kd.R_base ho0) hb); have n3_ := Aside0.mk (Kd.R_lower (Kd.R_new' (Kd.R_new' (Kd.R_new' ho0 (Kd.R_lt (by (with_reducible repeat (first | apply Kd.R_alloc | apply Kd.R_drewN | apply Kd.R_drew)); exact HO_3.out))) (Kd.R_lt (by (with_reducible repeat (first | apply Kd.R_alloc | apply Kd.R_drewN | apply Kd.R_drew)); exact HO_5.out))) (Kd.R_lt (by (with_reducible repeat (first | apply Kd.R_alloc | apply Kd.R_drewN | apply Kd.R_drew)); exact HO_9.out))) (below_size (by repeat (first | (with_reducible first | exact HB.out | apply below_alloc | apply pw_below_drewN | apply below_drew1) | exact HB.out)))); have n4_ := Aside0.mk (below_step (by repeat (first | (with_reducible first | exact HB.out | apply below_alloc | apply pw_below_drewN | apply below_drew1) | exact HB.out)) hb); clear HO_3; clear HO_5; clear HO_9; clear HB; have HO_3 := n0_; have HO_5 := n1_; have HO_9 := n2_; have HO324 := n3_; have HB := n4_; clear n0_ n1_ n2_ n3_ n4_; (try clear hb); (try clear hb2); (try clear hk); (try clear hi); (try clear ho0)) | (go_at_call 42; (with_reducible refine (impl_MixDelays.calls kj9 _ _ t311 t312 t325 t326 _ ?side1 ?side2 A40.out).mono ?_); (case side1 => repeat (first | exact (Kd.R_reads' HO_9.out).2.2 | (with_reducible refine Kd.C_alloc ?_ _) | (with_reducible refine Kd.C_drewN ?_ _) | (with_reducible refine Kd.C_drew ?_))); (case side2 => exact (Kd.R_reads' HO_9.out).2.1); rintro e w43 ⟨v327, rfl, ho0, hb⟩; have n0_ := Aside0.mk (Kd.R_elder' (by (with_reducible repeat (first | apply Kd.R_alloc | apply Kd.R_drewN | apply Kd.R_drew)); exact HO_3.out) (Kd.R_base ho0) hb); have n1_ := Aside0.mk (Kd.R_elder' (by (with_reducible repeat (first | apply Kd.R_alloc | apply Kd.R_drewN | apply Kd.R_drew)); exact HO_5.out) (Kd.R_base ho0) hb); have n2_ := Aside0.mk (Kd.R_elder' (by (with_reducible repeat (first | apply Kd.R_alloc | apply Kd.R_drewN | apply Kd.R_drew)); exact HO_9.out) (Kd.R_base ho0) hb); have n3_ := Aside0.mk (Kd.R_elder' (by (with_reducible repeat (first | apply Kd.R_alloc | apply Kd.R_drewN | apply Kd.R_drew)); exact HO324.out) (Kd.R_base ho0) hb); have n4_ := Aside0.mk (Kd.R_lower (Kd.R_new' (Kd.R_new' (Kd.R_new' (Kd.R_new' ho0 (Kd.R_lt (by (with_reducible repeat (first | apply Kd.R_alloc | apply Kd.R_drewN | apply Kd.R_drew)); exact HO_3.out))) (Kd.R_lt (by (with_reducible repeat (first | apply Kd.R_alloc | apply Kd.R_drewN | apply Kd.R_drew)); exact HO_5.out))) (Kd.R_lt (by (with_reducible repeat (first | apply Kd.R_alloc | apply Kd.R_drewN | apply Kd.R_drew)); exact HO_9.out))) (Kd.R_lt (by (with_reducible repeat (first | apply Kd.R_alloc | apply Kd.R_drewN | apply Kd.R_drew)); exact HO324.out))) (below_size (by repeat (first | (with_reducible first | exact HB.out | apply below_alloc | apply pw_below_drewN | apply below_drew1) | exact HB.out)))); have n5_ := Aside0.mk (below_step (by repeat (first | (with_reducible first | exact HB.out | apply below_alloc | apply pw_below_drewN | apply below_drew1) | exact HB.out)) hb); clear HO_3; clear HO_5; clear HO_9; clear HO324; clear HB; have HO_3 := n0_; have HO_5 := n1_; have HO_9 := n2_; have HO324 := n3_; have HO328 := n4_; have HB := n5_; clear n0_ n1_ n2_ n3_ n4_ n5_; (try clear hb); (try clear hb2); (try clear hk); (try clear hi); (try clear ho0)))
                    repeat (go_quiet (first | (go_at_call 42; (with_reducible refine (impl_MixDelays.calls kj9 _ _ t311 t315 t321 t322 _ ?side1 ?side2 A36.out).mono ?_); (case side1 => repeat (first | exact (Kd.R_reads' HO_9.out).2.2 | (with_reducible refine Kd.C_alloc ?_ _) | (with_reducible refine Kd.C_drewN ?_ _) | (with_reducible refine Kd.C_drew ?_))); (case side2 => exact (Kd.R_reads' HO_9.out).2.1); rintro e w42 ⟨v323, rfl, ho0, hb⟩; have n0_ := Aside0.mk (Kd.R_elder' (by (with_reducible repeat (first | apply Kd.R_alloc | apply Kd.R_drewN | apply Kd.R_drew)); exact HO_3.out) (Kd.R_base ho0) hb); have n1_ := Aside0.mk (Kd.R_elder' (by (with_reducible repeat (first | apply Kd.R_alloc | apply Kd.R_drewN | apply Kd.R_drew)); exact HO_5.out) (Kd.R_base ho0) hb); have n2_ := Aside0.mk (Kd.R_elder' (by (with_reducible repeat (first | apply Kd.R_alloc | apply Kd.R_drewN | apply Kd.R_drew)); exact HO_9.out) (Kd.R_base ho0) hb); have n3_ := Aside0.mk (Kd.R_lower (Kd.R_new' (Kd.R_new' (Kd.R_new' ho0 (Kd.R_lt (by (with_reducible repeat (first | apply Kd.R_alloc | apply Kd.R_drewN | apply Kd.R_drew)); exact HO_3.out))) (Kd.R_lt (by (with_reducible repeat (first | apply Kd.R_alloc | apply Kd.R_drewN | apply Kd.R_drew)); exact HO_5.out))) (Kd.R_lt (by (with_reducible repeat (first | apply Kd.R_alloc | apply Kd.R_drewN | apply Kd.R_drew)); exact HO_9.out))) (below_size (by repeat (first | (with_reducible first | exact HB.out | apply below_alloc | apply pw_below_drewN | apply below_drew1) | exact HB.out)))); have n4_ := Aside0.mk (below_step (by repeat (first | (with_reducible first | exact HB.out | apply below_alloc | apply pw_below_drewN | apply below_drew1) | exact HB.out)) hb); clear HO_3; clear HO_5; clear HO_9; clear HB; have HO_3 := n0_; have HO_5 := n1_; have HO_9 := n2_; have HO324 := n3_; have HB := n4_; clear n0_ n1_ n2_ n3_ n4_; (try clear hb); (try clear hb2); (try clear hk); (try clear hi); (try clear ho0)) | (go_at_call 42; (with_reducible refine (impl_MixDelays.calls kj9 _ _ t311 t312 t325 t326 _ ?side1 ?side2 A40.out).mono ?_); (case side1 => repeat (first | exact (Kd.R_reads' HO_9.out).2.2 | (with_reducible refine Kd.C_alloc ?_ _) | (with_reducible refine Kd.C_drewN ?_ _) | (with_reducible refine Kd.C_drew ?_))); (case side2 => exact (Kd.R_reads' HO_9.out).2.1); rintro e w43 ⟨v327, rfl, ho0, hb⟩; have n0_ := Aside0.mk (Kd.R_elder' (by (with_reducible repeat (first | apply Kd.R_alloc | apply Kd.R_drewN | apply Kd.R_drew)); exact HO_3.out) (Kd.R_base ho0) hb); have n1_ := Aside0.mk (Kd.R_elder' (by (with_reducible repeat (first | apply Kd.R_alloc | apply Kd.R_drewN | apply Kd.R_drew)); exact HO_5.out) (Kd.R_base ho0) hb); have n2_ := Aside0.mk (Kd.R_elder' (by (with_reducible repeat (first | apply Kd.R_alloc | apply Kd.R_drewN | apply Kd.R_drew)); exact HO_9.out) (Kd.R_base ho0) hb); have n3_ := Aside0.mk (Kd.R_elder' (by (with_reducible repeat (first | apply Kd.R_alloc | apply Kd.R_drewN | apply Kd.R_drew)); exact HO324.out) (Kd.R_base ho0) hb); have n4_ := Aside0.mk (Kd.R_lower (Kd.R_new' (Kd.R_new' (Kd.R_new' (Kd.R_new' ho0 (Kd.R_lt (by (with_reducible repeat (first | apply Kd.R_alloc | apply Kd.R_drewN | apply Kd.R_drew)); exact HO_3.out))) (Kd.R_lt (by (with_reducible repeat (first | apply Kd.R_alloc | apply Kd.R_drewN | apply Kd.R_drew)); exact HO_5.out))) (Kd.R_lt (by (with_reducible repeat (first | apply Kd.R_alloc | apply Kd.R_drewN | apply Kd.R_drew)); exact HO_9.out))) (Kd.R_lt (by (with_reducible repeat (first | apply Kd.R_alloc | apply Kd.R_drewN | apply Kd.R_drew)); exact HO324.out))) (below_size (by repeat (first | (with_reducible first | exact HB.out | apply below_alloc | apply pw_below_drewN | apply below_drew1) | exact HB.out)))); have n5_ := Aside0.mk (below_step (by repeat (first | (with_reducible first | exact HB.out | apply below_alloc | apply pw_below_drewN | apply below_drew1) | exact HB.out)) hb); clear HO_3; clear HO_5; clear HO_9; clear HO324; clear HB; have HO_3 := n0_; have HO_5 := n1_; have HO_9 := n2_; have HO324 := n3_; have HO328 := n4_; have HB := n5_; clear n0_ n1_ n2_ n3_ n4_ n5_; (try clear hb); (try clear hb2); (try clear hk); (try clear hi); (try clear ho0))); try go_wp2_with (first | (go_at_call 42; (with_reducible refine (impl_MixDelays.calls kj9 _ _ t311 t315 t321 t322 _ ?side1 ?side2 A36.out).mono ?_); (case side1 => repeat (first | exact (Kd.R_reads' HO_9.out).2.2 | (with_reducible refine Kd.C_alloc ?_ _) | (with_reducible refine Kd.C_drewN ?_ _) | (with_reducible refine Kd.C_drew ?_))); (case side2 => exact (Kd.R_reads' HO_9.out).2.1); rintro e w42 ⟨v323, rfl, ho0, hb⟩; have n0_ := Aside0.mk (Kd.R_elder' (by (with_reducible repeat (first | apply Kd.R_alloc | apply Kd.R_drewN | apply Kd.R_drew)); exact HO_3.out) (Kd.R_base ho0) hb); have n1_ := Aside0.mk (Kd.R_elder' (by (with_reducible repeat (first | apply Kd.R_alloc | apply Kd.R_drewN | apply Kd.R_drew)); exact HO_5.out) (Kd.R_base ho0) hb); have n2_ := Aside0.mk (Kd.R_elder' (by (with_reducible repeat (first | apply Kd.R_alloc | apply Kd.R_drewN | apply Kd.R_drew)); exact HO_9.out) (Kd.R_base ho0) hb); have n3_ := Aside0.mk (Kd.R_lower (Kd.R_new' (Kd.R_new' (Kd.R_new' ho0 (Kd.R_lt (by (with_reducible repeat (first | apply Kd.R_alloc | apply Kd.R_drewN | apply Kd.R_drew)); exact HO_3.out))) (Kd.R_lt (by (with_reducible repeat (first | apply Kd.R_alloc | apply Kd.R_drewN | apply Kd.R_drew)); exact HO_5.out))) (Kd.R_lt (by (with_reducible repeat (first | apply Kd.R_alloc | apply Kd.R_drewN | apply Kd.R_drew)); exact HO_9.out))) (below_size (by repeat (first | (with_reducible first | exact HB.out | apply below_alloc | apply pw_below_drewN | apply below_drew1) | exact HB.out)))); have n4_ := Aside0.mk (below_step (by repeat (first | (with_reducible first | exact HB.out | apply below_alloc | apply pw_below_drewN | apply below_drew1) | exact HB.out)) hb); clear HO_3; clear HO_5; clear HO_9; clear HB; have HO_3 := n0_; have HO_5 := n1_; have HO_9 := n2_; have HO324 := n3_; have HB := n4_; clear n0_ n1_ n2_ n3_ n4_; (try clear hb); (try clear hb2); (try clear hk); (try clear hi); (try clear ho0)) | (go_at_call 42; (with_reducible refine (impl_MixDelays.calls kj9 _ _ t311 t312 t325 t326 _ ?side1 ?side2 A40.out).mono ?_); (case side1 => repeat (first | exact (Kd.R_reads' HO_9.out).2.2 | (with_reducible refine Kd.C_alloc ?_ _) | (with_reducible refine Kd.C_drewN ?_ _) | (with_reducible refine Kd.C_drew ?_))); (case side2 => exact (Kd.R_reads' HO_9.out).2.1); rintro e w43 ⟨v327, rfl, ho0, hb⟩; have n0_ := Aside0.mk (Kd.R_elder' (by (with_reducible repeat (first | apply Kd.R_alloc | apply Kd.R_drewN | apply Kd.R_drew)); exact HO_3.out) (Kd.R_base ho0) hb); have n1_ := Aside0.mk (Kd.R_elder' (by (with_reducible repeat (first | apply Kd.R_alloc | apply Kd.R_drewN | apply Kd.R_drew)); exact HO_5.out) (Kd.R_base ho0) hb); have n2_ := Aside0.mk (Kd.R_elder' (by (with_reducible repeat (first | apply Kd.R_alloc | apply Kd.R_drewN | apply Kd.R_drew)); exact HO_9.out) (Kd.R_base ho0) hb); have n3_ := Aside0.mk (Kd.R_elder' (by (with_reducible repeat (first | apply Kd.R_alloc | apply Kd.R_drewN | apply Kd.R_drew)); exact HO324.out) (Kd.R_base ho0) hb); have n4_ := Aside0.mk (Kd.R_lower (Kd.R_new' (Kd.R_new' (Kd.R_new' (Kd.R_new' ho0 (Kd.R_lt (by (with_reducible repeat (first | apply Kd.R_alloc | apply Kd.R_drewN | apply Kd.R_drew)); exact HO_3.out))) (Kd.R_lt (by (with_reducible repeat (first | apply Kd.R_alloc | apply Kd.R_drewN | apply Kd.R_drew)); exact HO_5.out))) (Kd.R_lt (by (with_reducible repeat (first | apply Kd.R_alloc | apply Kd.R_drewN | apply Kd.R_drew)); exact HO_9.out))) (Kd.R_lt (by (with_reducible repeat (first | apply Kd.R_alloc | apply Kd.R_drewN | apply Kd.R_drew)); exact HO324.out))) (below_size (by repeat (first | (with_reducible first | exact HB.out | apply below_alloc | apply pw_below_drewN | apply below_drew1) | exact HB.out)))); have n5_ := Aside0.mk (below_step (by repeat (first | (with_reducible first | exact HB.out | apply below_alloc | apply pw_below_drewN | apply below_drew1) | exact HB.out)) hb); clear HO_3; clear HO_5; clear HO_9; clear HO324; clear HB; have HO_3 := n0_; have HO_5 := n1_; have HO_9 := n2_; have HO324 := n3_; have HO328 := n4_; have HB := n5_; clear n0_ n1_ n2_ n3_ n4_ n5_; (try clear hb); (try clear hb2); (try clear hk); (try clear hi); (try clear ho0))))
                    go_meet
                    case rel => exact ⟨_, H', ⟨by have := HJ9.out; first | omega | exact Nat.le_refl _⟩, ⟨by (with_reducible repeat (first | apply Kd.R_alloc | apply Kd.R_drewN | apply Kd.R_drew)); exact Kd.R_mono HO_3.out (fun _ hk => hk.1.1.1)⟩, ⟨by (with_reducible repeat (first | apply Kd.R_alloc | apply Kd.R_drewN | apply Kd.R_drew)); exact Kd.R_mono HO_5.out (fun _ hk => hk.1.1.1)⟩, ⟨by repeat (first | (with_reducible first | exact HB.out | apply below_alloc | apply pw_below_drewN | apply below_drew1) | exact HB.out)⟩⟩
                  · rw [if_neg c41] at H
                    have c41b0 : (t326 == 4) = false := beq_eq_false_iff_ne.mpr c41
                    have c41b1 : (t326 != 4) = true := bne_iff_ne.mpr c41
                    exact absurd ((Option.some.inj H).trans hT) (by decide)
              · rw [if_neg c37] at H
                have c37b0 : (t322 == 0) = false := beq_eq_false_iff_ne.mpr c37
                have c37b1 : (t322 != 0) = true := bne_iff_ne.mpr c37
                exact absurd ((Option.some.inj H).trans hT) (by decide)
            · rw [if_neg c35] at H
              have c35b0 : (t316 == 0) = false := beq_eq_false_iff_ne.mpr c35
              have c35b1 : (t316 != 0) = true := bne_iff_ne.mpr c35
              (first | rw [c35b0] | (simp only [i64_w, i32_w]; rw [c35b0]) | skip)
              have H' := Aside0.mk H
              clear H
              go_wp2
              repeat (go_quiet (fail); try go_wp2)
              go_meet
              case rel => exact ⟨_, H', ⟨by have := HJ9.out; first | omega | exact Nat.le_refl _⟩, ⟨by (with_reducible repeat (first | apply Kd.R_alloc | apply Kd.R_drewN | apply Kd.R_drew)); exact Kd.R_mono HO_3.out (fun _ hk => hk.1)⟩, ⟨by (with_reducible repeat (first | apply Kd.R_alloc | apply Kd.R_drewN | apply Kd.R_drew)); exact Kd.R_mono HO_5.out (fun _ hk => hk.1)⟩, ⟨by repeat (first | (with_reducible first | exact HB.out | apply below_alloc | apply pw_below_drewN | apply below_drew1) | exact HB.out)⟩⟩
          case rest =>
            clear HC34
            try clear c1
            try clear c2
            try clear p2
            try clear c3
            try clear c4
            try clear c12
            try clear c19
            try clear c19b0
            try clear c19b1
            try clear c21
            try clear c22
            try clear c22b0
            try clear c22b1
            try clear c23
            try clear c23b0
            try clear c23b1
            try clear c33
            try clear c35
            try clear c35b0
            try clear c35b1
            try clear c37
            try clear c37b0
            try clear c37b1
            try clear c38
            try clear c38b0
            try clear c38b1
            try clear c41
            try clear c41b0
            try clear c41b1
            try clear p2
            obtain ⟨kq, HA, HJ33, HO_3, HO_5, HB⟩ := hcut
            cases kq with
            | zero => exact absurd HA.out (by simp [laws_FnMixes.j1])
            | succ kj33 =>
              have H := HA.out
              clear HA
              simp only [laws_FnMixes.j1] at H
              by_cases c47 : t304 = 0
              · rw [if_pos c47] at H
                have c47b0 : (t304 == 0) = true := beq_iff_eq.mpr c47
                have c47b1 : (t304 != 0) = false := bne_eq_false_iff_eq.mpr c47
                clear c47
                have H' := Aside0.mk H
                clear H
                go_wp2
                repeat (go_quiet (fail); try go_wp2)
                go_loopg [19] kj33 (fun kq v19 w' => ∃ (x19_3 : Int), v19 = .int .i64 x19_3 ∧ Aside0 (laws_FnMixes.l0 kq t299 t300 t303 x19_3 = some r) ∧ Aside0 (kq ≤ kj33) ∧ Aside0 (Kd.R (Kd.int .i64) 2 w' w.heap.size (fun k_ => some k_ ≠ (v305 : Value).ownBlock) (.slice Ao12 t299.length co12) t299) ∧ Aside0 (Kd.R (Kd.int .i64) 2 w' w.heap.size (fun k_ => some k_ ≠ ((.slice Ao12 t299.length co12) : Value).ownBlock) v305 t303) ∧ Aside0 (Below w.heap.size w w'))
                case atStart => exact ⟨(0), (by first | rfl | (simp; done) | (simp [*]; done)), H', ⟨Nat.le_refl _⟩, ⟨by (with_reducible repeat (first | apply Kd.R_alloc | apply Kd.R_drewN | apply Kd.R_drew)); exact HO_3.out⟩, ⟨by (with_reducible repeat (first | apply Kd.R_alloc | apply Kd.R_drewN | apply Kd.R_drew)); exact HO_5.out⟩, ⟨by repeat (first | (with_reducible first | exact HB.out | apply below_alloc | apply pw_below_drewN | apply below_drew1) | exact HB.out)⟩⟩
                case round =>
                  clear H'
                  try clear c1
                  try clear c2
                  try clear p2
                  try clear c3
                  try clear c4
                  try clear c12
                  try clear c19
                  try clear c19b0
                  try clear c19b1
                  try clear c21
                  try clear c22
                  try clear c22b0
                  try clear c22b1
                  try clear c23
                  try clear c23b0
                  try clear c23b1
                  try clear c33
                  try clear c35
                  try clear c35b0
                  try clear c35b1
                  try clear c37
                  try clear c37b0
                  try clear c37b1
                  try clear c38
                  try clear c38b0
                  try clear c38b1
                  try clear c41
                  try clear c41b0
                  try clear c41b1
                  try clear c47
                  try clear c47b0
                  try clear c47b1
                  try clear p2
                  obtain ⟨x19_3, rfl, HA, HK3, HO_3, HO_5, HB⟩ := hrel
                  cases gk with
                  | zero => exact absurd HA.out (by simp [laws_FnMixes.l0])
                  | succ k3 =>
                    have H := HA.out
                    clear HA
                    simp only [laws_FnMixes.l0] at H
                    by_cases c48 : x19_3 < (t303.length : Int)
                    · rw [if_pos c48] at H
                      have c48b0 : decide (x19_3 < (t303.length : Int)) = true := decide_eq_true c48
                      clear c48
                      by_cases c49 : 0 ≤ x19_3
                      · rw [if_pos c49] at H
                        have c49b0 : decide (0 ≤ x19_3) = true := decide_eq_true c49
                        clear c49
                        replace H := Option.bind_eq_some_iff.mp H
                        obtain ⟨t330, A500, H⟩ := H
                        replace H : (if t330 = true then (if x19_3 > 0 then (if 0 ≤ (wrap64 (x19_3 - 1)) then (if (wrap64 (x19_3 - 1)) < (t303.length : Int) then (if (rd t303 x19_3) < (rd t303 (wrap64 (x19_3 - 1))) then (some false) else (laws_FnMixes.l0 k3 t299 t300 t303 (wrap64 (x19_3 + 1)))) else (none)) else (none)) else (laws_FnMixes.l0 k3 t299 t300 t303 (wrap64 (x19_3 + 1)))) else (some false)) = some r := H
                        have A50 := Aside0.mk A500
                        clear A500
                        by_cases c51 : t330 = true
                        · subst c51
                          have H1 : (if x19_3 > 0 then (if 0 ≤ (wrap64 (x19_3 - 1)) then (if (wrap64 (x19_3 - 1)) < (t303.length : Int) then (if (rd t303 x19_3) < (rd t303 (wrap64 (x19_3 - 1))) then (some false) else (laws_FnMixes.l0 k3 t299 t300 t303 (wrap64 (x19_3 + 1)))) else (none)) else (none)) else (laws_FnMixes.l0 k3 t299 t300 t303 (wrap64 (x19_3 + 1)))) = some r := by rw [if_pos rfl] at H; exact H
                          clear H
                          have H := H1
                          clear H1
                          by_cases c52 : x19_3 > 0
                          · rw [if_pos c52] at H
                            have c52b0 : decide (0 < x19_3) = true := decide_eq_true c52
                            clear c52
                            obtain ⟨ji53, hji53⟩ : ∃ j_ : Int, (wrap64 (x19_3 - 1)) = j_ := ⟨_, rfl⟩
                            replace H : (if 0 ≤ (ji53) then (if (ji53) < (t303.length : Int) then (if (rd t303 x19_3) < (rd t303 (ji53)) then (some false) else (laws_FnMixes.l0 k3 t299 t300 t303 (wrap64 (x19_3 + 1)))) else (none)) else (none)) = some r := by first | (rw [hji53] at H; exact H) | (simp only [hji53] at H ⊢; exact H)
                            (try rw [hji53] at A50)
                            have hji53w : (IntKind.i64.wrap (x19_3 - 1)) = ji53 := (i64_w _).trans hji53
                            by_cases c54 : 0 ≤ (ji53)
                            · rw [if_pos c54] at H
                              have c54b0 : decide (0 ≤ (ji53)) = true := decide_eq_true c54
                              clear c54
                              by_cases c55 : (ji53) < (t303.length : Int)
                              · rw [if_pos c55] at H
                                have c55b0 : decide ((ji53) < (t303.length : Int)) = true := decide_eq_true c55
                                clear c55
                                by_cases c56 : (rd t303 x19_3) < (rd t303 (ji53))
                                · rw [if_pos c56] at H
                                  have c56b0 : decide ((rd t303 x19_3) < (rd t303 (ji53))) = true := decide_eq_true c56
                                  clear c56
                                  exact absurd ((Option.some.inj H).trans hT) (by decide)
                                · rw [if_neg c56] at H
                                  have c56b0 : decide ((rd t303 x19_3) < (rd t303 (ji53))) = false := decide_eq_false c56
                                  clear c56
                                  have H' := Aside0.mk H
                                  clear H
                                  obtain ⟨Ao58, co58, eo58⟩ := Kd.R_slice HO_5.out
                                  subst eo58
                                  have p329 : 0 ≤ (x19_3 : Int) := of_decide_eq_true (by first | (with_reducible assumption) | assumption)
                                  have q329 : x19_3 < (t303.length : Int) := of_decide_eq_true (by first | (with_reducible assumption) | assumption)
                                  obtain ⟨ad329, e329, hx329_0⟩ := Kd.at_int (Kd.R_reads' HO_5.out).2.2 x19_3 p329 q329
                                  cases e329
                                  replace p329 := eq_true p329
                                  replace q329 := eq_true q329
                                  go_wp2_with (first | (go_at_call 51; (with_reducible refine (laws_hasInt.calls k3 _ _ t299 (rd t303 x19_3) true _ ?side1 ?side2 A50.out).mono ?_); (case side1 => repeat (first | exact (Kd.R_reads' HO_3.out).2.2 | (with_reducible refine Kd.C_alloc ?_ _) | (with_reducible refine Kd.C_drewN ?_ _) | (with_reducible refine Kd.C_drew ?_))); (case side2 => exact (Kd.R_reads' HO_3.out).2.1); rintro e w' ⟨rfl, ⟨nd, rfl⟩⟩; (try first | exact ⟨rfl, _, World.drewN_drewN _ _ _⟩ | exact ⟨rfl, _, Eq.trans (World.drewN_drewN _ _ _) (congrArg (World.drewN _) (Nat.add_assoc _ _ _))⟩); have p331 : 0 ≤ (x19_3 : Int) := of_decide_eq_true (by first | (with_reducible assumption) | assumption); have q331 : x19_3 < (t303.length : Int) := of_decide_eq_true (by first | (with_reducible assumption) | assumption); obtain ⟨ad331, e331, hx331_0⟩ := Kd.at_int (Kd.R_reads' HO_5.out).2.2 x19_3 p331 q331; obtain rfl : ad329 = ad331 := (by injection e331); replace p331 := eq_true p331; replace q331 := eq_true q331; have p332 : 0 ≤ ((ji53) : Int) := of_decide_eq_true (by first | (with_reducible assumption) | assumption); have q332 : (ji53) < (t303.length : Int) := of_decide_eq_true (by first | (with_reducible assumption) | assumption); obtain ⟨ad332, e332, hx332_0⟩ := Kd.at_int (Kd.R_reads' HO_5.out).2.2 (ji53) p332 q332; obtain rfl : ad329 = ad332 := (by injection e332); replace p332 := eq_true p332; replace q332 := eq_true q332))
                                  repeat (go_quiet (first | (go_at_call 51; (with_reducible refine (laws_hasInt.calls k3 _ _ t299 (rd t303 x19_3) true _ ?side1 ?side2 A50.out).mono ?_); (case side1 => repeat (first | exact (Kd.R_reads' HO_3.out).2.2 | (with_reducible refine Kd.C_alloc ?_ _) | (with_reducible refine Kd.C_drewN ?_ _) | (with_reducible refine Kd.C_drew ?_))); (case side2 => exact (Kd.R_reads' HO_3.out).2.1); rintro e w' ⟨rfl, ⟨nd, rfl⟩⟩; (try first | exact ⟨rfl, _, World.drewN_drewN _ _ _⟩ | exact ⟨rfl, _, Eq.trans (World.drewN_drewN _ _ _) (congrArg (World.drewN _) (Nat.add_assoc _ _ _))⟩); have p331 : 0 ≤ (x19_3 : Int) := of_decide_eq_true (by first | (with_reducible assumption) | assumption); have q331 : x19_3 < (t303.length : Int) := of_decide_eq_true (by first | (with_reducible assumption) | assumption); obtain ⟨ad331, e331, hx331_0⟩ := Kd.at_int (Kd.R_reads' HO_5.out).2.2 x19_3 p331 q331; obtain rfl : ad329 = ad331 := (by injection e331); replace p331 := eq_true p331; replace q331 := eq_true q331; have p332 : 0 ≤ ((ji53) : Int) := of_decide_eq_true (by first | (with_reducible assumption) | assumption); have q332 : (ji53) < (t303.length : Int) := of_decide_eq_true (by first | (with_reducible assumption) | assumption); obtain ⟨ad332, e332, hx332_0⟩ := Kd.at_int (Kd.R_reads' HO_5.out).2.2 (ji53) p332 q332; obtain rfl : ad329 = ad332 := (by injection e332); replace p332 := eq_true p332; replace q332 := eq_true q332)); try go_wp2_with (first | (go_at_call 51; (with_reducible refine (laws_hasInt.calls k3 _ _ t299 (rd t303 x19_3) true _ ?side1 ?side2 A50.out).mono ?_); (case side1 => repeat (first | exact (Kd.R_reads' HO_3.out).2.2 | (with_reducible refine Kd.C_alloc ?_ _) | (with_reducible refine Kd.C_drewN ?_ _) | (with_reducible refine Kd.C_drew ?_))); (case side2 => exact (Kd.R_reads' HO_3.out).2.1); rintro e w' ⟨rfl, ⟨nd, rfl⟩⟩; (try first | exact ⟨rfl, _, World.drewN_drewN _ _ _⟩ | exact ⟨rfl, _, Eq.trans (World.drewN_drewN _ _ _) (congrArg (World.drewN _) (Nat.add_assoc _ _ _))⟩); have p331 : 0 ≤ (x19_3 : Int) := of_decide_eq_true (by first | (with_reducible assumption) | assumption); have q331 : x19_3 < (t303.length : Int) := of_decide_eq_true (by first | (with_reducible assumption) | assumption); obtain ⟨ad331, e331, hx331_0⟩ := Kd.at_int (Kd.R_reads' HO_5.out).2.2 x19_3 p331 q331; obtain rfl : ad329 = ad331 := (by injection e331); replace p331 := eq_true p331; replace q331 := eq_true q331; have p332 : 0 ≤ ((ji53) : Int) := of_decide_eq_true (by first | (with_reducible assumption) | assumption); have q332 : (ji53) < (t303.length : Int) := of_decide_eq_true (by first | (with_reducible assumption) | assumption); obtain ⟨ad332, e332, hx332_0⟩ := Kd.at_int (Kd.R_reads' HO_5.out).2.2 (ji53) p332 q332; obtain rfl : ad329 = ad332 := (by injection e332); replace p332 := eq_true p332; replace q332 := eq_true q332)))
                                  go_roundg k3
                                  case measure => have := HJ9.out; have := HJ33.out; have := HK3.out; omega
                                  case rel => exact ⟨(wrap64 (x19_3 + 1)), (by first | rfl | (simp; done) | (simp [*]; done)), H', ⟨by have := HJ9.out; have := HJ33.out; have := HK3.out; omega⟩, ⟨by (with_reducible repeat (first | apply Kd.R_alloc | apply Kd.R_drewN | apply Kd.R_drew)); exact HO_3.out⟩, ⟨by (with_reducible repeat (first | apply Kd.R_alloc | apply Kd.R_drewN | apply Kd.R_drew)); exact HO_5.out⟩, ⟨by repeat (first | (with_reducible first | exact HB.out | apply below_alloc | apply pw_below_drewN | apply below_drew1) | exact HB.out)⟩⟩
                              · rw [if_neg c55] at H
                                exact absurd H (by simp)
                            · rw [if_neg c54] at H
                              exact absurd H (by simp)
                          · rw [if_neg c52] at H
                            have c52b0 : decide (0 < x19_3) = false := decide_eq_false c52
                            clear c52
                            have H' := Aside0.mk H
                            clear H
                            obtain ⟨Ao59, co59, eo59⟩ := Kd.R_slice HO_5.out
                            subst eo59
                            have p329 : 0 ≤ (x19_3 : Int) := of_decide_eq_true (by first | (with_reducible assumption) | assumption)
                            have q329 : x19_3 < (t303.length : Int) := of_decide_eq_true (by first | (with_reducible assumption) | assumption)
                            obtain ⟨ad329, e329, hx329_0⟩ := Kd.at_int (Kd.R_reads' HO_5.out).2.2 x19_3 p329 q329
                            cases e329
                            replace p329 := eq_true p329
                            replace q329 := eq_true q329
                            go_wp2_with (first | (go_at_call 51; (with_reducible refine (laws_hasInt.calls k3 _ _ t299 (rd t303 x19_3) true _ ?side1 ?side2 A50.out).mono ?_); (case side1 => repeat (first | exact (Kd.R_reads' HO_3.out).2.2 | (with_reducible refine Kd.C_alloc ?_ _) | (with_reducible refine Kd.C_drewN ?_ _) | (with_reducible refine Kd.C_drew ?_))); (case side2 => exact (Kd.R_reads' HO_3.out).2.1); rintro e w' ⟨rfl, ⟨nd, rfl⟩⟩; (try first | exact ⟨rfl, _, World.drewN_drewN _ _ _⟩ | exact ⟨rfl, _, Eq.trans (World.drewN_drewN _ _ _) (congrArg (World.drewN _) (Nat.add_assoc _ _ _))⟩)))
                            repeat (go_quiet (first | (go_at_call 51; (with_reducible refine (laws_hasInt.calls k3 _ _ t299 (rd t303 x19_3) true _ ?side1 ?side2 A50.out).mono ?_); (case side1 => repeat (first | exact (Kd.R_reads' HO_3.out).2.2 | (with_reducible refine Kd.C_alloc ?_ _) | (with_reducible refine Kd.C_drewN ?_ _) | (with_reducible refine Kd.C_drew ?_))); (case side2 => exact (Kd.R_reads' HO_3.out).2.1); rintro e w' ⟨rfl, ⟨nd, rfl⟩⟩; (try first | exact ⟨rfl, _, World.drewN_drewN _ _ _⟩ | exact ⟨rfl, _, Eq.trans (World.drewN_drewN _ _ _) (congrArg (World.drewN _) (Nat.add_assoc _ _ _))⟩))); try go_wp2_with (first | (go_at_call 51; (with_reducible refine (laws_hasInt.calls k3 _ _ t299 (rd t303 x19_3) true _ ?side1 ?side2 A50.out).mono ?_); (case side1 => repeat (first | exact (Kd.R_reads' HO_3.out).2.2 | (with_reducible refine Kd.C_alloc ?_ _) | (with_reducible refine Kd.C_drewN ?_ _) | (with_reducible refine Kd.C_drew ?_))); (case side2 => exact (Kd.R_reads' HO_3.out).2.1); rintro e w' ⟨rfl, ⟨nd, rfl⟩⟩; (try first | exact ⟨rfl, _, World.drewN_drewN _ _ _⟩ | exact ⟨rfl, _, Eq.trans (World.drewN_drewN _ _ _) (congrArg (World.drewN _) (Nat.add_assoc _ _ _))⟩))))
                            go_roundg k3
                            case measure => have := HJ9.out; have := HJ33.out; have := HK3.out; omega
                            case rel => exact ⟨(wrap64 (x19_3 + 1)), (by first | rfl | (simp; done) | (simp [*]; done)), H', ⟨by have := HJ9.out; have := HJ33.out; have := HK3.out; omega⟩, ⟨by (with_reducible repeat (first | apply Kd.R_alloc | apply Kd.R_drewN | apply Kd.R_drew)); exact HO_3.out⟩, ⟨by (with_reducible repeat (first | apply Kd.R_alloc | apply Kd.R_drewN | apply Kd.R_drew)); exact HO_5.out⟩, ⟨by repeat (first | (with_reducible first | exact HB.out | apply below_alloc | apply pw_below_drewN | apply below_drew1) | exact HB.out)⟩⟩
                        · replace c51 := Bool.eq_false_iff.mpr c51
                          subst c51
                          have H1 : (some false) = some r := by rw [if_neg (show ¬ (false = true) by decide)] at H; exact H
                          clear H
                          have H := H1
                          clear H1
                          exact absurd ((Option.some.inj H).trans hT) (by decide)
                      · rw [if_neg c49] at H
                        exact absurd H (by simp)
                    · rw [if_neg c48] at H
                      have c48b0 : decide (x19_3 < (t303.length : Int)) = false := decide_eq_false c48
                      clear c48
                      by_cases c61 : t300 = 0
                      · rw [if_pos c61] at H
                        have c61b0 : (t300 == 0) = true := beq_iff_eq.mpr c61
                        have c61b1 : (t300 != 0) = false := bne_eq_false_iff_eq.mpr c61
                        clear c61
                        obtain rfl := Option.some.inj H
                        obtain ⟨Ao62, co62, eo62⟩ := Kd.R_slice HO_5.out
                        subst eo62
                        go_wp2
                        repeat (go_quiet (fail); try go_wp2)
                        go_ret
                        exact ⟨by first | rfl | (simp [errW_none, errW_some] <;> rfl) | (simp [*, errW_none, errW_some] <;> rfl), by repeat (first | (with_reducible first | exact HB.out | apply below_alloc | apply pw_below_drewN | apply below_drew1) | exact HB.out)⟩
                      · rw [if_neg c61] at H
                        have c61b0 : (t300 == 0) = false := beq_eq_false_iff_ne.mpr c61
                        have c61b1 : (t300 != 0) = true := bne_iff_ne.mpr c61
                        obtain ⟨y333, hy333⟩ : ∃ y_ : List Int, y_ = (([0] : List Int)) := ⟨_, rfl⟩
                        replace H : (laws_FnMixes.l1 k3 t299 t300 t303 y333 1) = some r := by first | (rw [hy333]; with_reducible exact H) | (have H2_ := (Option.bind_some _ _).symm.trans H; rw [hy333]; with_reducible exact H2_) | (have H2_ := (Option.bind_some _ _).symm.trans H; with_reducible exact H2_) | with_reducible exact H | (rw [hy333]; exact H) | exact H
                        have Ny333 := Aside0.mk hy333
                        clear hy333
                        have H' := Aside0.mk H
                        clear H
                        obtain ⟨Ao63, co63, eo63⟩ := Kd.R_slice HO_5.out
                        subst eo63
                        go_wp2_with (first | ((with_reducible refine gate_dst (N := 143) rfl ?_); (try (refine gate_guard (by rfl) ?_; dsimp only)); refine Kd.R_lit (Kd.int .i64) _ 2 ?hg (N := 143) ?hd (xs := ([0] : List Int)) (inner := [.int .i64 0]) (ok := fun _ => True) (okp := fun _ => True) ?hr ?hp (fun _ hk => hk) trivial (Below.refl _ _) (Nat.le_refl _) (by simp) ?_; (case hd => rfl); (case hg => rfl); (case hr => first | (go_simp; done) | (go_simp; rfl)); (case hp => exact (Reps.one (show Kd.M (Kd.int .i64) _ _ _ 0 [.int .i64 0] from rfl) (Reps.none _ _))); intro v334 w64 ho65 hb hg_ hnew_; clear hg_ hnew_; (first | rw [← Ny333.out] at ho65 | (simp only [Int.reduceToNat] at ho65; rw [← Ny333.out] at ho65)); have n0_ := Aside0.mk (Kd.R_elder' (by (with_reducible repeat (first | apply Kd.R_alloc | apply Kd.R_drewN | apply Kd.R_drew)); exact HO_3.out) (Kd.R_base ho65) hb); have n1_ := Aside0.mk (Kd.R_elder' (by (with_reducible repeat (first | apply Kd.R_alloc | apply Kd.R_drewN | apply Kd.R_drew)); exact HO_5.out) (Kd.R_base ho65) hb); have n2_ := Aside0.mk (Kd.R_lower (Kd.R_new' (Kd.R_new' ho65 (Kd.R_lt (by (with_reducible repeat (first | apply Kd.R_alloc | apply Kd.R_drewN | apply Kd.R_drew)); exact HO_3.out))) (Kd.R_lt (by (with_reducible repeat (first | apply Kd.R_alloc | apply Kd.R_drewN | apply Kd.R_drew)); exact HO_5.out))) (below_size (by repeat (first | (with_reducible first | exact HB.out | apply below_alloc | apply pw_below_drewN | apply below_drew1) | exact HB.out)))); have n3_ := Aside0.mk (below_step (by repeat (first | (with_reducible first | exact HB.out | apply below_alloc | apply pw_below_drewN | apply below_drew1) | exact HB.out)) hb); clear HO_3; clear HO_5; clear HB; have HO_3 := n0_; have HO_5 := n1_; have HO335 := n2_; have HB := n3_; clear n0_ n1_ n2_ n3_; clear hb ho65))
                        repeat (go_quiet (first | ((with_reducible refine gate_dst (N := 143) rfl ?_); (try (refine gate_guard (by rfl) ?_; dsimp only)); refine Kd.R_lit (Kd.int .i64) _ 2 ?hg (N := 143) ?hd (xs := ([0] : List Int)) (inner := [.int .i64 0]) (ok := fun _ => True) (okp := fun _ => True) ?hr ?hp (fun _ hk => hk) trivial (Below.refl _ _) (Nat.le_refl _) (by simp) ?_; (case hd => rfl); (case hg => rfl); (case hr => first | (go_simp; done) | (go_simp; rfl)); (case hp => exact (Reps.one (show Kd.M (Kd.int .i64) _ _ _ 0 [.int .i64 0] from rfl) (Reps.none _ _))); intro v334 w64 ho65 hb hg_ hnew_; clear hg_ hnew_; (first | rw [← Ny333.out] at ho65 | (simp only [Int.reduceToNat] at ho65; rw [← Ny333.out] at ho65)); have n0_ := Aside0.mk (Kd.R_elder' (by (with_reducible repeat (first | apply Kd.R_alloc | apply Kd.R_drewN | apply Kd.R_drew)); exact HO_3.out) (Kd.R_base ho65) hb); have n1_ := Aside0.mk (Kd.R_elder' (by (with_reducible repeat (first | apply Kd.R_alloc | apply Kd.R_drewN | apply Kd.R_drew)); exact HO_5.out) (Kd.R_base ho65) hb); have n2_ := Aside0.mk (Kd.R_lower (Kd.R_new' (Kd.R_new' ho65 (Kd.R_lt (by (with_reducible repeat (first | apply Kd.R_alloc | apply Kd.R_drewN | apply Kd.R_drew)); exact HO_3.out))) (Kd.R_lt (by (with_reducible repeat (first | apply Kd.R_alloc | apply Kd.R_drewN | apply Kd.R_drew)); exact HO_5.out))) (below_size (by repeat (first | (with_reducible first | exact HB.out | apply below_alloc | apply pw_below_drewN | apply below_drew1) | exact HB.out)))); have n3_ := Aside0.mk (below_step (by repeat (first | (with_reducible first | exact HB.out | apply below_alloc | apply pw_below_drewN | apply below_drew1) | exact HB.out)) hb); clear HO_3; clear HO_5; clear HB; have HO_3 := n0_; have HO_5 := n1_; have HO335 := n2_; have HB := n3_; clear n0_ n1_ n2_ n3_; clear hb ho65)); try go_wp2_with (first | ((with_reducible refine gate_dst (N := 143) rfl ?_); (try (refine gate_guard (by rfl) ?_; dsimp only)); refine Kd.R_lit (Kd.int .i64) _ 2 ?hg (N := 143) ?hd (xs := ([0] : List Int)) (inner := [.int .i64 0]) (ok := fun _ => True) (okp := fun _ => True) ?hr ?hp (fun _ hk => hk) trivial (Below.refl _ _) (Nat.le_refl _) (by simp) ?_; (case hd => rfl); (case hg => rfl); (case hr => first | (go_simp; done) | (go_simp; rfl)); (case hp => exact (Reps.one (show Kd.M (Kd.int .i64) _ _ _ 0 [.int .i64 0] from rfl) (Reps.none _ _))); intro v334 w64 ho65 hb hg_ hnew_; clear hg_ hnew_; (first | rw [← Ny333.out] at ho65 | (simp only [Int.reduceToNat] at ho65; rw [← Ny333.out] at ho65)); have n0_ := Aside0.mk (Kd.R_elder' (by (with_reducible repeat (first | apply Kd.R_alloc | apply Kd.R_drewN | apply Kd.R_drew)); exact HO_3.out) (Kd.R_base ho65) hb); have n1_ := Aside0.mk (Kd.R_elder' (by (with_reducible repeat (first | apply Kd.R_alloc | apply Kd.R_drewN | apply Kd.R_drew)); exact HO_5.out) (Kd.R_base ho65) hb); have n2_ := Aside0.mk (Kd.R_lower (Kd.R_new' (Kd.R_new' ho65 (Kd.R_lt (by (with_reducible repeat (first | apply Kd.R_alloc | apply Kd.R_drewN | apply Kd.R_drew)); exact HO_3.out))) (Kd.R_lt (by (with_reducible repeat (first | apply Kd.R_alloc | apply Kd.R_drewN | apply Kd.R_drew)); exact HO_5.out))) (below_size (by repeat (first | (with_reducible first | exact HB.out | apply below_alloc | apply pw_below_drewN | apply below_drew1) | exact HB.out)))); have n3_ := Aside0.mk (below_step (by repeat (first | (with_reducible first | exact HB.out | apply below_alloc | apply pw_below_drewN | apply below_drew1) | exact HB.out)) hb); clear HO_3; clear HO_5; clear HB; have HO_3 := n0_; have HO_5 := n1_; have HO335 := n2_; have HB := n3_; clear n0_ n1_ n2_ n3_; clear hb ho65)))
                        go_loopg [20, 21] k3 (fun kq v20 v21 w' => ∃ (x20_4 : List Int) (x21_4 : Int), v21 = .int .i64 x21_4 ∧ Aside0 (laws_FnMixes.l1 kq t299 t300 t303 x20_4 x21_4 = some r) ∧ Aside0 (kq ≤ k3) ∧ Aside0 (Kd.R (Kd.int .i64) 2 w' w.heap.size (fun k_ => some k_ ≠ ((.slice Ao63 t303.length co63) : Value).ownBlock ∧ some k_ ≠ (v20 : Value).ownBlock) (.slice Ao12 t299.length co12) t299) ∧ Aside0 (Kd.R (Kd.int .i64) 2 w' w.heap.size (fun k_ => some k_ ≠ ((.slice Ao12 t299.length co12) : Value).ownBlock ∧ some k_ ≠ (v20 : Value).ownBlock) (.slice Ao63 t303.length co63) t303) ∧ Aside0 (Kd.R (Kd.int .i64) 2 w' w.heap.size (fun k_ => some k_ ≠ ((.slice Ao12 t299.length co12) : Value).ownBlock ∧ some k_ ≠ ((.slice Ao63 t303.length co63) : Value).ownBlock) v20 x20_4) ∧ Aside0 (Below w.heap.size w w'))
                        case atStart => exact ⟨(y333), (1), (by first | rfl | (simp; done) | (simp [*]; done)), H', ⟨Nat.le_refl _⟩, ⟨by (with_reducible repeat (first | apply Kd.R_alloc | apply Kd.R_drewN | apply Kd.R_drew)); exact HO_3.out⟩, ⟨by (with_reducible repeat (first | apply Kd.R_alloc | apply Kd.R_drewN | apply Kd.R_drew)); exact HO_5.out⟩, ⟨by (with_reducible repeat (first | apply Kd.R_alloc | apply Kd.R_drewN | apply Kd.R_drew)); exact Kd.R_mono HO335.out (fun _ hk => ⟨hk.1.2, hk.2⟩)⟩, ⟨by repeat (first | (with_reducible first | exact HB.out | apply below_alloc | apply pw_below_drewN | apply below_drew1) | exact HB.out)⟩⟩
                        case round =>
                          clear H'
                          try clear c1
                          try clear c2
                          try clear p2
                          try clear c3
                          try clear p3
                          try clear q3
                          try clear hx3
                          try clear c4
                          try clear c5
                          try clear c6
                          try clear p6
                          try clear c12
                          try clear c19
                          try clear c19b0
                          try clear c19b1
                          try clear c21
                          try clear c22
                          try clear c22b0
                          try clear c22b1
                          try clear c23
                          try clear c23b0
                          try clear c23b1
                          try clear p32
                          try clear q32
                          try clear hx32
                          try clear c33
                          try clear p33
                          try clear q33
                          try clear hx33
                          try clear c35
                          try clear c35b0
                          try clear c35b1
                          try clear c37
                          try clear c37b0
                          try clear c37b1
                          try clear c38
                          try clear c38b0
                          try clear c38b1
                          try clear c41
                          try clear c41b0
                          try clear c41b1
                          try clear c47
                          try clear c47b0
                          try clear c47b1
                          try clear c48
                          try clear c48b0
                          try clear c49
                          try clear c49b0
                          try clear c51
                          try clear c52
                          try clear c52b0
                          try clear c54
                          try clear c54b0
                          try clear c55
                          try clear c55b0
                          try clear c56
                          try clear c56b0
                          try clear c61
                          try clear c61b0
                          try clear c61b1
                          try clear p64
                          try clear hx329_0
                          try clear hx331_0
                          try clear hx332_0
                          try clear p2
                          try clear p329
                          try clear p331
                          try clear p332
                          try clear q329
                          try clear q331
                          try clear q332
                          obtain ⟨x20_4, x21_4, rfl, HA, HK4, HO_3, HO_5, HO_20, HB⟩ := hrel
                          cases gk with
                          | zero => exact absurd HA.out (by simp [laws_FnMixes.l1])
                          | succ k4 =>
                            have H := HA.out
                            clear HA
                            simp only [laws_FnMixes.l1] at H
                            by_cases c66 : x21_4 ≤ t300
                            · rw [if_pos c66] at H
                              have c66b0 : decide (x21_4 ≤ t300) = true := decide_eq_true c66
                              clear c66
                              have H' := Aside0.mk H
                              clear H
                              go_wp2
                              repeat (go_quiet (fail); try go_wp2)
                              go_loopg [22, 23] k4 (fun kq v22 v23 w' => ∃ (x22_5 : Int) (x23_5 : Int), v22 = .int .i64 x22_5 ∧ v23 = .int .i64 x23_5 ∧ Aside0 (laws_FnMixes.l2 kq t299 t300 t303 x20_4 x21_4 x22_5 x23_5 = some r) ∧ Aside0 (kq ≤ k4) ∧ Aside0 (Kd.R (Kd.int .i64) 2 w' w.heap.size (fun k_ => some k_ ≠ ((.slice Ao63 t303.length co63) : Value).ownBlock ∧ some k_ ≠ (u20 : Value).ownBlock) (.slice Ao12 t299.length co12) t299) ∧ Aside0 (Kd.R (Kd.int .i64) 2 w' w.heap.size (fun k_ => some k_ ≠ ((.slice Ao12 t299.length co12) : Value).ownBlock ∧ some k_ ≠ (u20 : Value).ownBlock) (.slice Ao63 t303.length co63) t303) ∧ Aside0 (Kd.R (Kd.int .i64) 2 w' w.heap.size (fun k_ => some k_ ≠ ((.slice Ao12 t299.length co12) : Value).ownBlock ∧ some k_ ≠ ((.slice Ao63 t303.length co63) : Value).ownBlock) u20 x20_4) ∧ Aside0 (Below w.heap.size w w'))
                              case atStart => exact ⟨((-1)), (0), (by first | rfl | (simp; done) | (simp [*]; done)), (by first | rfl | (simp; done) | (simp [*]; done)), H', ⟨Nat.le_refl _⟩, ⟨by (with_reducible repeat (first | apply Kd.R_alloc | apply Kd.R_drewN | apply Kd.R_drew)); exact HO_3.out⟩, ⟨by (with_reducible repeat (first | apply Kd.R_alloc | apply Kd.R_drewN | apply Kd.R_drew)); exact HO_5.out⟩, ⟨by (with_reducible repeat (first | apply Kd.R_alloc | apply Kd.R_drewN | apply Kd.R_drew)); exact HO_20.out⟩, ⟨by repeat (first | (with_reducible first | exact HB.out | apply below_alloc | apply pw_below_drewN | apply below_drew1) | exact HB.out)⟩⟩
                              case round =>
                                clear H'
                                try clear c1
                                try clear c2
                                try clear p2
                                try clear c3
                                try clear p3
                                try clear q3
                                try clear hx3
                                try clear c4
                                try clear c5
                                try clear c6
                                try clear p6
                                try clear c12
                                try clear c19
                                try clear c19b0
                                try clear c19b1
                                try clear c21
                                try clear c22
                                try clear c22b0
                                try clear c22b1
                                try clear c23
                                try clear c23b0
                                try clear c23b1
                                try clear p32
                                try clear q32
                                try clear hx32
                                try clear c33
                                try clear p33
                                try clear q33
                                try clear hx33
                                try clear c35
                                try clear c35b0
                                try clear c35b1
                                try clear c37
                                try clear c37b0
                                try clear c37b1
                                try clear c38
                                try clear c38b0
                                try clear c38b1
                                try clear c41
                                try clear c41b0
                                try clear c41b1
                                try clear c47
                                try clear c47b0
                                try clear c47b1
                                try clear c48
                                try clear c48b0
                                try clear c49
                                try clear c49b0
                                try clear c51
                                try clear c52
                                try clear c52b0
                                try clear c54
                                try clear c54b0
                                try clear c55
                                try clear c55b0
                                try clear c56
                                try clear c56b0
                                try clear c61
                                try clear c61b0
                                try clear c61b1
                                try clear p64
                                try clear c66
                                try clear c66b0
                                try clear hx329_0
                                try clear hx331_0
                                try clear hx332_0
                                try clear p2
                                try clear p3
                                try clear p32
                                try clear p329
                                try clear p33
                                try clear p331
                                try clear p332
                                try clear p6
                                try clear p64
                                try clear q3
                                try clear q32
                                try clear q329
                                try clear q33
                                try clear q331
                                try clear q332
                                obtain ⟨x22_5, x23_5, rfl, rfl, HA, HK5, HO_3, HO_5, HO_20, HB⟩ := hrel
                                cases gk with
                                | zero => exact absurd HA.out (by simp [laws_FnMixes.l2])
                                | succ k5 =>
                                  have H := HA.out
                                  clear HA
                                  simp only [laws_FnMixes.l2] at H
                                  by_cases c67 : x23_5 < (t299.length : Int)
                                  · rw [if_pos c67] at H
                                    have c67b0 : decide (x23_5 < (t299.length : Int)) = true := decide_eq_true c67
                                    clear c67
                                    by_cases c68 : 0 ≤ x23_5
                                    · rw [if_pos c68] at H
                                      have c68b0 : decide (0 ≤ x23_5) = true := decide_eq_true c68
                                      clear c68
                                      by_cases c69 : (rd t299 x23_5) ≤ x21_4
                                      · rw [if_pos c69] at H
                                        have c69b0 : decide ((rd t299 x23_5) ≤ x21_4) = true := decide_eq_true c69
                                        clear c69
                                        obtain ⟨ji70, hji70⟩ : ∃ j_ : Int, (wrap64 (x21_4 - (rd t299 x23_5))) = j_ := ⟨_, rfl⟩
                                        replace H : (if 0 ≤ (ji70) then (if (ji70) < (x20_4.length : Int) then (if (rd x20_4 (ji70)) ≥ 0 then (if x22_5 < 0 then (laws_FnMixes.l2 k5 t299 t300 t303 x20_4 x21_4 (wrap64 ((rd x20_4 (ji70)) + 1)) (wrap64 (x23_5 + 1))) else (if (wrap64 ((rd x20_4 (ji70)) + 1)) < x22_5 then (laws_FnMixes.l2 k5 t299 t300 t303 x20_4 x21_4 (wrap64 ((rd x20_4 (ji70)) + 1)) (wrap64 (x23_5 + 1))) else (laws_FnMixes.l2 k5 t299 t300 t303 x20_4 x21_4 x22_5 (wrap64 (x23_5 + 1))))) else (laws_FnMixes.l2 k5 t299 t300 t303 x20_4 x21_4 x22_5 (wrap64 (x23_5 + 1)))) else (none)) else (none)) = some r := by first | (rw [hji70] at H; exact H) | (simp only [hji70] at H ⊢; exact H)
                                        have hji70w : (IntKind.i64.wrap (x21_4 - (rd t299 x23_5))) = ji70 := (i64_w _).trans hji70
                                        by_cases c71 : 0 ≤ (ji70)
                                        · rw [if_pos c71] at H
                                          have c71b0 : decide (0 ≤ (ji70)) = true := decide_eq_true c71
                                          clear c71
                                          by_cases c72 : (ji70) < (x20_4.length : Int)
                                          · rw [if_pos c72] at H
                                            have c72b0 : decide ((ji70) < (x20_4.length : Int)) = true := decide_eq_true c72
                                            clear c72
                                            by_cases c73 : (rd x20_4 (ji70)) ≥ 0
                                            · rw [if_pos c73] at H
                                              have c73b0 : decide (0 ≤ (rd x20_4 (ji70))) = true := decide_eq_true c73
                                              clear c73
                                              by_cases c74 : x22_5 < 0
                                              · rw [if_pos c74] at H
                                                have c74b0 : decide (x22_5 < 0) = true := decide_eq_true c74
                                                clear c74
                                                have H' := Aside0.mk H
                                                clear H
                                                have p338 : 0 ≤ (x23_5 : Int) := of_decide_eq_true (by first | (with_reducible assumption) | assumption)
                                                have q338 : x23_5 < (t299.length : Int) := of_decide_eq_true (by first | (with_reducible assumption) | assumption)
                                                obtain ⟨ad338, e338, hx338_0⟩ := Kd.at_int (Kd.R_reads' HO_3.out).2.2 x23_5 p338 q338
                                                cases e338
                                                replace p338 := eq_true p338
                                                replace q338 := eq_true q338
                                                have p339 : 0 ≤ (x23_5 : Int) := of_decide_eq_true (by first | (with_reducible assumption) | assumption)
                                                have q339 : x23_5 < (t299.length : Int) := of_decide_eq_true (by first | (with_reducible assumption) | assumption)
                                                obtain ⟨ad339, e339, hx339_0⟩ := Kd.at_int (Kd.R_reads' HO_3.out).2.2 x23_5 p339 q339
                                                obtain rfl : ad338 = ad339 := (by injection e339)
                                                replace p339 := eq_true p339
                                                replace q339 := eq_true q339
                                                obtain ⟨Ao75, co75, eo75⟩ := Kd.R_slice HO_20.out
                                                subst eo75
                                                have p340 : 0 ≤ ((ji70) : Int) := of_decide_eq_true (by first | (with_reducible assumption) | assumption)
                                                have q340 : (ji70) < (x20_4.length : Int) := of_decide_eq_true (by first | (with_reducible assumption) | assumption)
                                                obtain ⟨ad340, e340, hx340_0⟩ := Kd.at_int (Kd.R_reads' HO_20.out).2.2 (ji70) p340 q340
                                                cases e340
                                                replace p340 := eq_true p340
                                                replace q340 := eq_true q340
                                                have p341 : 0 ≤ (x23_5 : Int) := of_decide_eq_true (by first | (with_reducible assumption) | assumption)
                                                have q341 : x23_5 < (t299.length : Int) := of_decide_eq_true (by first | (with_reducible assumption) | assumption)
                                                obtain ⟨ad341, e341, hx341_0⟩ := Kd.at_int (Kd.R_reads' HO_3.out).2.2 x23_5 p341 q341
                                                obtain rfl : ad338 = ad341 := (by injection e341)
                                                replace p341 := eq_true p341
                                                replace q341 := eq_true q341
                                                have p342 : 0 ≤ ((ji70) : Int) := of_decide_eq_true (by first | (with_reducible assumption) | assumption)
                                                have q342 : (ji70) < (x20_4.length : Int) := of_decide_eq_true (by first | (with_reducible assumption) | assumption)
                                                obtain ⟨ad342, e342, hx342_0⟩ := Kd.at_int (Kd.R_reads' HO_20.out).2.2 (ji70) p342 q342
                                                obtain rfl : ad340 = ad342 := (by injection e342)
                                                replace p342 := eq_true p342
                                                replace q342 := eq_true q342
                                                go_wp2
                                                repeat (go_quiet (fail); try go_wp2)
                                                go_roundg k5
                                                case measure => have := HJ9.out; have := HJ33.out; have := HK3.out; have := HK4.out; have := HK5.out; omega
                                                case rel => exact ⟨(wrap64 ((rd x20_4 (ji70)) + 1)), (wrap64 (x23_5 + 1)), (by first | rfl | (simp; done) | (simp only [← hji70] <;> (first | rfl | simp)) | (simp [*]; done)), (by first | rfl | (simp; done) | (simp [*]; done)), H', ⟨by have := HJ9.out; have := HJ33.out; have := HK3.out; have := HK4.out; have := HK5.out; omega⟩, ⟨by (with_reducible repeat (first | apply Kd.R_alloc | apply Kd.R_drewN | apply Kd.R_drew)); exact HO_3.out⟩, ⟨by (with_reducible repeat (first | apply Kd.R_alloc | apply Kd.R_drewN | apply Kd.R_drew)); exact HO_5.out⟩, ⟨by (with_reducible repeat (first | apply Kd.R_alloc | apply Kd.R_drewN | apply Kd.R_drew)); exact HO_20.out⟩, ⟨by repeat (first | (with_reducible first | exact HB.out | apply below_alloc | apply pw_below_drewN | apply below_drew1) | exact HB.out)⟩⟩
                                              · rw [if_neg c74] at H
                                                have c74b0 : decide (x22_5 < 0) = false := decide_eq_false c74
                                                clear c74
                                                by_cases c76 : (wrap64 ((rd x20_4 (ji70)) + 1)) < x22_5
                                                · rw [if_pos c76] at H
                                                  have c76b0 : decide ((wrap64 ((rd x20_4 (ji70)) + 1)) < x22_5) = true := decide_eq_true c76
                                                  clear c76
                                                  have H' := Aside0.mk H
                                                  clear H
                                                  have p338 : 0 ≤ (x23_5 : Int) := of_decide_eq_true (by first | (with_reducible assumption) | assumption)
                                                  have q338 : x23_5 < (t299.length : Int) := of_decide_eq_true (by first | (with_reducible assumption) | assumption)
                                                  obtain ⟨ad338, e338, hx338_0⟩ := Kd.at_int (Kd.R_reads' HO_3.out).2.2 x23_5 p338 q338
                                                  cases e338
                                                  replace p338 := eq_true p338
                                                  replace q338 := eq_true q338
                                                  have p339 : 0 ≤ (x23_5 : Int) := of_decide_eq_true (by first | (with_reducible assumption) | assumption)
                                                  have q339 : x23_5 < (t299.length : Int) := of_decide_eq_true (by first | (with_reducible assumption) | assumption)
                                                  obtain ⟨ad339, e339, hx339_0⟩ := Kd.at_int (Kd.R_reads' HO_3.out).2.2 x23_5 p339 q339
                                                  obtain rfl : ad338 = ad339 := (by injection e339)
                                                  replace p339 := eq_true p339
                                                  replace q339 := eq_true q339
                                                  obtain ⟨Ao77, co77, eo77⟩ := Kd.R_slice HO_20.out
                                                  subst eo77
                                                  have p340 : 0 ≤ ((ji70) : Int) := of_decide_eq_true (by first | (with_reducible assumption) | assumption)
                                                  have q340 : (ji70) < (x20_4.length : Int) := of_decide_eq_true (by first | (with_reducible assumption) | assumption)
                                                  obtain ⟨ad340, e340, hx340_0⟩ := Kd.at_int (Kd.R_reads' HO_20.out).2.2 (ji70) p340 q340
                                                  cases e340
                                                  replace p340 := eq_true p340
                                                  replace q340 := eq_true q340
                                                  have p343 : 0 ≤ (x23_5 : Int) := of_decide_eq_true (by first | (with_reducible assumption) | assumption)
                                                  have q343 : x23_5 < (t299.length : Int) := of_decide_eq_true (by first | (with_reducible assumption) | assumption)
                                                  obtain ⟨ad343, e343, hx343_0⟩ := Kd.at_int (Kd.R_reads' HO_3.out).2.2 x23_5 p343 q343
                                                  obtain rfl : ad338 = ad343 := (by injection e343)
                                                  replace p343 := eq_true p343
                                                  replace q343 := eq_true q343
                                                  have p344 : 0 ≤ ((ji70) : Int) := of_decide_eq_true (by first | (with_reducible assumption) | assumption)
                                                  have q344 : (ji70) < (x20_4.length : Int) := of_decide_eq_true (by first | (with_reducible assumption) | assumption)
                                                  obtain ⟨ad344, e344, hx344_0⟩ := Kd.at_int (Kd.R_reads' HO_20.out).2.2 (ji70) p344 q344
                                                  obtain rfl : ad340 = ad344 := (by injection e344)
                                                  replace p344 := eq_true p344
                                                  replace q344 := eq_true q344
                                                  have p345 : 0 ≤ (x23_5 : Int) := of_decide_eq_true (by first | (with_reducible assumption) | assumption)
                                                  have q345 : x23_5 < (t299.length : Int) := of_decide_eq_true (by first | (with_reducible assumption) | assumption)
                                                  obtain ⟨ad345, e345, hx345_0⟩ := Kd.at_int (Kd.R_reads' HO_3.out).2.2 x23_5 p345 q345
                                                  obtain rfl : ad338 = ad345 := (by injection e345)
                                                  replace p345 := eq_true p345
                                                  replace q345 := eq_true q345
                                                  have p346 : 0 ≤ ((ji70) : Int) := of_decide_eq_true (by first | (with_reducible assumption) | assumption)
                                                  have q346 : (ji70) < (x20_4.length : Int) := of_decide_eq_true (by first | (with_reducible assumption) | assumption)
                                                  obtain ⟨ad346, e346, hx346_0⟩ := Kd.at_int (Kd.R_reads' HO_20.out).2.2 (ji70) p346 q346
                                                  obtain rfl : ad340 = ad346 := (by injection e346)
                                                  replace p346 := eq_true p346
                                                  replace q346 := eq_true q346
                                                  go_wp2
                                                  repeat (go_quiet (fail); try go_wp2)
                                                  go_roundg k5
                                                  case measure => have := HJ9.out; have := HJ33.out; have := HK3.out; have := HK4.out; have := HK5.out; omega
                                                  case rel => exact ⟨(wrap64 ((rd x20_4 (ji70)) + 1)), (wrap64 (x23_5 + 1)), (by first | rfl | (simp; done) | (simp only [← hji70] <;> (first | rfl | simp)) | (simp [*]; done)), (by first | rfl | (simp; done) | (simp [*]; done)), H', ⟨by have := HJ9.out; have := HJ33.out; have := HK3.out; have := HK4.out; have := HK5.out; omega⟩, ⟨by (with_reducible repeat (first | apply Kd.R_alloc | apply Kd.R_drewN | apply Kd.R_drew)); exact HO_3.out⟩, ⟨by (with_reducible repeat (first | apply Kd.R_alloc | apply Kd.R_drewN | apply Kd.R_drew)); exact HO_5.out⟩, ⟨by (with_reducible repeat (first | apply Kd.R_alloc | apply Kd.R_drewN | apply Kd.R_drew)); exact HO_20.out⟩, ⟨by repeat (first | (with_reducible first | exact HB.out | apply below_alloc | apply pw_below_drewN | apply below_drew1) | exact HB.out)⟩⟩
                                                · rw [if_neg c76] at H
                                                  have c76b0 : decide ((wrap64 ((rd x20_4 (ji70)) + 1)) < x22_5) = false := decide_eq_false c76
                                                  clear c76
                                                  have H' := Aside0.mk H
                                                  clear H
                                                  have p338 : 0 ≤ (x23_5 : Int) := of_decide_eq_true (by first | (with_reducible assumption) | assumption)
                                                  have q338 : x23_5 < (t299.length : Int) := of_decide_eq_true (by first | (with_reducible assumption) | assumption)
                                                  obtain ⟨ad338, e338, hx338_0⟩ := Kd.at_int (Kd.R_reads' HO_3.out).2.2 x23_5 p338 q338
                                                  cases e338
                                                  replace p338 := eq_true p338
                                                  replace q338 := eq_true q338
                                                  have p339 : 0 ≤ (x23_5 : Int) := of_decide_eq_true (by first | (with_reducible assumption) | assumption)
                                                  have q339 : x23_5 < (t299.length : Int) := of_decide_eq_true (by first | (with_reducible assumption) | assumption)
                                                  obtain ⟨ad339, e339, hx339_0⟩ := Kd.at_int (Kd.R_reads' HO_3.out).2.2 x23_5 p339 q339
                                                  obtain rfl : ad338 = ad339 := (by injection e339)
                                                  replace p339 := eq_true p339
                                                  replace q339 := eq_true q339
                                                  obtain ⟨Ao78, co78, eo78⟩ := Kd.R_slice HO_20.out
                                                  subst eo78
                                                  have p340 : 0 ≤ ((ji70) : Int) := of_decide_eq_true (by first | (with_reducible assumption) | assumption)
                                                  have q340 : (ji70) < (x20_4.length : Int) := of_decide_eq_true (by first | (with_reducible assumption) | assumption)
                                                  obtain ⟨ad340, e340, hx340_0⟩ := Kd.at_int (Kd.R_reads' HO_20.out).2.2 (ji70) p340 q340
                                                  cases e340
                                                  replace p340 := eq_true p340
                                                  replace q340 := eq_true q340
                                                  have p343 : 0 ≤ (x23_5 : Int) := of_decide_eq_true (by first | (with_reducible assumption) | assumption)
                                                  have q343 : x23_5 < (t299.length : Int) := of_decide_eq_true (by first | (with_reducible assumption) | assumption)
                                                  obtain ⟨ad343, e343, hx343_0⟩ := Kd.at_int (Kd.R_reads' HO_3.out).2.2 x23_5 p343 q343
                                                  obtain rfl : ad338 = ad343 := (by injection e343)
                                                  replace p343 := eq_true p343
                                                  replace q343 := eq_true q343
                                                  have p344 : 0 ≤ ((ji70) : Int) := of_decide_eq_true (by first | (with_reducible assumption) | assumption)
                                                  have q344 : (ji70) < (x20_4.length : Int) := of_decide_eq_true (by first | (with_reducible assumption) | assumption)
                                                  obtain ⟨ad344, e344, hx344_0⟩ := Kd.at_int (Kd.R_reads' HO_20.out).2.2 (ji70) p344 q344
                                                  obtain rfl : ad340 = ad344 := (by injection e344)
                                                  replace p344 := eq_true p344
                                                  replace q344 := eq_true q344
                                                  go_wp2
                                                  repeat (go_quiet (fail); try go_wp2)
                                                  go_roundg k5
                                                  case measure => have := HJ9.out; have := HJ33.out; have := HK3.out; have := HK4.out; have := HK5.out; omega
                                                  case rel => exact ⟨(x22_5), (wrap64 (x23_5 + 1)), (by first | rfl | (simp; done) | (simp [*]; done)), (by first | rfl | (simp; done) | (simp [*]; done)), H', ⟨by have := HJ9.out; have := HJ33.out; have := HK3.out; have := HK4.out; have := HK5.out; omega⟩, ⟨by (with_reducible repeat (first | apply Kd.R_alloc | apply Kd.R_drewN | apply Kd.R_drew)); exact HO_3.out⟩, ⟨by (with_reducible repeat (first | apply Kd.R_alloc | apply Kd.R_drewN | apply Kd.R_drew)); exact HO_5.out⟩, ⟨by (with_reducible repeat (first | apply Kd.R_alloc | apply Kd.R_drewN | apply Kd.R_drew)); exact HO_20.out⟩, ⟨by repeat (first | (with_reducible first | exact HB.out | apply below_alloc | apply pw_below_drewN | apply below_drew1) | exact HB.out)⟩⟩
                                            · rw [if_neg c73] at H
                                              have c73b0 : decide (0 ≤ (rd x20_4 (ji70))) = false := decide_eq_false c73
                                              clear c73
                                              have H' := Aside0.mk H
                                              clear H
                                              have p338 : 0 ≤ (x23_5 : Int) := of_decide_eq_true (by first | (with_reducible assumption) | assumption)
                                              have q338 : x23_5 < (t299.length : Int) := of_decide_eq_true (by first | (with_reducible assumption) | assumption)
                                              obtain ⟨ad338, e338, hx338_0⟩ := Kd.at_int (Kd.R_reads' HO_3.out).2.2 x23_5 p338 q338
                                              cases e338
                                              replace p338 := eq_true p338
                                              replace q338 := eq_true q338
                                              have p339 : 0 ≤ (x23_5 : Int) := of_decide_eq_true (by first | (with_reducible assumption) | assumption)
                                              have q339 : x23_5 < (t299.length : Int) := of_decide_eq_true (by first | (with_reducible assumption) | assumption)
                                              obtain ⟨ad339, e339, hx339_0⟩ := Kd.at_int (Kd.R_reads' HO_3.out).2.2 x23_5 p339 q339
                                              obtain rfl : ad338 = ad339 := (by injection e339)
                                              replace p339 := eq_true p339
                                              replace q339 := eq_true q339
                                              obtain ⟨Ao79, co79, eo79⟩ := Kd.R_slice HO_20.out
                                              subst eo79
                                              have p340 : 0 ≤ ((ji70) : Int) := of_decide_eq_true (by first | (with_reducible assumption) | assumption)
                                              have q340 : (ji70) < (x20_4.length : Int) := of_decide_eq_true (by first | (with_reducible assumption) | assumption)
                                              obtain ⟨ad340, e340, hx340_0⟩ := Kd.at_int (Kd.R_reads' HO_20.out).2.2 (ji70) p340 q340
                                              cases e340
                                              replace p340 := eq_true p340
                                              replace q340 := eq_true q340
                                              go_wp2
                                              repeat (go_quiet (fail); try go_wp2)
                                              go_roundg k5
                                              case measure => have := HJ9.out; have := HJ33.out; have := HK3.out; have := HK4.out; have := HK5.out; omega
                                              case rel => exact ⟨(x22_5), (wrap64 (x23_5 + 1)), (by first | rfl | (simp; done) | (simp [*]; done)), (by first | rfl | (simp; done) | (simp [*]; done)), H', ⟨by have := HJ9.out; have := HJ33.out; have := HK3.out; have := HK4.out; have := HK5.out; omega⟩, ⟨by (with_reducible repeat (first | apply Kd.R_alloc | apply Kd.R_drewN | apply Kd.R_drew)); exact HO_3.out⟩, ⟨by (with_reducible repeat (first | apply Kd.R_alloc | apply Kd.R_drewN | apply Kd.R_drew)); exact HO_5.out⟩, ⟨by (with_reducible repeat (first | apply Kd.R_alloc | apply Kd.R_drewN | apply Kd.R_drew)); exact HO_20.out⟩, ⟨by repeat (first | (with_reducible first | exact HB.out | apply below_alloc | apply pw_below_drewN | apply below_drew1) | exact HB.out)⟩⟩
                                          · rw [if_neg c72] at H
                                            exact absurd H (by simp)
                                        · rw [if_neg c71] at H
                                          exact absurd H (by simp)
                                      · rw [if_neg c69] at H
                                        have c69b0 : decide ((rd t299 x23_5) ≤ x21_4) = false := decide_eq_false c69
                                        clear c69
                                        have H' := Aside0.mk H
                                        clear H
                                        have p338 : 0 ≤ (x23_5 : Int) := of_decide_eq_true (by first | (with_reducible assumption) | assumption)
                                        have q338 : x23_5 < (t299.length : Int) := of_decide_eq_true (by first | (with_reducible assumption) | assumption)
                                        obtain ⟨ad338, e338, hx338_0⟩ := Kd.at_int (Kd.R_reads' HO_3.out).2.2 x23_5 p338 q338
                                        cases e338
                                        replace p338 := eq_true p338
                                        replace q338 := eq_true q338
                                        go_wp2
                                        repeat (go_quiet (fail); try go_wp2)
                                        go_roundg k5
                                        case measure => have := HJ9.out; have := HJ33.out; have := HK3.out; have := HK4.out; have := HK5.out; omega
                                        case rel => exact ⟨(x22_5), (wrap64 (x23_5 + 1)), (by first | rfl | (simp; done) | (simp [*]; done)), (by first | rfl | (simp; done) | (simp [*]; done)), H', ⟨by have := HJ9.out; have := HJ33.out; have := HK3.out; have := HK4.out; have := HK5.out; omega⟩, ⟨by (with_reducible repeat (first | apply Kd.R_alloc | apply Kd.R_drewN | apply Kd.R_drew)); exact HO_3.out⟩, ⟨by (with_reducible repeat (first | apply Kd.R_alloc | apply Kd.R_drewN | apply Kd.R_drew)); exact HO_5.out⟩, ⟨by (with_reducible repeat (first | apply Kd.R_alloc | apply Kd.R_drewN | apply Kd.R_drew)); exact HO_20.out⟩, ⟨by repeat (first | (with_reducible first | exact HB.out | apply below_alloc | apply pw_below_drewN | apply below_drew1) | exact HB.out)⟩⟩
                                    · rw [if_neg c68] at H
                                      exact absurd H (by simp)
                                  · rw [if_neg c67] at H
                                    have c67b0 : decide (x23_5 < (t299.length : Int)) = false := decide_eq_false c67
                                    clear c67
                                    by_cases c80 : x20_4.length < 17592186044416
                                    · rw [if_pos c80] at H
                                      have LMc80 := Aside0.mk c80
                                      clear c80
                                      obtain ⟨y347, hy347⟩ : ∃ y_ : List Int, y_ = (x20_4 ++ [x22_5]) := ⟨_, rfl⟩
                                      replace H : (laws_FnMixes.l1 k5 t299 t300 t303 y347 (wrap64 (x21_4 + 1))) = some r := by first | (rw [hy347]; with_reducible exact H) | (have H2_ := (Option.bind_some _ _).symm.trans H; rw [hy347]; with_reducible exact H2_) | (have H2_ := (Option.bind_some _ _).symm.trans H; with_reducible exact H2_) | with_reducible exact H | (rw [hy347]; exact H) | exact H
                                      have Ny347 := Aside0.mk hy347
                                      clear hy347
                                      have H' := Aside0.mk H
                                      clear H
                                      go_wp2_with (first | ((with_reducible refine gate_builtin (b := .append) (xs := #[.tmp 201, .tmp 203]) rfl ?_); (try (refine gate_guard (by rfl) ?_; dsimp only)); at_builtin; refine Kd.R_append (Kd.int .i64) (w0 := w) w.heap.size rfl (.tmp 201) (.tmp 203) 32 2 (.int .i64 0) 8 rfl Try.underlying32 info2 rfl (by decide) (by omega) u20 x20_4 x22_5 [.int .i64 x22_5] (fun k_ => some k_ ≠ (.slice Ao12 t299.length co12 : Value).ownBlock ∧ some k_ ≠ (.slice Ao63 t303.length co63 : Value).ownBlock) (fun _ => False) rfl rfl ?aP (fun _ hk => hk.elim) ?aF ?aO ?aB ?aS ?aL ?_; (case aP => exact rfl); (case aB => exact (by repeat (first | (with_reducible first | exact HB.out | apply below_alloc | apply pw_below_drewN | apply below_drew1) | exact HB.out))); (case aF => exact (fun k_ hk => ⟨Kd.fresh' (Kd.R_lt (by (with_reducible repeat (first | apply Kd.R_alloc | apply Kd.R_drewN | apply Kd.R_drew)); exact HO_3.out)) k_ hk, Kd.fresh' (Kd.R_lt (by (with_reducible repeat (first | apply Kd.R_alloc | apply Kd.R_drewN | apply Kd.R_drew)); exact HO_5.out)) k_ hk⟩)); (case aO => exact (by (with_reducible repeat (first | apply Kd.R_alloc | apply Kd.R_drewN | apply Kd.R_drew)); exact HO_20.out)); (case aS => exact (below_size (by repeat (first | (with_reducible first | exact HB.out | apply below_alloc | apply pw_below_drewN | apply below_drew1) | exact HB.out)))); (case aL => have := LMc80.out; omega); intro v348 w81 ho hb hg hat; rw [← Ny347.out] at ho; have n0_ := Aside0.mk (Kd.R_after (ok := (fun k_ => some k_ ≠ (.slice Ao63 t303.length co63 : Value).ownBlock)) (by (with_reducible repeat (first | apply Kd.R_alloc | apply Kd.R_drewN | apply Kd.R_drew)); exact HO_3.out) hg hat); have n1_ := Aside0.mk (Kd.R_after (ok := (fun k_ => some k_ ≠ (.slice Ao12 t299.length co12 : Value).ownBlock)) (by (with_reducible repeat (first | apply Kd.R_alloc | apply Kd.R_drewN | apply Kd.R_drew)); exact HO_5.out) hg hat); have n2_ := Aside0.mk (hb); have n3_ := Aside0.mk (ho); clear HO_3; clear HO_5; clear HB; clear HO_20; have HO_3 := n0_; have HO_5 := n1_; have HB := n2_; have HO349 := n3_; clear n0_ n1_ n2_ n3_; clear ho hb hg hat))
                                      repeat (go_quiet (first | ((with_reducible refine gate_builtin (b := .append) (xs := #[.tmp 201, .tmp 203]) rfl ?_); (try (refine gate_guard (by rfl) ?_; dsimp only)); at_builtin; refine Kd.R_append (Kd.int .i64) (w0 := w) w.heap.size rfl (.tmp 201) (.tmp 203) 32 2 (.int .i64 0) 8 rfl Try.underlying32 info2 rfl (by decide) (by omega) u20 x20_4 x22_5 [.int .i64 x22_5] (fun k_ => some k_ ≠ (.slice Ao12 t299.length co12 : Value).ownBlock ∧ some k_ ≠ (.slice Ao63 t303.length co63 : Value).ownBlock) (fun _ => False) rfl rfl ?aP (fun _ hk => hk.elim) ?aF ?aO ?aB ?aS ?aL ?_; (case aP => exact rfl); (case aB => exact (by repeat (first | (with_reducible first | exact HB.out | apply below_alloc | apply pw_below_drewN | apply below_drew1) | exact HB.out))); (case aF => exact (fun k_ hk => ⟨Kd.fresh' (Kd.R_lt (by (with_reducible repeat (first | apply Kd.R_alloc | apply Kd.R_drewN | apply Kd.R_drew)); exact HO_3.out)) k_ hk, Kd.fresh' (Kd.R_lt (by (with_reducible repeat (first | apply Kd.R_alloc | apply Kd.R_drewN | apply Kd.R_drew)); exact HO_5.out)) k_ hk⟩)); (case aO => exact (by (with_reducible repeat (first | apply Kd.R_alloc | apply Kd.R_drewN | apply Kd.R_drew)); exact HO_20.out)); (case aS => exact (below_size (by repeat (first | (with_reducible first | exact HB.out | apply below_alloc | apply pw_below_drewN | apply below_drew1) | exact HB.out)))); (case aL => have := LMc80.out; omega); intro v348 w81 ho hb hg hat; rw [← Ny347.out] at ho; have n0_ := Aside0.mk (Kd.R_after (ok := (fun k_ => some k_ ≠ (.slice Ao63 t303.length co63 : Value).ownBlock)) (by (with_reducible repeat (first | apply Kd.R_alloc | apply Kd.R_drewN | apply Kd.R_drew)); exact HO_3.out) hg hat); have n1_ := Aside0.mk (Kd.R_after (ok := (fun k_ => some k_ ≠ (.slice Ao12 t299.length co12 : Value).ownBlock)) (by (with_reducible repeat (first | apply Kd.R_alloc | apply Kd.R_drewN | apply Kd.R_drew)); exact HO_5.out) hg hat); have n2_ := Aside0.mk (hb); have n3_ := Aside0.mk (ho); clear HO_3; clear HO_5; clear HB; clear HO_20; have HO_3 := n0_; have HO_5 := n1_; have HB := n2_; have HO349 := n3_; clear n0_ n1_ n2_ n3_; clear ho hb hg hat)); try go_wp2_with (first | ((with_reducible refine gate_builtin (b := .append) (xs := #[.tmp 201, .tmp 203]) rfl ?_); (try (refine gate_guard (by rfl) ?_; dsimp only)); at_builtin; refine Kd.R_append (Kd.int .i64) (w0 := w) w.heap.size rfl (.tmp 201) (.tmp 203) 32 2 (.int .i64 0) 8 rfl Try.underlying32 info2 rfl (by decide) (by omega) u20 x20_4 x22_5 [.int .i64 x22_5] (fun k_ => some k_ ≠ (.slice Ao12 t299.length co12 : Value).ownBlock ∧ some k_ ≠ (.slice Ao63 t303.length co63 : Value).ownBlock) (fun _ => False) rfl rfl ?aP (fun _ hk => hk.elim) ?aF ?aO ?aB ?aS ?aL ?_; (case aP => exact rfl); (case aB => exact (by repeat (first | (with_reducible first | exact HB.out | apply below_alloc | apply pw_below_drewN | apply below_drew1) | exact HB.out))); (case aF => exact (fun k_ hk => ⟨Kd.fresh' (Kd.R_lt (by (with_reducible repeat (first | apply Kd.R_alloc | apply Kd.R_drewN | apply Kd.R_drew)); exact HO_3.out)) k_ hk, Kd.fresh' (Kd.R_lt (by (with_reducible repeat (first | apply Kd.R_alloc | apply Kd.R_drewN | apply Kd.R_drew)); exact HO_5.out)) k_ hk⟩)); (case aO => exact (by (with_reducible repeat (first | apply Kd.R_alloc | apply Kd.R_drewN | apply Kd.R_drew)); exact HO_20.out)); (case aS => exact (below_size (by repeat (first | (with_reducible first | exact HB.out | apply below_alloc | apply pw_below_drewN | apply below_drew1) | exact HB.out)))); (case aL => have := LMc80.out; omega); intro v348 w81 ho hb hg hat; rw [← Ny347.out] at ho; have n0_ := Aside0.mk (Kd.R_after (ok := (fun k_ => some k_ ≠ (.slice Ao63 t303.length co63 : Value).ownBlock)) (by (with_reducible repeat (first | apply Kd.R_alloc | apply Kd.R_drewN | apply Kd.R_drew)); exact HO_3.out) hg hat); have n1_ := Aside0.mk (Kd.R_after (ok := (fun k_ => some k_ ≠ (.slice Ao12 t299.length co12 : Value).ownBlock)) (by (with_reducible repeat (first | apply Kd.R_alloc | apply Kd.R_drewN | apply Kd.R_drew)); exact HO_5.out) hg hat); have n2_ := Aside0.mk (hb); have n3_ := Aside0.mk (ho); clear HO_3; clear HO_5; clear HB; clear HO_20; have HO_3 := n0_; have HO_5 := n1_; have HB := n2_; have HO349 := n3_; clear n0_ n1_ n2_ n3_; clear ho hb hg hat)))
                                      go_roundg k5
                                      case measure => have := HJ9.out; have := HJ33.out; have := HK3.out; have := HK4.out; have := HK5.out; omega
                                      case rel => exact ⟨(y347), (wrap64 (x21_4 + 1)), (by first | rfl | (simp; done) | (simp [*]; done)), H', ⟨by have := HJ9.out; have := HJ33.out; have := HK3.out; have := HK4.out; have := HK5.out; omega⟩, ⟨by (with_reducible repeat (first | apply Kd.R_alloc | apply Kd.R_drewN | apply Kd.R_drew)); exact HO_3.out⟩, ⟨by (with_reducible repeat (first | apply Kd.R_alloc | apply Kd.R_drewN | apply Kd.R_drew)); exact HO_5.out⟩, ⟨by (with_reducible repeat (first | apply Kd.R_alloc | apply Kd.R_drewN | apply Kd.R_drew)); exact HO349.out⟩, ⟨by repeat (first | (with_reducible first | exact HB.out | apply below_alloc | apply pw_below_drewN | apply below_drew1) | exact HB.out)⟩⟩
                                    · rw [if_neg c80] at H
                                      exact absurd H (by simp)
                            · rw [if_neg c66] at H
                              have c66b0 : decide (x21_4 ≤ t300) = false := decide_eq_false c66
                              clear c66
                              replace H := Option.bind_eq_some_iff.mp H
                              obtain ⟨t336, A820, H⟩ := H
                              replace H : (if t336 = t300 then (if (t303.length : Int) ≤ 30 then (if 0 ≤ t300 then (if t300 < (x20_4.length : Int) then (some ((t303.length : Int) == (rd x20_4 t300))) else (none)) else (none)) else (some false)) else (some false)) = some r := H
                              have A82 := Aside0.mk A820
                              clear A820
                              by_cases c83 : t336 = t300
                              · rw [if_pos c83] at H
                                have c83b0 : (t336 == t300) = true := beq_iff_eq.mpr c83
                                have c83b1 : (t336 != t300) = false := bne_eq_false_iff_eq.mpr c83
                                clear c83
                                by_cases c84 : (t303.length : Int) ≤ 30
                                · rw [if_pos c84] at H
                                  have c84b0 : decide ((t303.length : Int) ≤ 30) = true := decide_eq_true c84
                                  have c84b1 : decide (t303.length ≤ 30) = true := decide_eq_true (by omega)
                                  clear c84
                                  by_cases c85 : 0 ≤ t300
                                  · rw [if_pos c85] at H
                                    have c85b0 : decide (0 ≤ t300) = true := decide_eq_true c85
                                    clear c85
                                    by_cases c86 : t300 < (x20_4.length : Int)
                                    · rw [if_pos c86] at H
                                      have c86b0 : decide (t300 < (x20_4.length : Int)) = true := decide_eq_true c86
                                      clear c86
                                      obtain rfl := Option.some.inj H
                                      go_wp2_with (first | (go_at_call 73; (with_reducible refine (laws_sum.calls k4 _ _ t303 t336 _ ?side1 ?side2 A82.out).mono ?_); (case side1 => repeat (first | exact (Kd.R_reads' HO_5.out).2.2 | (with_reducible refine Kd.C_alloc ?_ _) | (with_reducible refine Kd.C_drewN ?_ _) | (with_reducible refine Kd.C_drew ?_))); (case side2 => exact (Kd.R_reads' HO_5.out).2.1); rintro e w' ⟨rfl, ⟨nd, rfl⟩⟩; (try first | exact ⟨rfl, _, World.drewN_drewN _ _ _⟩ | exact ⟨rfl, _, Eq.trans (World.drewN_drewN _ _ _) (congrArg (World.drewN _) (Nat.add_assoc _ _ _))⟩); obtain ⟨Ao87, co87, eo87⟩ := Kd.R_slice HO_20.out; subst eo87; have p337 : 0 ≤ (t300 : Int) := of_decide_eq_true (by first | (with_reducible assumption) | assumption); have q337 : t300 < (x20_4.length : Int) := of_decide_eq_true (by first | (with_reducible assumption) | assumption); obtain ⟨ad337, e337, hx337_0⟩ := Kd.at_int (Kd.R_reads' HO_20.out).2.2 t300 p337 q337; cases e337; replace p337 := eq_true p337; replace q337 := eq_true q337))
                                      repeat (go_quiet (first | (go_at_call 73; (with_reducible refine (laws_sum.calls k4 _ _ t303 t336 _ ?side1 ?side2 A82.out).mono ?_); (case side1 => repeat (first | exact (Kd.R_reads' HO_5.out).2.2 | (with_reducible refine Kd.C_alloc ?_ _) | (with_reducible refine Kd.C_drewN ?_ _) | (with_reducible refine Kd.C_drew ?_))); (case side2 => exact (Kd.R_reads' HO_5.out).2.1); rintro e w' ⟨rfl, ⟨nd, rfl⟩⟩; (try first | exact ⟨rfl, _, World.drewN_drewN _ _ _⟩ | exact ⟨rfl, _, Eq.trans (World.drewN_drewN _ _ _) (congrArg (World.drewN _) (Nat.add_assoc _ _ _))⟩); obtain ⟨Ao87, co87, eo87⟩ := Kd.R_slice HO_20.out; subst eo87; have p337 : 0 ≤ (t300 : Int) := of_decide_eq_true (by first | (with_reducible assumption) | assumption); have q337 : t300 < (x20_4.length : Int) := of_decide_eq_true (by first | (with_reducible assumption) | assumption); obtain ⟨ad337, e337, hx337_0⟩ := Kd.at_int (Kd.R_reads' HO_20.out).2.2 t300 p337 q337; cases e337; replace p337 := eq_true p337; replace q337 := eq_true q337)); try go_wp2_with (first | (go_at_call 73; (with_reducible refine (laws_sum.calls k4 _ _ t303 t336 _ ?side1 ?side2 A82.out).mono ?_); (case side1 => repeat (first | exact (Kd.R_reads' HO_5.out).2.2 | (with_reducible refine Kd.C_alloc ?_ _) | (with_reducible refine Kd.C_drewN ?_ _) | (with_reducible refine Kd.C_drew ?_))); (case side2 => exact (Kd.R_reads' HO_5.out).2.1); rintro e w' ⟨rfl, ⟨nd, rfl⟩⟩; (try first | exact ⟨rfl, _, World.drewN_drewN _ _ _⟩ | exact ⟨rfl, _, Eq.trans (World.drewN_drewN _ _ _) (congrArg (World.drewN _) (Nat.add_assoc _ _ _))⟩); obtain ⟨Ao87, co87, eo87⟩ := Kd.R_slice HO_20.out; subst eo87; have p337 : 0 ≤ (t300 : Int) := of_decide_eq_true (by first | (with_reducible assumption) | assumption); have q337 : t300 < (x20_4.length : Int) := of_decide_eq_true (by first | (with_reducible assumption) | assumption); obtain ⟨ad337, e337, hx337_0⟩ := Kd.at_int (Kd.R_reads' HO_20.out).2.2 t300 p337 q337; cases e337; replace p337 := eq_true p337; replace q337 := eq_true q337)))
                                      go_ret
                                      exact ⟨by first | rfl | (simp [errW_none, errW_some] <;> rfl) | (simp [*, errW_none, errW_some] <;> rfl), by repeat (first | (with_reducible first | exact HB.out | apply below_alloc | apply pw_below_drewN | apply below_drew1) | exact HB.out)⟩
                                    · rw [if_neg c86] at H
                                      exact absurd H (by simp)
                                  · rw [if_neg c85] at H
                                    exact absurd H (by simp)
                                · rw [if_neg c84] at H
                                  have c84b0 : decide ((t303.length : Int) ≤ 30) = false := decide_eq_false c84
                                  have c84b1 : decide (t303.length ≤ 30) = false := decide_eq_false (by omega)
                                  clear c84
                                  exact absurd ((Option.some.inj H).trans hT) (by decide)
                              · rw [if_neg c83] at H
                                have c83b0 : (t336 == t300) = false := beq_eq_false_iff_ne.mpr c83
                                have c83b1 : (t336 != t300) = true := bne_iff_ne.mpr c83
                                exact absurd ((Option.some.inj H).trans hT) (by decide)
              · rw [if_neg c47] at H
                have c47b0 : (t304 == 0) = false := beq_eq_false_iff_ne.mpr c47
                have c47b1 : (t304 != 0) = true := bne_iff_ne.mpr c47
                obtain rfl := Option.some.inj H
                go_wp2
                repeat (go_quiet (fail); try go_wp2)
                go_ret
                exact ⟨by first | rfl | (simp [errW_none, errW_some] <;> rfl) | (simp [*, errW_none, errW_some] <;> rfl), by repeat (first | (with_reducible first | exact HB.out | apply below_alloc | apply pw_below_drewN | apply below_drew1) | exact HB.out)⟩


/-- THE ONE PURE STATEMENT of laws_FnMixes: yours. -/
def laws_FnMixes.Pure : Prop := ∀ (l0 : List Int), l0.length ≤ maxLen → l0.length * 1 ≤ 140737488351232 → (∀ x ∈ l0, (Lit.int .u8 x).wf = true) → ∃ k, laws_FnMixes.f k l0 = some true
theorem laws_FnMixes.walk (P : laws_FnMixes.Pure) (a0 : Option Addr) (len0 cap0 : Nat) (z0 : List Int) (w : World) (w0 : (a0 = none ∧ len0 = 0 ∧ cap0 = 0 ∧ z0 = []) ∨ ∃ x, a0 = some x ∧ len0 ≤ cap0 ∧ cap0 ≤ maxLen ∧ z0.length = cap0 ∧ (∀ i, i < z0.length → w.cell? (x.add i) = some (.int .u8 (z0.getD i 0))) ∧ ∀ n ∈ z0, (Lit.int .u8 n).wf = true) (y0 : len0 * 1 ≤ 140737488351232) :
    Calls Try.prog 12 #[.slice a0 len0 cap0] w fun e w' => e = .returned (.bool true) ∧ Below w.heap.size w w' := by
  obtain ⟨l0, rfl, hr0, hm0, hw0, hc0⟩ := ReadsInt.ofRowC w0
  obtain ⟨k, h⟩ := P l0 hm0 y0 hw0
  refine (laws_FnMixes.calls k _ _ l0 true w (Kd.C_of_reads (d := (0 : Int)) (h1 := fun _ => rfl) hr0) hc0 h rfl).mono ?_
  rintro e w' ⟨rfl, hd⟩
  exact ⟨rfl, hd⟩


end Go.Proofs.Ytffnhobhpfnimaa.PFnMixes
