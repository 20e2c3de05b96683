/- QFnWiredj of the law FnWired: taken over, declaration by declaration, as far as the law leans on it (the words and the printed functions are the kit's own print). No condition but what each says. -/
import Derived.Test.YtedcdhnbceaaeaaZFnWiredav
import Derived.Test.YtedcdhnbceaaeaaZFnWiredaw
import Derived.Test.YtedcdhnbceaaeaaZFnWiredax
import Derived.Test.YtedcdhnbceaaeaaZFnWiredaz
import Derived.Test.YtedcdhnbceaaeaaZFnWiredba
import Derived.Test.YtedcdhnbceaaeaaZFnWiredbb
import Derived.Test.YtedcdhnbceaaeaaZFnWiredbd
import Derived.Test.YtedcdhnbceaaeaaZFnWiredbe
import Derived.Test.YtedcdhnbceaaeaaZFnWiredbf
namespace Go.Proofs.Ytedcdhnbceaaeaa.PFnWired
open Go.RowKit Go.Proofs.YtedcdhnbceaaeaaW.PrintWords Go.Proofs.YtedcdhnbceaaeaaW.PrintLast Go.Proofs.YtedcdhnbceaaeaaW.PrintMore
attribute [local go_sem] max2_int min2_int max_two min_two max_three min_three max_four min_four   -- for this text's walks alone
set_option linter.unusedVariables false
set_option linter.unusedSimpArgs false
open Bool renaming true → t_, false → f_
section
attribute [local go_sem high] eqA160
def laws_likeInts.l0 : Nat → List Int → List Int → Int → Option (Bool)
 | 0, _, _, _ => none
 | k + 1, x0, x1, x5 => if x5 < (x0.length : Int) then (if 0 ≤ x5 then (if x5 < (x1.length : Int) then (if (rd x0 x5) = (rd x1 x5) then (laws_likeInts.l0 k x0 x1 (wrap64 (x5 + 1))) else (some false)) else (none)) else (none)) else (some true)
def laws_likeInts.f (k : Nat) (l0 : List Int) (l1 : List Int) : Option (Bool) := if (l0.length : Int) = (l1.length : Int) then (laws_likeInts.l0 k l0 l1 0) else (some false)
set_option maxHeartbeats 8000000 in
set_option maxRecDepth 100000 in
theorem laws_likeInts.calls (k : Nat) (A0 : Option Addr) (c0 : Nat) (l0 : List Int) (A1 : Option Addr) (c1 : Nat) (l1 : List Int) (r : Bool) (w : World) (hr0 : Kd.C (Kd.int .i64) w A0 l0.length l0) (hc0 : l0.length ≤ c0) (hr1 : Kd.C (Kd.int .i64) w A1 l1.length l1) (hc1 : l1.length ≤ c1) (h : laws_likeInts.f k l0 l1 = some r) :
  Calls Try.prog 43 #[.slice A0 l0.length c0, .slice A1 l1.length c1] w fun e w' => e = .returned (.bool r) ∧ Drawn0 w w' := by
 have HR0 := Aside0.mk hr0
 have HC0 := Aside0.mk hc0
 clear hr0 hc0
 have HR1 := Aside0.mk hr1
 have HC1 := Aside0.mk hc1
 clear hr1 hc1
 have H : (if (l0.length : Int) = (l1.length : Int) then (laws_likeInts.l0 k l0 l1 0) else (some false)) = some r := h
 clear h
 by_cases c3 : (l0.length : Int) = (l1.length : Int)
 ·rw [if_pos c3] at H
  have c3b0 : ((l0.length : Int) == (l1.length : Int)) = true := beq_iff_eq.mpr c3
  have c3b1 : ((l0.length : Int) != (l1.length : Int)) = false := bne_eq_false_iff_eq.mpr c3
  have c3b2 : (l0.length == l1.length) = true := by first | simpa using c3 | (simp at c3 ⊢; omega)
  clear c3
  have H' := Aside0.mk H
  clear H
  go_enter Try.func43, Try.ntmps43
  go_wp2
  repeat (go_quiet (fail); try go_wp2)
  go_loopg [5] k (fun kq v5 w' => ∃ (x5_1 : Int), v5 = .int .i64 x5_1 ∧ Aside0 (laws_likeInts.l0 kq l0 l1 x5_1 = some r) ∧ Aside0 (kq ≤ k) ∧ Drawn0 w w')
  case atStart => exact ⟨(0), (by first | rfl | (simp; done) | (simp [*]; done)), H', ⟨Nat.le_refl _⟩, by repeat (first | exact Drawn0.refl _ | apply Drawn0.step)⟩
  case round =>
   clear H'
   try clear c1
   try clear p2
   try clear c3
   try clear c3b0
   try clear c3b1
   try clear c3b2
   obtain ⟨x5_1, rfl, HA, HK1, ⟨m1, rfl⟩⟩ := hrel
   cases gk with
   | zero => exact absurd HA.out (by simp [laws_likeInts.l0])
   | succ k1 =>
    have H := HA.out
    clear HA
    simp only [laws_likeInts.l0] at H
    by_cases c4 : x5_1 < (l0.length : Int)
    ·rw [if_pos c4] at H
     have c4b0 : decide (x5_1 < (l0.length : Int)) = true := decide_eq_true c4
     clear c4
     by_cases c5 : 0 ≤ x5_1
     case neg =>
      rw [if_neg c5] at H
      exact absurd H (by simp)
     rw [if_pos c5] at H
     have c5b0 : decide (0 ≤ x5_1) = true := decide_eq_true c5
     clear c5
     by_cases c6 : x5_1 < (l1.length : Int)
     case neg =>
      rw [if_neg c6] at H
      exact absurd H (by simp)
     rw [if_pos c6] at H
     have c6b0 : decide (x5_1 < (l1.length : Int)) = true := decide_eq_true c6
     clear c6
     by_cases c7 : (rd l0 x5_1) = (rd l1 x5_1)
     ·rw [if_pos c7] at H
      have c7b0 : ((rd l0 x5_1) == (rd l1 x5_1)) = true := beq_iff_eq.mpr c7
      have c7b1 : ((rd l0 x5_1) != (rd l1 x5_1)) = false := bne_eq_false_iff_eq.mpr c7
      clear c7
      have H' := Aside0.mk H
      clear H
      have p609 : 0 ≤ (x5_1 : Int) := od_
      have q609 : x5_1 < (l0.length : Int) := od_
      obtain ⟨ad609, e609, hx609_0⟩ := Kd.at_int HR0.out x5_1 p609 q609
      cases e609
      replace p609 := eq_true p609
      replace q609 := eq_true q609
      have p610 : 0 ≤ (x5_1 : Int) := od_
      have q610 : x5_1 < (l1.length : Int) := od_
      obtain ⟨ad610, e610, hx610_0⟩ := Kd.at_int HR1.out x5_1 p610 q610
      cases e610
      replace p610 := eq_true p610
      replace q610 := eq_true q610
      go_wp2
      repeat (go_quiet (fail); try go_wp2)
      go_roundg k1
      case measure => have := HK1.out; omega
      case rel => exact ⟨(wrap64 (x5_1 + 1)), (by first | rfl | (simp; done) | (simp [*]; done)), H', ⟨by have := HK1.out; omega⟩, by repeat (first | exact Drawn0.refl _ | apply Drawn0.step)⟩
     ·rw [if_neg c7] at H
      have c7b0 : ((rd l0 x5_1) == (rd l1 x5_1)) = false := beq_eq_false_iff_ne.mpr c7
      have c7b1 : ((rd l0 x5_1) != (rd l1 x5_1)) = true := bne_iff_ne.mpr c7
      obtain rfl := Option.some.inj H
      have p609 : 0 ≤ (x5_1 : Int) := od_
      have q609 : x5_1 < (l0.length : Int) := od_
      obtain ⟨ad609, e609, hx609_0⟩ := Kd.at_int HR0.out x5_1 p609 q609
      cases e609
      replace p609 := eq_true p609
      replace q609 := eq_true q609
      have p610 : 0 ≤ (x5_1 : Int) := od_
      have q610 : x5_1 < (l1.length : Int) := od_
      obtain ⟨ad610, e610, hx610_0⟩ := Kd.at_int HR1.out x5_1 p610 q610
      cases e610
      replace p610 := eq_true p610
      replace q610 := eq_true q610
      go_wp2
      repeat (go_quiet (fail); try go_wp2)
      go_ret
      exact ⟨by first | rfl | (simp; done) | (simp [*]; done), by repeat (first | exact Drawn0.refl _ | apply Drawn0.step)⟩
    ·rw [if_neg c4] at H
     have c4b0 : decide (x5_1 < (l0.length : Int)) = false := decide_eq_false c4
     clear c4
     obtain rfl := Option.some.inj H
     go_wp2
     repeat (go_quiet (fail); try go_wp2)
     go_ret
     exact ⟨by first | rfl | (simp; done) | (simp [*]; done), by repeat (first | exact Drawn0.refl _ | apply Drawn0.step)⟩
 ·rw [if_neg c3] at H
  have c3b0 : ((l0.length : Int) == (l1.length : Int)) = false := beq_eq_false_iff_ne.mpr c3
  have c3b1 : ((l0.length : Int) != (l1.length : Int)) = true := bne_iff_ne.mpr c3
  have c3b2 : (l0.length == l1.length) = false := by first | simpa using c3 | (simp at c3 ⊢; omega)
  obtain rfl := Option.some.inj H
  go_enter Try.func43, Try.ntmps43
  go_wp2
  repeat (go_quiet (fail); try go_wp2)
  go_ret
  exact ⟨by first | rfl | (simp; done) | (simp [*]; done), by repeat (first | exact Drawn0.refl _ | apply Drawn0.step)⟩
end
def impl_LooseCues.f (k : Nat) (l0 : List (S200)) (a1 : Int) (l2 : List (S160)) : Option (List Int × Int) := (impl_AreWires.f k l0 a1 l2).bind fun t611 => (if t611 = true then ((impl_looseCues.f k a1 l2).bind fun t612 => (some (t612, 0))) else (some (([] : List Int), 1)))
set_option maxHeartbeats 8000000 in
set_option maxRecDepth 100000 in
theorem impl_LooseCues.calls (k : Nat) (A0 : Option Addr) (c0 : Nat) (l0 : List (S200)) (a1 : Int) (A2 : Option Addr) (c2 : Nat) (l2 : List (S160)) (r1 : List Int) (r2 : Int) (w : World) (hr0 : Kd.C k200 w A0 l0.length l0) (hc0 : l0.length ≤ c0) (hr2 : Kd.C k160 w A2 l2.length l2) (hc2 : l2.length ≤ c2) (h : impl_LooseCues.f k l0 a1 l2 = some (r1, r2)) :
    Calls Try.prog 45 #[.slice A0 l0.length c0, .int .i64 a1, .slice A2 l2.length c2] w fun e w' => ∃ v0_ : Value, e = .returned (.tuple #[v0_, .int .i64 r2]) ∧ Kd.R (Kd.int .i64) 2 w' w.heap.size (fun _ => True) v0_ r1 ∧ Below w.heap.size w w' := by
  have HR0 := Aside0.mk hr0
  have HC0 := Aside0.mk hc0
  clear hr0 hc0
  have HR2 := Aside0.mk hr2
  have HC2 := Aside0.mk hc2
  clear hr2 hc2
  have HB := Aside0.mk (Below.refl w.heap.size w)
  have H : ((impl_AreWires.f k l0 a1 l2).bind fun t611 => (if t611 = true then ((impl_looseCues.f k a1 l2).bind fun t612 => (some (t612, 0))) else (some (([] : List Int), 1)))) = some (r1, r2) := h
  clear h
  replace H := Option.bind_eq_some_iff.mp H
  obtain ⟨t611, A40, H⟩ := H
  replace H : (if t611 = true then ((impl_looseCues.f k a1 l2).bind fun t612 => (some (t612, 0))) else (some (([] : List Int), 1))) = some (r1, r2) := H
  have A4 := Aside0.mk A40
  clear A40
  by_cases c5 : t611 = true
  · subst c5
    replace H : ((impl_looseCues.f k a1 l2).bind fun t612 => (some (t612, 0))) = some (r1, r2) := by rw [if_pos rfl] at H; exact H
    replace H := Option.bind_eq_some_iff.mp H
    obtain ⟨t612, A60, H⟩ := H
    replace H : (some (t612, 0)) = some (r1, r2) := H
    have A6 := Aside0.mk A60
    clear A60
    simp only [Option.some.injEq, Prod.mk.injEq] at H
    obtain ⟨rfl, rfl⟩ := H
    go_enter Try.func45, Try.ntmps45
    go_wp2_with (first | ((with_reducible refine gate_callee (f := 44) rfl ?_); refine goesL_ (some 11) rfl rfl Try.func44 (by kernel_rfl) rfl #[.slice A0 l0.length c0, .int .i64 a1, .slice A2 l2.length c2] rfl ag_ ?_; (with_reducible refine (impl_AreWires.calls k _ _ l0 a1 _ _ l2 true _ ?side1 ?side2 ?side3 ?side4 A4.out).mono ?_); (case side1 => exact r9_ HR0.out); (case side2 => exact HC0.out); (case side3 => exact r9_ HR2.out); (case side4 => exact HC2.out); rintro e w7 ⟨rfl, hb⟩; refine ⟨_, rfl, ?_⟩; replace HB := Aside0.mk (below_step (bl_ HB.out) hb); (try clear hb); (try clear hb2); (try clear hk); (try clear hi)) | ((with_reducible refine gate_callee (f := 124) rfl ?_); refine goesL_ (some 15) rfl rfl Try.func124 (by kernel_rfl) rfl #[.int .i64 a1, .slice A2 l2.length c2] rfl ag_ ?_; (with_reducible refine (impl_looseCues.calls k a1 _ _ l2 t612 _ ?side1 ?side2 A6.out).mono ?_); (case side1 => exact r5_ HR2.out HB.out); (case side2 => exact HC2.out); rintro e w8 ⟨v613, rfl, ho0, hb⟩; refine ⟨_, rfl, ?_⟩; have HO614 := Aside0.mk (Kd.R_lower ho0 (below_size (bl_ HB.out))); replace HB := Aside0.mk (below_step (bl_ HB.out) hb); (try clear hb); (try clear hb2); (try clear hk); (try clear hi); (try clear ho0)))
    go_ret2
    exact ⟨_, by first | rfl | (simp [errW_none, errW_some] <;> rfl) | (simp [*, errW_none, errW_some] <;> rfl), rk_ HO614.out, bl_ HB.out⟩
  · replace c5 := Bool.eq_false_iff.mpr c5
    subst c5
    replace H : (some (([] : List Int), 1)) = some (r1, r2) := by rw [if_neg (show ¬ (false = true) by decide)] at H; exact H
    simp only [Option.some.injEq, Prod.mk.injEq] at H
    obtain ⟨rfl, rfl⟩ := H
    go_enter Try.func45, Try.ntmps45
    go_wp2_with (first | ((with_reducible refine gate_callee (f := 44) rfl ?_); refine goesL_ (some 11) rfl rfl Try.func44 (by kernel_rfl) rfl #[.slice A0 l0.length c0, .int .i64 a1, .slice A2 l2.length c2] rfl ag_ ?_; (with_reducible refine (impl_AreWires.calls k _ _ l0 a1 _ _ l2 false _ ?side1 ?side2 ?side3 ?side4 A4.out).mono ?_); (case side1 => exact r9_ HR0.out); (case side2 => exact HC0.out); (case side3 => exact r9_ HR2.out); (case side4 => exact HC2.out); rintro e w9 ⟨rfl, hb⟩; refine ⟨_, rfl, ?_⟩; replace HB := Aside0.mk (below_step (bl_ HB.out) hb); (try clear hb); (try clear hb2); (try clear hk); (try clear hi)))
    go_ret2
    exact ⟨_, by first | rfl | (simp [errW_none, errW_some] <;> rfl) | (simp [*, errW_none, errW_some] <;> rfl), by first | exact Kd.R_nil _ _ _ _ _ | exact Kd.N_nil _ _ _ _ _ | exact Kd.V_nil _ _ _ _ _ | exact Kd.Q_nil _ _ _ _ _ | exact Kd.S_nil _ _ _ _ _, bl_ HB.out⟩
mutual
def laws_FnWired.j0 : Nat → List (S200) → Int → List (S160) → Int → List (S200) → Int → Int → Int → Int → List (S160) → Int → List (S160) → Int → List Int → Int → Bool → Option (Bool)
 | 0, _, _, _, _, _, _, _, _, _, _, _, _, _, _, _, _ => none
 | k + 1, x3, x4, x6, x7, x10, x11, x13, x14, x15, x16, x17, x31, x32, x33, x34, x181 => if x181 = true then (some false) else (if x17 = 0 then ((impl_CueAt.f k x10 x11 x16 x14 x15).bind fun bt681 => (if bt681.2 = 0 then (if bt681.1 = x13 then ((impl_AreWires.f k x10 x11 x16).bind fun t683 => (if t683 = true then (laws_FnWired.j1 k x3 x4 x6 x7 x31 x32 x33 x34) else (some false))) else (some false)) else (some false))) else (laws_FnWired.j1 k x3 x4 x6 x7 x31 x32 x33 x34))
def laws_FnWired.j1 : Nat → List (S200) → Int → List (S160) → Int → List (S160) → Int → List Int → Int → Option (Bool)
 | 0, _, _, _, _, _, _, _, _ => none
 | k + 1, x3, x4, x6, x7, x31, x32, x33, x34 => if x34 = 0 then (if x32 = 0 then (laws_FnWired.j2 k x3 x4 x6 x7 ((x33.length : Int) != (x31.length : Int))) else (laws_FnWired.j2 k x3 x4 x6 x7 false)) else (laws_FnWired.j2 k x3 x4 x6 x7 false)
def laws_FnWired.j2 : Nat → List (S200) → Int → List (S160) → Int → Bool → Option (Bool)
 | 0, _, _, _, _, _ => none
 | k + 1, x3, x4, x6, x7, x219 => if x219 = true then (some false) else (if x7 = 0 then ((impl_LooseCues.f k x3 x4 x6).bind fun bt684 => (if bt684.2 = 0 then (if (bt684.1.length : Int) = 0 then (if (x6.length : Int) = x4 then ((impl_AreWires.f k x3 x4 x6).bind fun t688 => (some t688)) else (some false)) else (some false)) else (some false))) else (some true))
end
def laws_FnWired.f (k : Nat) (l0 : List Int) : Option (Bool) := (laws_big.f l0).bind fun t615 => (if t615 = true then (some true) else ((spec_DrawWireAll.f k l0).bind fun bt616 => ((impl_WireAll.f k bt616.1 bt616.2.1 bt616.2.2).bind fun bt623 => ((spec_WireAll.f k bt616.1 bt616.2.1 bt616.2.2).bind fun bt627 => ((spec_DrawMoveWire.f k l0).bind fun bt631 => ((impl_MoveWire.f k bt631.1 bt631.2.1 bt631.2.2.1 bt631.2.2.2.1 bt631.2.2.2.2.1 bt631.2.2.2.2.2).bind fun bt641 => ((spec_MoveWire.f k bt631.1 bt631.2.1 bt631.2.2.1 bt631.2.2.2.1 bt631.2.2.2.2.1 bt631.2.2.2.2.2).bind fun bt645 => ((spec_DrawCueAt.f k l0).bind fun bt649 => ((impl_CueAt.f k bt649.1 bt649.2.1 bt649.2.2.1 bt649.2.2.2.1 bt649.2.2.2.2).bind fun bt658 => ((spec_CueAt.f k bt649.1 bt649.2.1 bt649.2.2.1 bt649.2.2.2.1 bt649.2.2.2.2).bind fun bt660 => ((spec_DrawCuesBelow.f k l0).bind fun bt662 => ((impl_CuesBelow.f k bt662.1 bt662.2.1 bt662.2.2.1 bt662.2.2.2).bind fun bt670 => ((spec_CuesBelow.f k bt662.1 bt662.2.1 bt662.2.2.1 bt662.2.2.2).bind fun bt674 => (if bt623.2 = bt627.2 then ((laws_likeWires.f k bt623.1 bt627.1).bind fun t678 => (if t678 = true then (if bt641.2 = bt645.2 then ((laws_likeWires.f k bt641.1 bt645.1).bind fun t679 => (if t679 = true then (if bt658.2 = bt660.2 then (if bt658.1 = bt660.1 then (if bt670.2 = bt674.2 then ((laws_likeInts.f k bt670.1 bt674.1).bind fun t680 => (laws_FnWired.j0 k bt616.1 bt616.2.1 bt623.1 bt623.2 bt631.1 bt631.2.1 bt631.2.2.2.1 bt631.2.2.2.2.1 bt631.2.2.2.2.2 bt641.1 bt641.2 bt662.2.2.1 bt662.2.2.2 bt670.1 bt670.2 (!t680))) else (laws_FnWired.j0 k bt616.1 bt616.2.1 bt623.1 bt623.2 bt631.1 bt631.2.1 bt631.2.2.2.1 bt631.2.2.2.2.1 bt631.2.2.2.2.2 bt641.1 bt641.2 bt662.2.2.1 bt662.2.2.2 bt670.1 bt670.2 true)) else (laws_FnWired.j0 k bt616.1 bt616.2.1 bt623.1 bt623.2 bt631.1 bt631.2.1 bt631.2.2.2.1 bt631.2.2.2.2.1 bt631.2.2.2.2.2 bt641.1 bt641.2 bt662.2.2.1 bt662.2.2.2 bt670.1 bt670.2 true)) else (laws_FnWired.j0 k bt616.1 bt616.2.1 bt623.1 bt623.2 bt631.1 bt631.2.1 bt631.2.2.2.1 bt631.2.2.2.2.1 bt631.2.2.2.2.2 bt641.1 bt641.2 bt662.2.2.1 bt662.2.2.2 bt670.1 bt670.2 true)) else (laws_FnWired.j0 k bt616.1 bt616.2.1 bt623.1 bt623.2 bt631.1 bt631.2.1 bt631.2.2.2.1 bt631.2.2.2.2.1 bt631.2.2.2.2.2 bt641.1 bt641.2 bt662.2.2.1 bt662.2.2.2 bt670.1 bt670.2 true))) else (laws_FnWired.j0 k bt616.1 bt616.2.1 bt623.1 bt623.2 bt631.1 bt631.2.1 bt631.2.2.2.1 bt631.2.2.2.2.1 bt631.2.2.2.2.2 bt641.1 bt641.2 bt662.2.2.1 bt662.2.2.2 bt670.1 bt670.2 true)) else (laws_FnWired.j0 k bt616.1 bt616.2.1 bt623.1 bt623.2 bt631.1 bt631.2.1 bt631.2.2.2.1 bt631.2.2.2.2.1 bt631.2.2.2.2.2 bt641.1 bt641.2 bt662.2.2.1 bt662.2.2.2 bt670.1 bt670.2 true))) else (laws_FnWired.j0 k bt616.1 bt616.2.1 bt623.1 bt623.2 bt631.1 bt631.2.1 bt631.2.2.2.1 bt631.2.2.2.2.1 bt631.2.2.2.2.2 bt641.1 bt641.2 bt662.2.2.1 bt662.2.2.2 bt670.1 bt670.2 true)))))))))))))))
theorem laws_FnWired.j0_true {k : Nat} {a0} {a1} {a2} {a3} {a4} {a5} {a6} {a7} {a8} {a9} {a10} {a11} {a12} {a13} {a14} {r : Bool} (h : laws_FnWired.j0 k a0 a1 a2 a3 a4 a5 a6 a7 a8 a9 a10 a11 a12 a13 a14 true = some r) : false = r := by
 cases k with
 | zero => simp [laws_FnWired.j0] at h
 | succ k => simpa [laws_FnWired.j0] using h
theorem laws_FnWired.j2_true {k : Nat} {a0} {a1} {a2} {a3} {r : Bool} (h : laws_FnWired.j2 k a0 a1 a2 a3 true = some r) : false = r := by
 cases k with
 | zero => simp [laws_FnWired.j2] at h
 | succ k => simpa [laws_FnWired.j2] using h
set_option maxHeartbeats 8000000 in
set_option maxRecDepth 100000 in
theorem laws_FnWired.calls (k : Nat) (A0 : Option Addr) (c0 : Nat) (l0 : List Int) (r : Bool) (w : World) (hr0 : Kd.C (Kd.int .u8) w A0 l0.length l0) (hc0 : l0.length ≤ c0) (h : laws_FnWired.f k l0 = some r) (hT : r = true) :
  Calls Try.prog 4 #[.slice A0 l0.length c0] w fun e w' => e = .returned (.bool r) ∧ Below w.heap.size w w' := by
 have HR0 := Aside0.mk hr0
 have HC0 := Aside0.mk hc0
 clear hr0 hc0
 have HB := Aside0.mk (Below.refl w.heap.size w)
 have H : ((laws_big.f l0).bind fun t615 => (if t615 = true then (some true) else ((spec_DrawWireAll.f k l0).bind fun bt616 => ((impl_WireAll.f k bt616.1 bt616.2.1 bt616.2.2).bind fun bt623 => ((spec_WireAll.f k bt616.1 bt616.2.1 bt616.2.2).bind fun bt627 => ((spec_DrawMoveWire.f k l0).bind fun bt631 => ((impl_MoveWire.f k bt631.1 bt631.2.1 bt631.2.2.1 bt631.2.2.2.1 bt631.2.2.2.2.1 bt631.2.2.2.2.2).bind fun bt641 => ((spec_MoveWire.f k bt631.1 bt631.2.1 bt631.2.2.1 bt631.2.2.2.1 bt631.2.2.2.2.1 bt631.2.2.2.2.2).bind fun bt645 => ((spec_DrawCueAt.f k l0).bind fun bt649 => ((impl_CueAt.f k bt649.1 bt649.2.1 bt649.2.2.1 bt649.2.2.2.1 bt649.2.2.2.2).bind fun bt658 => ((spec_CueAt.f k bt649.1 bt649.2.1 bt649.2.2.1 bt649.2.2.2.1 bt649.2.2.2.2).bind fun bt660 => ((spec_DrawCuesBelow.f k l0).bind fun bt662 => ((impl_CuesBelow.f k bt662.1 bt662.2.1 bt662.2.2.1 bt662.2.2.2).bind fun bt670 => ((spec_CuesBelow.f k bt662.1 bt662.2.1 bt662.2.2.1 bt662.2.2.2).bind fun bt674 => (if bt623.2 = bt627.2 then ((laws_likeWires.f k bt623.1 bt627.1).bind fun t678 => (if t678 = true then (if bt641.2 = bt645.2 then ((laws_likeWires.f k bt641.1 bt645.1).bind fun t679 => (if t679 = true then (if bt658.2 = bt660.2 then (if bt658.1 = bt660.1 then (if bt670.2 = bt674.2 then ((laws_likeInts.f k bt670.1 bt674.1).bind fun t680 => (laws_FnWired.j0 k bt616.1 bt616.2.1 bt623.1 bt623.2 bt631.1 bt631.2.1 bt631.2.2.2.1 bt631.2.2.2.2.1 bt631.2.2.2.2.2 bt641.1 bt641.2 bt662.2.2.1 bt662.2.2.2 bt670.1 bt670.2 (!t680))) else (laws_FnWired.j0 k bt616.1 bt616.2.1 bt623.1 bt623.2 bt631.1 bt631.2.1 bt631.2.2.2.1 bt631.2.2.2.2.1 bt631.2.2.2.2.2 bt641.1 bt641.2 bt662.2.2.1 bt662.2.2.2 bt670.1 bt670.2 true)) else (laws_FnWired.j0 k bt616.1 bt616.2.1 bt623.1 bt623.2 bt631.1 bt631.2.1 bt631.2.2.2.1 bt631.2.2.2.2.1 bt631.2.2.2.2.2 bt641.1 bt641.2 bt662.2.2.1 bt662.2.2.2 bt670.1 bt670.2 true)) else (laws_FnWired.j0 k bt616.1 bt616.2.1 bt623.1 bt623.2 bt631.1 bt631.2.1 bt631.2.2.2.1 bt631.2.2.2.2.1 bt631.2.2.2.2.2 bt641.1 bt641.2 bt662.2.2.1 bt662.2.2.2 bt670.1 bt670.2 true)) else (laws_FnWired.j0 k bt616.1 bt616.2.1 bt623.1 bt623.2 bt631.1 bt631.2.1 bt631.2.2.2.1 bt631.2.2.2.2.1 bt631.2.2.2.2.2 bt641.1 bt641.2 bt662.2.2.1 bt662.2.2.2 bt670.1 bt670.2 true))) else (laws_FnWired.j0 k bt616.1 bt616.2.1 bt623.1 bt623.2 bt631.1 bt631.2.1 bt631.2.2.2.1 bt631.2.2.2.2.1 bt631.2.2.2.2.2 bt641.1 bt641.2 bt662.2.2.1 bt662.2.2.2 bt670.1 bt670.2 true)) else (laws_FnWired.j0 k bt616.1 bt616.2.1 bt623.1 bt623.2 bt631.1 bt631.2.1 bt631.2.2.2.1 bt631.2.2.2.2.1 bt631.2.2.2.2.2 bt641.1 bt641.2 bt662.2.2.1 bt662.2.2.2 bt670.1 bt670.2 true))) else (laws_FnWired.j0 k bt616.1 bt616.2.1 bt623.1 bt623.2 bt631.1 bt631.2.1 bt631.2.2.2.1 bt631.2.2.2.2.1 bt631.2.2.2.2.2 bt641.1 bt641.2 bt662.2.2.1 bt662.2.2.2 bt670.1 bt670.2 true)))))))))))))))) = some r := h
 clear h
 replace H := Option.bind_eq_some_iff.mp H
 obtain ⟨t615, A20, H⟩ := H
 replace H : (if t615 = true then (some true) else ((spec_DrawWireAll.f k l0).bind fun bt616 => ((impl_WireAll.f k bt616.1 bt616.2.1 bt616.2.2).bind fun bt623 => ((spec_WireAll.f k bt616.1 bt616.2.1 bt616.2.2).bind fun bt627 => ((spec_DrawMoveWire.f k l0).bind fun bt631 => ((impl_MoveWire.f k bt631.1 bt631.2.1 bt631.2.2.1 bt631.2.2.2.1 bt631.2.2.2.2.1 bt631.2.2.2.2.2).bind fun bt641 => ((spec_MoveWire.f k bt631.1 bt631.2.1 bt631.2.2.1 bt631.2.2.2.1 bt631.2.2.2.2.1 bt631.2.2.2.2.2).bind fun bt645 => ((spec_DrawCueAt.f k l0).bind fun bt649 => ((impl_CueAt.f k bt649.1 bt649.2.1 bt649.2.2.1 bt649.2.2.2.1 bt649.2.2.2.2).bind fun bt658 => ((spec_CueAt.f k bt649.1 bt649.2.1 bt649.2.2.1 bt649.2.2.2.1 bt649.2.2.2.2).bind fun bt660 => ((spec_DrawCuesBelow.f k l0).bind fun bt662 => ((impl_CuesBelow.f k bt662.1 bt662.2.1 bt662.2.2.1 bt662.2.2.2).bind fun bt670 => ((spec_CuesBelow.f k bt662.1 bt662.2.1 bt662.2.2.1 bt662.2.2.2).bind fun bt674 => (if bt623.2 = bt627.2 then ((laws_likeWires.f k bt623.1 bt627.1).bind fun t678 => (if t678 = true then (if bt641.2 = bt645.2 then ((laws_likeWires.f k bt641.1 bt645.1).bind fun t679 => (if t679 = true then (if bt658.2 = bt660.2 then (if bt658.1 = bt660.1 then (if bt670.2 = bt674.2 then ((laws_likeInts.f k bt670.1 bt674.1).bind fun t680 => (laws_FnWired.j0 k bt616.1 bt616.2.1 bt623.1 bt623.2 bt631.1 bt631.2.1 bt631.2.2.2.1 bt631.2.2.2.2.1 bt631.2.2.2.2.2 bt641.1 bt641.2 bt662.2.2.1 bt662.2.2.2 bt670.1 bt670.2 (!t680))) else (laws_FnWired.j0 k bt616.1 bt616.2.1 bt623.1 bt623.2 bt631.1 bt631.2.1 bt631.2.2.2.1 bt631.2.2.2.2.1 bt631.2.2.2.2.2 bt641.1 bt641.2 bt662.2.2.1 bt662.2.2.2 bt670.1 bt670.2 true)) else (laws_FnWired.j0 k bt616.1 bt616.2.1 bt623.1 bt623.2 bt631.1 bt631.2.1 bt631.2.2.2.1 bt631.2.2.2.2.1 bt631.2.2.2.2.2 bt641.1 bt641.2 bt662.2.2.1 bt662.2.2.2 bt670.1 bt670.2 true)) else (laws_FnWired.j0 k bt616.1 bt616.2.1 bt623.1 bt623.2 bt631.1 bt631.2.1 bt631.2.2.2.1 bt631.2.2.2.2.1 bt631.2.2.2.2.2 bt641.1 bt641.2 bt662.2.2.1 bt662.2.2.2 bt670.1 bt670.2 true)) else (laws_FnWired.j0 k bt616.1 bt616.2.1 bt623.1 bt623.2 bt631.1 bt631.2.1 bt631.2.2.2.1 bt631.2.2.2.2.1 bt631.2.2.2.2.2 bt641.1 bt641.2 bt662.2.2.1 bt662.2.2.2 bt670.1 bt670.2 true))) else (laws_FnWired.j0 k bt616.1 bt616.2.1 bt623.1 bt623.2 bt631.1 bt631.2.1 bt631.2.2.2.1 bt631.2.2.2.2.1 bt631.2.2.2.2.2 bt641.1 bt641.2 bt662.2.2.1 bt662.2.2.2 bt670.1 bt670.2 true)) else (laws_FnWired.j0 k bt616.1 bt616.2.1 bt623.1 bt623.2 bt631.1 bt631.2.1 bt631.2.2.2.1 bt631.2.2.2.2.1 bt631.2.2.2.2.2 bt641.1 bt641.2 bt662.2.2.1 bt662.2.2.2 bt670.1 bt670.2 true))) else (laws_FnWired.j0 k bt616.1 bt616.2.1 bt623.1 bt623.2 bt631.1 bt631.2.1 bt631.2.2.2.1 bt631.2.2.2.2.1 bt631.2.2.2.2.2 bt641.1 bt641.2 bt662.2.2.1 bt662.2.2.2 bt670.1 bt670.2 true))))))))))))))) = some r := H
 have A2 := Aside0.mk A20
 clear A20
 by_cases c3 : t615 = true
 ·subst c3
  replace H : (some true) = some r := by rw [if_pos rfl] at H; exact H
  obtain rfl := Option.some.inj H
  go_enter Try.func4, Try.ntmps4
  go_wp2_with (first | ((with_reducible refine gate_callee (f := 29) rfl ?_); refine goesL_ (some 42) rfl rfl Try.func29 (by kernel_rfl) rfl #[.slice A0 l0.length c0] rfl ag_ ?_; (with_reducible refine (laws_big.calls _ _ l0 true _ ?side1 ?side2 A2.out).mono ?_); (case side1 => exact r9_ HR0.out); (case side2 => exact HC0.out); rintro e w' ⟨rfl, ⟨nd, rfl⟩⟩; refine ⟨_, rfl, ?_⟩))
  go_ret
  exact ⟨by first | rfl | (simp [errW_none, errW_some] <;> rfl) | (simp [*, errW_none, errW_some] <;> rfl), bl_ HB.out⟩
 ·as_aux_lemma =>
   replace c3 := Bool.eq_false_iff.mpr c3
   subst c3
   replace H : ((spec_DrawWireAll.f k l0).bind fun bt616 => ((impl_WireAll.f k bt616.1 bt616.2.1 bt616.2.2).bind fun bt623 => ((spec_WireAll.f k bt616.1 bt616.2.1 bt616.2.2).bind fun bt627 => ((spec_DrawMoveWire.f k l0).bind fun bt631 => ((impl_MoveWire.f k bt631.1 bt631.2.1 bt631.2.2.1 bt631.2.2.2.1 bt631.2.2.2.2.1 bt631.2.2.2.2.2).bind fun bt641 => ((spec_MoveWire.f k bt631.1 bt631.2.1 bt631.2.2.1 bt631.2.2.2.1 bt631.2.2.2.2.1 bt631.2.2.2.2.2).bind fun bt645 => ((spec_DrawCueAt.f k l0).bind fun bt649 => ((impl_CueAt.f k bt649.1 bt649.2.1 bt649.2.2.1 bt649.2.2.2.1 bt649.2.2.2.2).bind fun bt658 => ((spec_CueAt.f k bt649.1 bt649.2.1 bt649.2.2.1 bt649.2.2.2.1 bt649.2.2.2.2).bind fun bt660 => ((spec_DrawCuesBelow.f k l0).bind fun bt662 => ((impl_CuesBelow.f k bt662.1 bt662.2.1 bt662.2.2.1 bt662.2.2.2).bind fun bt670 => ((spec_CuesBelow.f k bt662.1 bt662.2.1 bt662.2.2.1 bt662.2.2.2).bind fun bt674 => (if bt623.2 = bt627.2 then ((laws_likeWires.f k bt623.1 bt627.1).bind fun t678 => (if t678 = true then (if bt641.2 = bt645.2 then ((laws_likeWires.f k bt641.1 bt645.1).bind fun t679 => (if t679 = true then (if bt658.2 = bt660.2 then (if bt658.1 = bt660.1 then (if bt670.2 = bt674.2 then ((laws_likeInts.f k bt670.1 bt674.1).bind fun t680 => (laws_FnWired.j0 k bt616.1 bt616.2.1 bt623.1 bt623.2 bt631.1 bt631.2.1 bt631.2.2.2.1 bt631.2.2.2.2.1 bt631.2.2.2.2.2 bt641.1 bt641.2 bt662.2.2.1 bt662.2.2.2 bt670.1 bt670.2 (!t680))) else (laws_FnWired.j0 k bt616.1 bt616.2.1 bt623.1 bt623.2 bt631.1 bt631.2.1 bt631.2.2.2.1 bt631.2.2.2.2.1 bt631.2.2.2.2.2 bt641.1 bt641.2 bt662.2.2.1 bt662.2.2.2 bt670.1 bt670.2 true)) else (laws_FnWired.j0 k bt616.1 bt616.2.1 bt623.1 bt623.2 bt631.1 bt631.2.1 bt631.2.2.2.1 bt631.2.2.2.2.1 bt631.2.2.2.2.2 bt641.1 bt641.2 bt662.2.2.1 bt662.2.2.2 bt670.1 bt670.2 true)) else (laws_FnWired.j0 k bt616.1 bt616.2.1 bt623.1 bt623.2 bt631.1 bt631.2.1 bt631.2.2.2.1 bt631.2.2.2.2.1 bt631.2.2.2.2.2 bt641.1 bt641.2 bt662.2.2.1 bt662.2.2.2 bt670.1 bt670.2 true)) else (laws_FnWired.j0 k bt616.1 bt616.2.1 bt623.1 bt623.2 bt631.1 bt631.2.1 bt631.2.2.2.1 bt631.2.2.2.2.1 bt631.2.2.2.2.2 bt641.1 bt641.2 bt662.2.2.1 bt662.2.2.2 bt670.1 bt670.2 true))) else (laws_FnWired.j0 k bt616.1 bt616.2.1 bt623.1 bt623.2 bt631.1 bt631.2.1 bt631.2.2.2.1 bt631.2.2.2.2.1 bt631.2.2.2.2.2 bt641.1 bt641.2 bt662.2.2.1 bt662.2.2.2 bt670.1 bt670.2 true)) else (laws_FnWired.j0 k bt616.1 bt616.2.1 bt623.1 bt623.2 bt631.1 bt631.2.1 bt631.2.2.2.1 bt631.2.2.2.2.1 bt631.2.2.2.2.2 bt641.1 bt641.2 bt662.2.2.1 bt662.2.2.2 bt670.1 bt670.2 true))) else (laws_FnWired.j0 k bt616.1 bt616.2.1 bt623.1 bt623.2 bt631.1 bt631.2.1 bt631.2.2.2.1 bt631.2.2.2.2.1 bt631.2.2.2.2.2 bt641.1 bt641.2 bt662.2.2.1 bt662.2.2.2 bt670.1 bt670.2 true)))))))))))))) = some r := by rw [if_neg (show ¬ (false = true) by decide)] at H; exact H
   replace H := Option.bind_eq_some_iff.mp H
   obtain ⟨⟨t616, t617, t618⟩, A40, H⟩ := H
   replace H : ((impl_WireAll.f k t616 t617 t618).bind fun bt623 => ((spec_WireAll.f k t616 t617 t618).bind fun bt627 => ((spec_DrawMoveWire.f k l0).bind fun bt631 => ((impl_MoveWire.f k bt631.1 bt631.2.1 bt631.2.2.1 bt631.2.2.2.1 bt631.2.2.2.2.1 bt631.2.2.2.2.2).bind fun bt641 => ((spec_MoveWire.f k bt631.1 bt631.2.1 bt631.2.2.1 bt631.2.2.2.1 bt631.2.2.2.2.1 bt631.2.2.2.2.2).bind fun bt645 => ((spec_DrawCueAt.f k l0).bind fun bt649 => ((impl_CueAt.f k bt649.1 bt649.2.1 bt649.2.2.1 bt649.2.2.2.1 bt649.2.2.2.2).bind fun bt658 => ((spec_CueAt.f k bt649.1 bt649.2.1 bt649.2.2.1 bt649.2.2.2.1 bt649.2.2.2.2).bind fun bt660 => ((spec_DrawCuesBelow.f k l0).bind fun bt662 => ((impl_CuesBelow.f k bt662.1 bt662.2.1 bt662.2.2.1 bt662.2.2.2).bind fun bt670 => ((spec_CuesBelow.f k bt662.1 bt662.2.1 bt662.2.2.1 bt662.2.2.2).bind fun bt674 => (if bt623.2 = bt627.2 then ((laws_likeWires.f k bt623.1 bt627.1).bind fun t678 => (if t678 = true then (if bt641.2 = bt645.2 then ((laws_likeWires.f k bt641.1 bt645.1).bind fun t679 => (if t679 = true then (if bt658.2 = bt660.2 then (if bt658.1 = bt660.1 then (if bt670.2 = bt674.2 then ((laws_likeInts.f k bt670.1 bt674.1).bind fun t680 => (laws_FnWired.j0 k t616 t617 bt623.1 bt623.2 bt631.1 bt631.2.1 bt631.2.2.2.1 bt631.2.2.2.2.1 bt631.2.2.2.2.2 bt641.1 bt641.2 bt662.2.2.1 bt662.2.2.2 bt670.1 bt670.2 (!t680))) else (laws_FnWired.j0 k t616 t617 bt623.1 bt623.2 bt631.1 bt631.2.1 bt631.2.2.2.1 bt631.2.2.2.2.1 bt631.2.2.2.2.2 bt641.1 bt641.2 bt662.2.2.1 bt662.2.2.2 bt670.1 bt670.2 true)) else (laws_FnWired.j0 k t616 t617 bt623.1 bt623.2 bt631.1 bt631.2.1 bt631.2.2.2.1 bt631.2.2.2.2.1 bt631.2.2.2.2.2 bt641.1 bt641.2 bt662.2.2.1 bt662.2.2.2 bt670.1 bt670.2 true)) else (laws_FnWired.j0 k t616 t617 bt623.1 bt623.2 bt631.1 bt631.2.1 bt631.2.2.2.1 bt631.2.2.2.2.1 bt631.2.2.2.2.2 bt641.1 bt641.2 bt662.2.2.1 bt662.2.2.2 bt670.1 bt670.2 true)) else (laws_FnWired.j0 k t616 t617 bt623.1 bt623.2 bt631.1 bt631.2.1 bt631.2.2.2.1 bt631.2.2.2.2.1 bt631.2.2.2.2.2 bt641.1 bt641.2 bt662.2.2.1 bt662.2.2.2 bt670.1 bt670.2 true))) else (laws_FnWired.j0 k t616 t617 bt623.1 bt623.2 bt631.1 bt631.2.1 bt631.2.2.2.1 bt631.2.2.2.2.1 bt631.2.2.2.2.2 bt641.1 bt641.2 bt662.2.2.1 bt662.2.2.2 bt670.1 bt670.2 true)) else (laws_FnWired.j0 k t616 t617 bt623.1 bt623.2 bt631.1 bt631.2.1 bt631.2.2.2.1 bt631.2.2.2.2.1 bt631.2.2.2.2.2 bt641.1 bt641.2 bt662.2.2.1 bt662.2.2.2 bt670.1 bt670.2 true))) else (laws_FnWired.j0 k t616 t617 bt623.1 bt623.2 bt631.1 bt631.2.1 bt631.2.2.2.1 bt631.2.2.2.2.1 bt631.2.2.2.2.2 bt641.1 bt641.2 bt662.2.2.1 bt662.2.2.2 bt670.1 bt670.2 true))))))))))))) = some r := H
   have A4 := Aside0.mk A40
   clear A40
   replace H := Option.bind_eq_some_iff.mp H
   obtain ⟨⟨t623, t624⟩, A50, H⟩ := H
   replace H : ((spec_WireAll.f k t616 t617 t618).bind fun bt627 => ((spec_DrawMoveWire.f k l0).bind fun bt631 => ((impl_MoveWire.f k bt631.1 bt631.2.1 bt631.2.2.1 bt631.2.2.2.1 bt631.2.2.2.2.1 bt631.2.2.2.2.2).bind fun bt641 => ((spec_MoveWire.f k bt631.1 bt631.2.1 bt631.2.2.1 bt631.2.2.2.1 bt631.2.2.2.2.1 bt631.2.2.2.2.2).bind fun bt645 => ((spec_DrawCueAt.f k l0).bind fun bt649 => ((impl_CueAt.f k bt649.1 bt649.2.1 bt649.2.2.1 bt649.2.2.2.1 bt649.2.2.2.2).bind fun bt658 => ((spec_CueAt.f k bt649.1 bt649.2.1 bt649.2.2.1 bt649.2.2.2.1 bt649.2.2.2.2).bind fun bt660 => ((spec_DrawCuesBelow.f k l0).bind fun bt662 => ((impl_CuesBelow.f k bt662.1 bt662.2.1 bt662.2.2.1 bt662.2.2.2).bind fun bt670 => ((spec_CuesBelow.f k bt662.1 bt662.2.1 bt662.2.2.1 bt662.2.2.2).bind fun bt674 => (if t624 = bt627.2 then ((laws_likeWires.f k t623 bt627.1).bind fun t678 => (if t678 = true then (if bt641.2 = bt645.2 then ((laws_likeWires.f k bt641.1 bt645.1).bind fun t679 => (if t679 = true then (if bt658.2 = bt660.2 then (if bt658.1 = bt660.1 then (if bt670.2 = bt674.2 then ((laws_likeInts.f k bt670.1 bt674.1).bind fun t680 => (laws_FnWired.j0 k t616 t617 t623 t624 bt631.1 bt631.2.1 bt631.2.2.2.1 bt631.2.2.2.2.1 bt631.2.2.2.2.2 bt641.1 bt641.2 bt662.2.2.1 bt662.2.2.2 bt670.1 bt670.2 (!t680))) else (laws_FnWired.j0 k t616 t617 t623 t624 bt631.1 bt631.2.1 bt631.2.2.2.1 bt631.2.2.2.2.1 bt631.2.2.2.2.2 bt641.1 bt641.2 bt662.2.2.1 bt662.2.2.2 bt670.1 bt670.2 true)) else (laws_FnWired.j0 k t616 t617 t623 t624 bt631.1 bt631.2.1 bt631.2.2.2.1 bt631.2.2.2.2.1 bt631.2.2.2.2.2 bt641.1 bt641.2 bt662.2.2.1 bt662.2.2.2 bt670.1 bt670.2 true)) else (laws_FnWired.j0 k t616 t617 t623 t624 bt631.1 bt631.2.1 bt631.2.2.2.1 bt631.2.2.2.2.1 bt631.2.2.2.2.2 bt641.1 bt641.2 bt662.2.2.1 bt662.2.2.2 bt670.1 bt670.2 true)) else (laws_FnWired.j0 k t616 t617 t623 t624 bt631.1 bt631.2.1 bt631.2.2.2.1 bt631.2.2.2.2.1 bt631.2.2.2.2.2 bt641.1 bt641.2 bt662.2.2.1 bt662.2.2.2 bt670.1 bt670.2 true))) else (laws_FnWired.j0 k t616 t617 t623 t624 bt631.1 bt631.2.1 bt631.2.2.2.1 bt631.2.2.2.2.1 bt631.2.2.2.2.2 bt641.1 bt641.2 bt662.2.2.1 bt662.2.2.2 bt670.1 bt670.2 true)) else (laws_FnWired.j0 k t616 t617 t623 t624 bt631.1 bt631.2.1 bt631.2.2.2.1 bt631.2.2.2.2.1 bt631.2.2.2.2.2 bt641.1 bt641.2 bt662.2.2.1 bt662.2.2.2 bt670.1 bt670.2 true))) else (laws_FnWired.j0 k t616 t617 t623 t624 bt631.1 bt631.2.1 bt631.2.2.2.1 bt631.2.2.2.2.1 bt631.2.2.2.2.2 bt641.1 bt641.2 bt662.2.2.1 bt662.2.2.2 bt670.1 bt670.2 true)))))))))))) = some r := H
   have A5 := Aside0.mk A50
   clear A50
   replace H := Option.bind_eq_some_iff.mp H
   obtain ⟨⟨t627, t628⟩, A60, H⟩ := H
   replace H : ((spec_DrawMoveWire.f k l0).bind fun bt631 => ((impl_MoveWire.f k bt631.1 bt631.2.1 bt631.2.2.1 bt631.2.2.2.1 bt631.2.2.2.2.1 bt631.2.2.2.2.2).bind fun bt641 => ((spec_MoveWire.f k bt631.1 bt631.2.1 bt631.2.2.1 bt631.2.2.2.1 bt631.2.2.2.2.1 bt631.2.2.2.2.2).bind fun bt645 => ((spec_DrawCueAt.f k l0).bind fun bt649 => ((impl_CueAt.f k bt649.1 bt649.2.1 bt649.2.2.1 bt649.2.2.2.1 bt649.2.2.2.2).bind fun bt658 => ((spec_CueAt.f k bt649.1 bt649.2.1 bt649.2.2.1 bt649.2.2.2.1 bt649.2.2.2.2).bind fun bt660 => ((spec_DrawCuesBelow.f k l0).bind fun bt662 => ((impl_CuesBelow.f k bt662.1 bt662.2.1 bt662.2.2.1 bt662.2.2.2).bind fun bt670 => ((spec_CuesBelow.f k bt662.1 bt662.2.1 bt662.2.2.1 bt662.2.2.2).bind fun bt674 => (if t624 = t628 then ((laws_likeWires.f k t623 t627).bind fun t678 => (if t678 = true then (if bt641.2 = bt645.2 then ((laws_likeWires.f k bt641.1 bt645.1).bind fun t679 => (if t679 = true then (if bt658.2 = bt660.2 then (if bt658.1 = bt660.1 then (if bt670.2 = bt674.2 then ((laws_likeInts.f k bt670.1 bt674.1).bind fun t680 => (laws_FnWired.j0 k t616 t617 t623 t624 bt631.1 bt631.2.1 bt631.2.2.2.1 bt631.2.2.2.2.1 bt631.2.2.2.2.2 bt641.1 bt641.2 bt662.2.2.1 bt662.2.2.2 bt670.1 bt670.2 (!t680))) else (laws_FnWired.j0 k t616 t617 t623 t624 bt631.1 bt631.2.1 bt631.2.2.2.1 bt631.2.2.2.2.1 bt631.2.2.2.2.2 bt641.1 bt641.2 bt662.2.2.1 bt662.2.2.2 bt670.1 bt670.2 true)) else (laws_FnWired.j0 k t616 t617 t623 t624 bt631.1 bt631.2.1 bt631.2.2.2.1 bt631.2.2.2.2.1 bt631.2.2.2.2.2 bt641.1 bt641.2 bt662.2.2.1 bt662.2.2.2 bt670.1 bt670.2 true)) else (laws_FnWired.j0 k t616 t617 t623 t624 bt631.1 bt631.2.1 bt631.2.2.2.1 bt631.2.2.2.2.1 bt631.2.2.2.2.2 bt641.1 bt641.2 bt662.2.2.1 bt662.2.2.2 bt670.1 bt670.2 true)) else (laws_FnWired.j0 k t616 t617 t623 t624 bt631.1 bt631.2.1 bt631.2.2.2.1 bt631.2.2.2.2.1 bt631.2.2.2.2.2 bt641.1 bt641.2 bt662.2.2.1 bt662.2.2.2 bt670.1 bt670.2 true))) else (laws_FnWired.j0 k t616 t617 t623 t624 bt631.1 bt631.2.1 bt631.2.2.2.1 bt631.2.2.2.2.1 bt631.2.2.2.2.2 bt641.1 bt641.2 bt662.2.2.1 bt662.2.2.2 bt670.1 bt670.2 true)) else (laws_FnWired.j0 k t616 t617 t623 t624 bt631.1 bt631.2.1 bt631.2.2.2.1 bt631.2.2.2.2.1 bt631.2.2.2.2.2 bt641.1 bt641.2 bt662.2.2.1 bt662.2.2.2 bt670.1 bt670.2 true))) else (laws_FnWired.j0 k t616 t617 t623 t624 bt631.1 bt631.2.1 bt631.2.2.2.1 bt631.2.2.2.2.1 bt631.2.2.2.2.2 bt641.1 bt641.2 bt662.2.2.1 bt662.2.2.2 bt670.1 bt670.2 true))))))))))) = some r := H
   have A6 := Aside0.mk A60
   clear A60
   replace H := Option.bind_eq_some_iff.mp H
   obtain ⟨⟨t631, t632, t633, t634, t635, t636⟩, A70, H⟩ := H
   replace H : ((impl_MoveWire.f k t631 t632 t633 t634 t635 t636).bind fun bt641 => ((spec_MoveWire.f k t631 t632 t633 t634 t635 t636).bind fun bt645 => ((spec_DrawCueAt.f k l0).bind fun bt649 => ((impl_CueAt.f k bt649.1 bt649.2.1 bt649.2.2.1 bt649.2.2.2.1 bt649.2.2.2.2).bind fun bt658 => ((spec_CueAt.f k bt649.1 bt649.2.1 bt649.2.2.1 bt649.2.2.2.1 bt649.2.2.2.2).bind fun bt660 => ((spec_DrawCuesBelow.f k l0).bind fun bt662 => ((impl_CuesBelow.f k bt662.1 bt662.2.1 bt662.2.2.1 bt662.2.2.2).bind fun bt670 => ((spec_CuesBelow.f k bt662.1 bt662.2.1 bt662.2.2.1 bt662.2.2.2).bind fun bt674 => (if t624 = t628 then ((laws_likeWires.f k t623 t627).bind fun t678 => (if t678 = true then (if bt641.2 = bt645.2 then ((laws_likeWires.f k bt641.1 bt645.1).bind fun t679 => (if t679 = true then (if bt658.2 = bt660.2 then (if bt658.1 = bt660.1 then (if bt670.2 = bt674.2 then ((laws_likeInts.f k bt670.1 bt674.1).bind fun t680 => (laws_FnWired.j0 k t616 t617 t623 t624 t631 t632 t634 t635 t636 bt641.1 bt641.2 bt662.2.2.1 bt662.2.2.2 bt670.1 bt670.2 (!t680))) else (laws_FnWired.j0 k t616 t617 t623 t624 t631 t632 t634 t635 t636 bt641.1 bt641.2 bt662.2.2.1 bt662.2.2.2 bt670.1 bt670.2 true)) else (laws_FnWired.j0 k t616 t617 t623 t624 t631 t632 t634 t635 t636 bt641.1 bt641.2 bt662.2.2.1 bt662.2.2.2 bt670.1 bt670.2 true)) else (laws_FnWired.j0 k t616 t617 t623 t624 t631 t632 t634 t635 t636 bt641.1 bt641.2 bt662.2.2.1 bt662.2.2.2 bt670.1 bt670.2 true)) else (laws_FnWired.j0 k t616 t617 t623 t624 t631 t632 t634 t635 t636 bt641.1 bt641.2 bt662.2.2.1 bt662.2.2.2 bt670.1 bt670.2 true))) else (laws_FnWired.j0 k t616 t617 t623 t624 t631 t632 t634 t635 t636 bt641.1 bt641.2 bt662.2.2.1 bt662.2.2.2 bt670.1 bt670.2 true)) else (laws_FnWired.j0 k t616 t617 t623 t624 t631 t632 t634 t635 t636 bt641.1 bt641.2 bt662.2.2.1 bt662.2.2.2 bt670.1 bt670.2 true))) else (laws_FnWired.j0 k t616 t617 t623 t624 t631 t632 t634 t635 t636 bt641.1 bt641.2 bt662.2.2.1 bt662.2.2.2 bt670.1 bt670.2 true)))))))))) = some r := H
   have A7 := Aside0.mk A70
   clear A70
   replace H := Option.bind_eq_some_iff.mp H
   obtain ⟨⟨t641, t642⟩, A80, H⟩ := H
   replace H : ((spec_MoveWire.f k t631 t632 t633 t634 t635 t636).bind fun bt645 => ((spec_DrawCueAt.f k l0).bind fun bt649 => ((impl_CueAt.f k bt649.1 bt649.2.1 bt649.2.2.1 bt649.2.2.2.1 bt649.2.2.2.2).bind fun bt658 => ((spec_CueAt.f k bt649.1 bt649.2.1 bt649.2.2.1 bt649.2.2.2.1 bt649.2.2.2.2).bind fun bt660 => ((spec_DrawCuesBelow.f k l0).bind fun bt662 => ((impl_CuesBelow.f k bt662.1 bt662.2.1 bt662.2.2.1 bt662.2.2.2).bind fun bt670 => ((spec_CuesBelow.f k bt662.1 bt662.2.1 bt662.2.2.1 bt662.2.2.2).bind fun bt674 => (if t624 = t628 then ((laws_likeWires.f k t623 t627).bind fun t678 => (if t678 = true then (if t642 = bt645.2 then ((laws_likeWires.f k t641 bt645.1).bind fun t679 => (if t679 = true then (if bt658.2 = bt660.2 then (if bt658.1 = bt660.1 then (if bt670.2 = bt674.2 then ((laws_likeInts.f k bt670.1 bt674.1).bind fun t680 => (laws_FnWired.j0 k t616 t617 t623 t624 t631 t632 t634 t635 t636 t641 t642 bt662.2.2.1 bt662.2.2.2 bt670.1 bt670.2 (!t680))) else (laws_FnWired.j0 k t616 t617 t623 t624 t631 t632 t634 t635 t636 t641 t642 bt662.2.2.1 bt662.2.2.2 bt670.1 bt670.2 true)) else (laws_FnWired.j0 k t616 t617 t623 t624 t631 t632 t634 t635 t636 t641 t642 bt662.2.2.1 bt662.2.2.2 bt670.1 bt670.2 true)) else (laws_FnWired.j0 k t616 t617 t623 t624 t631 t632 t634 t635 t636 t641 t642 bt662.2.2.1 bt662.2.2.2 bt670.1 bt670.2 true)) else (laws_FnWired.j0 k t616 t617 t623 t624 t631 t632 t634 t635 t636 t641 t642 bt662.2.2.1 bt662.2.2.2 bt670.1 bt670.2 true))) else (laws_FnWired.j0 k t616 t617 t623 t624 t631 t632 t634 t635 t636 t641 t642 bt662.2.2.1 bt662.2.2.2 bt670.1 bt670.2 true)) else (laws_FnWired.j0 k t616 t617 t623 t624 t631 t632 t634 t635 t636 t641 t642 bt662.2.2.1 bt662.2.2.2 bt670.1 bt670.2 true))) else (laws_FnWired.j0 k t616 t617 t623 t624 t631 t632 t634 t635 t636 t641 t642 bt662.2.2.1 bt662.2.2.2 bt670.1 bt670.2 true))))))))) = some r := H
   have A8 := Aside0.mk A80
   clear A80
   replace H := Option.bind_eq_some_iff.mp H
   obtain ⟨⟨t645, t646⟩, A90, H⟩ := H
   replace H : ((spec_DrawCueAt.f k l0).bind fun bt649 => ((impl_CueAt.f k bt649.1 bt649.2.1 bt649.2.2.1 bt649.2.2.2.1 bt649.2.2.2.2).bind fun bt658 => ((spec_CueAt.f k bt649.1 bt649.2.1 bt649.2.2.1 bt649.2.2.2.1 bt649.2.2.2.2).bind fun bt660 => ((spec_DrawCuesBelow.f k l0).bind fun bt662 => ((impl_CuesBelow.f k bt662.1 bt662.2.1 bt662.2.2.1 bt662.2.2.2).bind fun bt670 => ((spec_CuesBelow.f k bt662.1 bt662.2.1 bt662.2.2.1 bt662.2.2.2).bind fun bt674 => (if t624 = t628 then ((laws_likeWires.f k t623 t627).bind fun t678 => (if t678 = true then (if t642 = t646 then ((laws_likeWires.f k t641 t645).bind fun t679 => (if t679 = true then (if bt658.2 = bt660.2 then (if bt658.1 = bt660.1 then (if bt670.2 = bt674.2 then ((laws_likeInts.f k bt670.1 bt674.1).bind fun t680 => (laws_FnWired.j0 k t616 t617 t623 t624 t631 t632 t634 t635 t636 t641 t642 bt662.2.2.1 bt662.2.2.2 bt670.1 bt670.2 (!t680))) else (laws_FnWired.j0 k t616 t617 t623 t624 t631 t632 t634 t635 t636 t641 t642 bt662.2.2.1 bt662.2.2.2 bt670.1 bt670.2 true)) else (laws_FnWired.j0 k t616 t617 t623 t624 t631 t632 t634 t635 t636 t641 t642 bt662.2.2.1 bt662.2.2.2 bt670.1 bt670.2 true)) else (laws_FnWired.j0 k t616 t617 t623 t624 t631 t632 t634 t635 t636 t641 t642 bt662.2.2.1 bt662.2.2.2 bt670.1 bt670.2 true)) else (laws_FnWired.j0 k t616 t617 t623 t624 t631 t632 t634 t635 t636 t641 t642 bt662.2.2.1 bt662.2.2.2 bt670.1 bt670.2 true))) else (laws_FnWired.j0 k t616 t617 t623 t624 t631 t632 t634 t635 t636 t641 t642 bt662.2.2.1 bt662.2.2.2 bt670.1 bt670.2 true)) else (laws_FnWired.j0 k t616 t617 t623 t624 t631 t632 t634 t635 t636 t641 t642 bt662.2.2.1 bt662.2.2.2 bt670.1 bt670.2 true))) else (laws_FnWired.j0 k t616 t617 t623 t624 t631 t632 t634 t635 t636 t641 t642 bt662.2.2.1 bt662.2.2.2 bt670.1 bt670.2 true)))))))) = some r := H
   have A9 := Aside0.mk A90
   clear A90
   replace H := Option.bind_eq_some_iff.mp H
   obtain ⟨⟨t649, t650, t651, t652, t653⟩, A100, H⟩ := H
   replace H : ((impl_CueAt.f k t649 t650 t651 t652 t653).bind fun bt658 => ((spec_CueAt.f k t649 t650 t651 t652 t653).bind fun bt660 => ((spec_DrawCuesBelow.f k l0).bind fun bt662 => ((impl_CuesBelow.f k bt662.1 bt662.2.1 bt662.2.2.1 bt662.2.2.2).bind fun bt670 => ((spec_CuesBelow.f k bt662.1 bt662.2.1 bt662.2.2.1 bt662.2.2.2).bind fun bt674 => (if t624 = t628 then ((laws_likeWires.f k t623 t627).bind fun t678 => (if t678 = true then (if t642 = t646 then ((laws_likeWires.f k t641 t645).bind fun t679 => (if t679 = true then (if bt658.2 = bt660.2 then (if bt658.1 = bt660.1 then (if bt670.2 = bt674.2 then ((laws_likeInts.f k bt670.1 bt674.1).bind fun t680 => (laws_FnWired.j0 k t616 t617 t623 t624 t631 t632 t634 t635 t636 t641 t642 bt662.2.2.1 bt662.2.2.2 bt670.1 bt670.2 (!t680))) else (laws_FnWired.j0 k t616 t617 t623 t624 t631 t632 t634 t635 t636 t641 t642 bt662.2.2.1 bt662.2.2.2 bt670.1 bt670.2 true)) else (laws_FnWired.j0 k t616 t617 t623 t624 t631 t632 t634 t635 t636 t641 t642 bt662.2.2.1 bt662.2.2.2 bt670.1 bt670.2 true)) else (laws_FnWired.j0 k t616 t617 t623 t624 t631 t632 t634 t635 t636 t641 t642 bt662.2.2.1 bt662.2.2.2 bt670.1 bt670.2 true)) else (laws_FnWired.j0 k t616 t617 t623 t624 t631 t632 t634 t635 t636 t641 t642 bt662.2.2.1 bt662.2.2.2 bt670.1 bt670.2 true))) else (laws_FnWired.j0 k t616 t617 t623 t624 t631 t632 t634 t635 t636 t641 t642 bt662.2.2.1 bt662.2.2.2 bt670.1 bt670.2 true)) else (laws_FnWired.j0 k t616 t617 t623 t624 t631 t632 t634 t635 t636 t641 t642 bt662.2.2.1 bt662.2.2.2 bt670.1 bt670.2 true))) else (laws_FnWired.j0 k t616 t617 t623 t624 t631 t632 t634 t635 t636 t641 t642 bt662.2.2.1 bt662.2.2.2 bt670.1 bt670.2 true))))))) = some r := H
   have A10 := Aside0.mk A100
   clear A100
   replace H := Option.bind_eq_some_iff.mp H
   obtain ⟨⟨t658, t659⟩, A110, H⟩ := H
   replace H : ((spec_CueAt.f k t649 t650 t651 t652 t653).bind fun bt660 => ((spec_DrawCuesBelow.f k l0).bind fun bt662 => ((impl_CuesBelow.f k bt662.1 bt662.2.1 bt662.2.2.1 bt662.2.2.2).bind fun bt670 => ((spec_CuesBelow.f k bt662.1 bt662.2.1 bt662.2.2.1 bt662.2.2.2).bind fun bt674 => (if t624 = t628 then ((laws_likeWires.f k t623 t627).bind fun t678 => (if t678 = true then (if t642 = t646 then ((laws_likeWires.f k t641 t645).bind fun t679 => (if t679 = true then (if t659 = bt660.2 then (if t658 = bt660.1 then (if bt670.2 = bt674.2 then ((laws_likeInts.f k bt670.1 bt674.1).bind fun t680 => (laws_FnWired.j0 k t616 t617 t623 t624 t631 t632 t634 t635 t636 t641 t642 bt662.2.2.1 bt662.2.2.2 bt670.1 bt670.2 (!t680))) else (laws_FnWired.j0 k t616 t617 t623 t624 t631 t632 t634 t635 t636 t641 t642 bt662.2.2.1 bt662.2.2.2 bt670.1 bt670.2 true)) else (laws_FnWired.j0 k t616 t617 t623 t624 t631 t632 t634 t635 t636 t641 t642 bt662.2.2.1 bt662.2.2.2 bt670.1 bt670.2 true)) else (laws_FnWired.j0 k t616 t617 t623 t624 t631 t632 t634 t635 t636 t641 t642 bt662.2.2.1 bt662.2.2.2 bt670.1 bt670.2 true)) else (laws_FnWired.j0 k t616 t617 t623 t624 t631 t632 t634 t635 t636 t641 t642 bt662.2.2.1 bt662.2.2.2 bt670.1 bt670.2 true))) else (laws_FnWired.j0 k t616 t617 t623 t624 t631 t632 t634 t635 t636 t641 t642 bt662.2.2.1 bt662.2.2.2 bt670.1 bt670.2 true)) else (laws_FnWired.j0 k t616 t617 t623 t624 t631 t632 t634 t635 t636 t641 t642 bt662.2.2.1 bt662.2.2.2 bt670.1 bt670.2 true))) else (laws_FnWired.j0 k t616 t617 t623 t624 t631 t632 t634 t635 t636 t641 t642 bt662.2.2.1 bt662.2.2.2 bt670.1 bt670.2 true)))))) = some r := H
   have A11 := Aside0.mk A110
   clear A110
   replace H := Option.bind_eq_some_iff.mp H
   obtain ⟨⟨t660, t661⟩, A120, H⟩ := H
   replace H : ((spec_DrawCuesBelow.f k l0).bind fun bt662 => ((impl_CuesBelow.f k bt662.1 bt662.2.1 bt662.2.2.1 bt662.2.2.2).bind fun bt670 => ((spec_CuesBelow.f k bt662.1 bt662.2.1 bt662.2.2.1 bt662.2.2.2).bind fun bt674 => (if t624 = t628 then ((laws_likeWires.f k t623 t627).bind fun t678 => (if t678 = true then (if t642 = t646 then ((laws_likeWires.f k t641 t645).bind fun t679 => (if t679 = true then (if t659 = t661 then (if t658 = t660 then (if bt670.2 = bt674.2 then ((laws_likeInts.f k bt670.1 bt674.1).bind fun t680 => (laws_FnWired.j0 k t616 t617 t623 t624 t631 t632 t634 t635 t636 t641 t642 bt662.2.2.1 bt662.2.2.2 bt670.1 bt670.2 (!t680))) else (laws_FnWired.j0 k t616 t617 t623 t624 t631 t632 t634 t635 t636 t641 t642 bt662.2.2.1 bt662.2.2.2 bt670.1 bt670.2 true)) else (laws_FnWired.j0 k t616 t617 t623 t624 t631 t632 t634 t635 t636 t641 t642 bt662.2.2.1 bt662.2.2.2 bt670.1 bt670.2 true)) else (laws_FnWired.j0 k t616 t617 t623 t624 t631 t632 t634 t635 t636 t641 t642 bt662.2.2.1 bt662.2.2.2 bt670.1 bt670.2 true)) else (laws_FnWired.j0 k t616 t617 t623 t624 t631 t632 t634 t635 t636 t641 t642 bt662.2.2.1 bt662.2.2.2 bt670.1 bt670.2 true))) else (laws_FnWired.j0 k t616 t617 t623 t624 t631 t632 t634 t635 t636 t641 t642 bt662.2.2.1 bt662.2.2.2 bt670.1 bt670.2 true)) else (laws_FnWired.j0 k t616 t617 t623 t624 t631 t632 t634 t635 t636 t641 t642 bt662.2.2.1 bt662.2.2.2 bt670.1 bt670.2 true))) else (laws_FnWired.j0 k t616 t617 t623 t624 t631 t632 t634 t635 t636 t641 t642 bt662.2.2.1 bt662.2.2.2 bt670.1 bt670.2 true))))) = some r := H
   have A12 := Aside0.mk A120
   clear A120
   replace H := Option.bind_eq_some_iff.mp H
   obtain ⟨⟨t662, t663, t664, t665⟩, A130, H⟩ := H
   replace H : ((impl_CuesBelow.f k t662 t663 t664 t665).bind fun bt670 => ((spec_CuesBelow.f k t662 t663 t664 t665).bind fun bt674 => (if t624 = t628 then ((laws_likeWires.f k t623 t627).bind fun t678 => (if t678 = true then (if t642 = t646 then ((laws_likeWires.f k t641 t645).bind fun t679 => (if t679 = true then (if t659 = t661 then (if t658 = t660 then (if bt670.2 = bt674.2 then ((laws_likeInts.f k bt670.1 bt674.1).bind fun t680 => (laws_FnWired.j0 k t616 t617 t623 t624 t631 t632 t634 t635 t636 t641 t642 t664 t665 bt670.1 bt670.2 (!t680))) else (laws_FnWired.j0 k t616 t617 t623 t624 t631 t632 t634 t635 t636 t641 t642 t664 t665 bt670.1 bt670.2 true)) else (laws_FnWired.j0 k t616 t617 t623 t624 t631 t632 t634 t635 t636 t641 t642 t664 t665 bt670.1 bt670.2 true)) else (laws_FnWired.j0 k t616 t617 t623 t624 t631 t632 t634 t635 t636 t641 t642 t664 t665 bt670.1 bt670.2 true)) else (laws_FnWired.j0 k t616 t617 t623 t624 t631 t632 t634 t635 t636 t641 t642 t664 t665 bt670.1 bt670.2 true))) else (laws_FnWired.j0 k t616 t617 t623 t624 t631 t632 t634 t635 t636 t641 t642 t664 t665 bt670.1 bt670.2 true)) else (laws_FnWired.j0 k t616 t617 t623 t624 t631 t632 t634 t635 t636 t641 t642 t664 t665 bt670.1 bt670.2 true))) else (laws_FnWired.j0 k t616 t617 t623 t624 t631 t632 t634 t635 t636 t641 t642 t664 t665 bt670.1 bt670.2 true)))) = some r := H
   have A13 := Aside0.mk A130
   clear A130
   replace H := Option.bind_eq_some_iff.mp H
   obtain ⟨⟨t670, t671⟩, A140, H⟩ := H
   replace H : ((spec_CuesBelow.f k t662 t663 t664 t665).bind fun bt674 => (if t624 = t628 then ((laws_likeWires.f k t623 t627).bind fun t678 => (if t678 = true then (if t642 = t646 then ((laws_likeWires.f k t641 t645).bind fun t679 => (if t679 = true then (if t659 = t661 then (if t658 = t660 then (if t671 = bt674.2 then ((laws_likeInts.f k t670 bt674.1).bind fun t680 => (laws_FnWired.j0 k t616 t617 t623 t624 t631 t632 t634 t635 t636 t641 t642 t664 t665 t670 t671 (!t680))) else (laws_FnWired.j0 k t616 t617 t623 t624 t631 t632 t634 t635 t636 t641 t642 t664 t665 t670 t671 true)) else (laws_FnWired.j0 k t616 t617 t623 t624 t631 t632 t634 t635 t636 t641 t642 t664 t665 t670 t671 true)) else (laws_FnWired.j0 k t616 t617 t623 t624 t631 t632 t634 t635 t636 t641 t642 t664 t665 t670 t671 true)) else (laws_FnWired.j0 k t616 t617 t623 t624 t631 t632 t634 t635 t636 t641 t642 t664 t665 t670 t671 true))) else (laws_FnWired.j0 k t616 t617 t623 t624 t631 t632 t634 t635 t636 t641 t642 t664 t665 t670 t671 true)) else (laws_FnWired.j0 k t616 t617 t623 t624 t631 t632 t634 t635 t636 t641 t642 t664 t665 t670 t671 true))) else (laws_FnWired.j0 k t616 t617 t623 t624 t631 t632 t634 t635 t636 t641 t642 t664 t665 t670 t671 true))) = some r := H
   have A14 := Aside0.mk A140
   clear A140
   replace H := Option.bind_eq_some_iff.mp H
   obtain ⟨⟨t674, t675⟩, A150, H⟩ := H
   replace H : (if t624 = t628 then ((laws_likeWires.f k t623 t627).bind fun t678 => (if t678 = true then (if t642 = t646 then ((laws_likeWires.f k t641 t645).bind fun t679 => (if t679 = true then (if t659 = t661 then (if t658 = t660 then (if t671 = t675 then ((laws_likeInts.f k t670 t674).bind fun t680 => (laws_FnWired.j0 k t616 t617 t623 t624 t631 t632 t634 t635 t636 t641 t642 t664 t665 t670 t671 (!t680))) else (laws_FnWired.j0 k t616 t617 t623 t624 t631 t632 t634 t635 t636 t641 t642 t664 t665 t670 t671 true)) else (laws_FnWired.j0 k t616 t617 t623 t624 t631 t632 t634 t635 t636 t641 t642 t664 t665 t670 t671 true)) else (laws_FnWired.j0 k t616 t617 t623 t624 t631 t632 t634 t635 t636 t641 t642 t664 t665 t670 t671 true)) else (laws_FnWired.j0 k t616 t617 t623 t624 t631 t632 t634 t635 t636 t641 t642 t664 t665 t670 t671 true))) else (laws_FnWired.j0 k t616 t617 t623 t624 t631 t632 t634 t635 t636 t641 t642 t664 t665 t670 t671 true)) else (laws_FnWired.j0 k t616 t617 t623 t624 t631 t632 t634 t635 t636 t641 t642 t664 t665 t670 t671 true))) else (laws_FnWired.j0 k t616 t617 t623 t624 t631 t632 t634 t635 t636 t641 t642 t664 t665 t670 t671 true)) = some r := H
   have A15 := Aside0.mk A150
   clear A150
   have HC16 := Aside0.mk H
   clear H
   go_enter Try.func4, Try.ntmps4
   go_upto_region 15 with (first | ((with_reducible refine gate_callee (f := 29) rfl ?_); refine goesL_ (some 42) rfl rfl Try.func29 (by kernel_rfl) rfl #[.slice A0 l0.length c0] rfl ag_ ?_; (with_reducible refine (laws_big.calls _ _ l0 false _ ?side1 ?side2 A2.out).mono ?_); (case side1 => exact r9_ HR0.out); (case side2 => exact HC0.out); rintro e w' ⟨rfl, ⟨nd, rfl⟩⟩; refine ⟨_, rfl, ?_⟩) | ((with_reducible refine gate_callee (f := 30) rfl ?_); refine goesL_ (some 45) rfl rfl Try.func30 (by kernel_rfl) rfl #[.slice A0 l0.length c0] rfl ag_ ?_; (with_reducible refine (spec_DrawWireAll.calls k _ _ l0 t616 t617 t618 _ ?side1 ?side2 A4.out).mono ?_); (case side1 => exact r9_ HR0.out); (case side2 => exact HC0.out); rintro e w17 ⟨v619, v621, rfl, ho0, ho1, hb⟩; refine ⟨_, rfl, ?_⟩; have HO620 := Aside0.mk (Kd.R_lower ho0 (below_size (bl_ HB.out))); have HO622 := Aside0.mk (Kd.R_lower ho1 (below_size (bl_ HB.out))); replace HB := Aside0.mk (below_step (bl_ HB.out) hb); (try clear hb); (try clear hb2); (try clear hk); (try clear hi); (try clear ho0); (try clear ho1); obtain ⟨Ao18, co18, eo18⟩ := Kd.R_slice HO620.out; subst eo18; obtain ⟨Ao19, co19, eo19⟩ := Kd.R_slice HO622.out; subst eo19) | ((with_reducible refine gate_callee (f := 31) rfl ?_); refine goesL_ (some 53) rfl rfl Try.func31 (by kernel_rfl) rfl #[.slice Ao18 t616.length co18, .int .i64 t617, .slice Ao19 t618.length co19] rfl ag_ ?_; (with_reducible refine (impl_WireAll.calls k _ _ t616 t617 _ _ t618 t623 t624 _ ?side1 ?side2 ?side3 ?side4 A5.out).mono ?_); (case side1 => exact r7_ HO620.out); (case side2 => exact (Kd.R_reads' HO620.out).2.1); (case side3 => exact r7_ HO622.out); (case side4 => exact (Kd.R_reads' HO622.out).2.1); rintro e w20 ⟨v625, rfl, ho0, hb⟩; refine ⟨_, rfl, ?_⟩; replace HO620 := Aside0.mk (Kd.R_below (rk_ HO620.out) hb); have HO626 := Aside0.mk (Kd.R_lower (Kd.R_new' ho0 (Kd.R_lt (rk_ HO622.out))) (below_size (bl_ HB.out))); replace HO622 := Aside0.mk (Kd.R_elder' (rk_ HO622.out) (Kd.R_base ho0) hb); replace HB := Aside0.mk (below_step (bl_ HB.out) hb); (try clear hb); (try clear hb2); (try clear hk); (try clear hi); (try clear ho0)) | ((with_reducible refine gate_callee (f := 32) rfl ?_); refine goesL_ (some 60) rfl rfl Try.func32 (by kernel_rfl) rfl #[.slice Ao18 t616.length co18, .int .i64 t617, .slice Ao19 t618.length co19] rfl ag_ ?_; (with_reducible refine (spec_WireAll.calls k _ _ t616 t617 _ _ t618 t627 t628 _ ?side1 ?side2 ?side3 ?side4 A6.out).mono ?_); (case side1 => exact r7_ HO620.out); (case side2 => exact (Kd.R_reads' HO620.out).2.1); (case side3 => exact r7_ HO622.out); (case side4 => exact (Kd.R_reads' HO622.out).2.1); rintro e w21 ⟨v629, rfl, ho0, hb⟩; refine ⟨_, rfl, ?_⟩; replace HO620 := Aside0.mk (Kd.R_below (rk_ HO620.out) hb); have HO630 := Aside0.mk (Kd.R_lower (Kd.R_new' (Kd.R_new' ho0 (Kd.R_lt (rk_ HO622.out))) (Kd.R_lt (rk_ HO626.out))) (below_size (bl_ HB.out))); replace HO622 := Aside0.mk (Kd.R_elder' (rk_ HO622.out) (Kd.R_base ho0) hb); replace HO626 := Aside0.mk (Kd.R_elder' (rk_ HO626.out) (Kd.R_base ho0) hb); replace HB := Aside0.mk (below_step (bl_ HB.out) hb); (try clear hb); (try clear hb2); (try clear hk); (try clear hi); (try clear ho0)) | ((with_reducible refine gate_callee (f := 33) rfl ?_); refine goesL_ (some 65) rfl rfl Try.func33 (by kernel_rfl) rfl #[.slice A0 l0.length c0] rfl ag_ ?_; (with_reducible refine (spec_DrawMoveWire.calls k _ _ l0 t631 t632 t633 t634 t635 t636 _ ?side1 ?side2 A7.out).mono ?_); (case side1 => exact r5_ HR0.out HB.out); (case side2 => exact HC0.out); rintro e w22 ⟨v637, v639, rfl, ho0, ho1, hb⟩; refine ⟨_, rfl, ?_⟩; have HO638 := Aside0.mk (Kd.R_lower (Kd.R_new' ho0 (Kd.R_lt (rk_ HO620.out))) (below_size (bl_ HB.out))); replace HO620 := Aside0.mk (Kd.R_elder' (rk_ HO620.out) (Kd.R_base ho0) hb); have HO640 := Aside0.mk (Kd.R_lower (Kd.R_new' (Kd.R_new' (Kd.R_new' ho1 (Kd.R_lt (rk_ HO622.out))) (Kd.R_lt (rk_ HO626.out))) (Kd.R_lt (rk_ HO630.out))) (below_size (bl_ HB.out))); replace HO622 := Aside0.mk (Kd.R_elder' (rk_ HO622.out) (Kd.R_base ho1) hb); replace HO626 := Aside0.mk (Kd.R_elder' (rk_ HO626.out) (Kd.R_base ho1) hb); replace HO630 := Aside0.mk (Kd.R_elder' (rk_ HO630.out) (Kd.R_base ho1) hb); replace HB := Aside0.mk (below_step (bl_ HB.out) hb); (try clear hb); (try clear hb2); (try clear hk); (try clear hi); (try clear ho0); (try clear ho1); obtain ⟨Ao23, co23, eo23⟩ := Kd.R_slice HO638.out; subst eo23; obtain ⟨Ao24, co24, eo24⟩ := Kd.R_slice HO640.out; subst eo24) | ((with_reducible refine gate_callee (f := 34) rfl ?_); refine goesL_ (some 79) rfl rfl Try.func34 (by kernel_rfl) rfl #[.slice Ao23 t631.length co23, .int .i64 t632, .slice Ao24 t633.length co24, .int .i64 t634, .int .i64 t635, .int .i64 t636] rfl ag_ ?_; (with_reducible refine (impl_MoveWire.calls k _ _ t631 t632 _ _ t633 t634 t635 t636 t641 t642 _ ?side1 ?side2 ?side3 ?side4 A8.out).mono ?_); (case side1 => exact r7_ HO638.out); (case side2 => exact (Kd.R_reads' HO638.out).2.1); (case side3 => exact r7_ HO640.out); (case side4 => exact (Kd.R_reads' HO640.out).2.1); rintro e w25 ⟨v643, rfl, ho0, hb⟩; refine ⟨_, rfl, ?_⟩; replace HO620 := Aside0.mk (Kd.R_below (rk_ HO620.out) hb); replace HO638 := Aside0.mk (Kd.R_below (rk_ HO638.out) hb); have HO644 := Aside0.mk (Kd.R_lower (Kd.R_new' (Kd.R_new' (Kd.R_new' (Kd.R_new' ho0 (Kd.R_lt (rk_ HO622.out))) (Kd.R_lt (rk_ HO626.out))) (Kd.R_lt (rk_ HO630.out))) (Kd.R_lt (rk_ HO640.out))) (below_size (bl_ HB.out))); replace HO622 := Aside0.mk (Kd.R_elder' (rk_ HO622.out) (Kd.R_base ho0) hb); replace HO626 := Aside0.mk (Kd.R_elder' (rk_ HO626.out) (Kd.R_base ho0) hb); replace HO630 := Aside0.mk (Kd.R_elder' (rk_ HO630.out) (Kd.R_base ho0) hb); replace HO640 := Aside0.mk (Kd.R_elder' (rk_ HO640.out) (Kd.R_base ho0) hb); replace HB := Aside0.mk (below_step (bl_ HB.out) hb); (try clear hb); (try clear hb2); (try clear hk); (try clear hi); (try clear ho0)) | ((with_reducible refine gate_callee (f := 35) rfl ?_); refine goesL_ (some 89) rfl rfl Try.func35 (by kernel_rfl) rfl #[.slice Ao23 t631.length co23, .int .i64 t632, .slice Ao24 t633.length co24, .int .i64 t634, .int .i64 t635, .int .i64 t636] rfl ag_ ?_; (with_reducible refine (spec_MoveWire.calls k _ _ t631 t632 _ _ t633 t634 t635 t636 t645 t646 _ ?side1 ?side2 ?side3 ?side4 A9.out).mono ?_); (case side1 => exact r7_ HO638.out); (case side2 => exact (Kd.R_reads' HO638.out).2.1); (case side3 => exact r7_ HO640.out); (case side4 => exact (Kd.R_reads' HO640.out).2.1); rintro e w26 ⟨v647, rfl, ho0, hb⟩; refine ⟨_, rfl, ?_⟩; replace HO620 := Aside0.mk (Kd.R_below (rk_ HO620.out) hb); replace HO638 := Aside0.mk (Kd.R_below (rk_ HO638.out) hb); have HO648 := Aside0.mk (Kd.R_lower (Kd.R_new' (Kd.R_new' (Kd.R_new' (Kd.R_new' (Kd.R_new' ho0 (Kd.R_lt (rk_ HO622.out))) (Kd.R_lt (rk_ HO626.out))) (Kd.R_lt (rk_ HO630.out))) (Kd.R_lt (rk_ HO640.out))) (Kd.R_lt (rk_ HO644.out))) (below_size (bl_ HB.out))); replace HO622 := Aside0.mk (Kd.R_elder' (rk_ HO622.out) (Kd.R_base ho0) hb); replace HO626 := Aside0.mk (Kd.R_elder' (rk_ HO626.out) (Kd.R_base ho0) hb); replace HO630 := Aside0.mk (Kd.R_elder' (rk_ HO630.out) (Kd.R_base ho0) hb); replace HO640 := Aside0.mk (Kd.R_elder' (rk_ HO640.out) (Kd.R_base ho0) hb); replace HO644 := Aside0.mk (Kd.R_elder' (rk_ HO644.out) (Kd.R_base ho0) hb); replace HB := Aside0.mk (below_step (bl_ HB.out) hb); (try clear hb); (try clear hb2); (try clear hk); (try clear hi); (try clear ho0)) | ((with_reducible refine gate_callee (f := 36) rfl ?_); refine goesL_ (some 94) rfl rfl Try.func36 (by kernel_rfl) rfl #[.slice A0 l0.length c0] rfl ag_ ?_; (with_reducible refine (spec_DrawCueAt.calls k _ _ l0 t649 t650 t651 t652 t653 _ ?side1 ?side2 A10.out).mono ?_); (case side1 => exact r5_ HR0.out HB.out); (case side2 => exact HC0.out); rintro e w27 ⟨v654, v656, rfl, ho0, ho1, hb⟩; refine ⟨_, rfl, ?_⟩; have HO655 := Aside0.mk (Kd.R_lower (Kd.R_new' (Kd.R_new' ho0 (Kd.R_lt (rk_ HO620.out))) (Kd.R_lt (rk_ HO638.out))) (below_size (bl_ HB.out))); replace HO620 := Aside0.mk (Kd.R_elder' (rk_ HO620.out) (Kd.R_base ho0) hb); replace HO638 := Aside0.mk (Kd.R_elder' (rk_ HO638.out) (Kd.R_base ho0) hb); have HO657 := Aside0.mk (Kd.R_lower (Kd.R_new' (Kd.R_new' (Kd.R_new' (Kd.R_new' (Kd.R_new' (Kd.R_new' ho1 (Kd.R_lt (rk_ HO622.out))) (Kd.R_lt (rk_ HO626.out))) (Kd.R_lt (rk_ HO630.out))) (Kd.R_lt (rk_ HO640.out))) (Kd.R_lt (rk_ HO644.out))) (Kd.R_lt (rk_ HO648.out))) (below_size (bl_ HB.out))); replace HO622 := Aside0.mk (Kd.R_elder' (rk_ HO622.out) (Kd.R_base ho1) hb); replace HO626 := Aside0.mk (Kd.R_elder' (rk_ HO626.out) (Kd.R_base ho1) hb); replace HO630 := Aside0.mk (Kd.R_elder' (rk_ HO630.out) (Kd.R_base ho1) hb); replace HO640 := Aside0.mk (Kd.R_elder' (rk_ HO640.out) (Kd.R_base ho1) hb); replace HO644 := Aside0.mk (Kd.R_elder' (rk_ HO644.out) (Kd.R_base ho1) hb); replace HO648 := Aside0.mk (Kd.R_elder' (rk_ HO648.out) (Kd.R_base ho1) hb); replace HB := Aside0.mk (below_step (bl_ HB.out) hb); (try clear hb); (try clear hb2); (try clear hk); (try clear hi); (try clear ho0); (try clear ho1); obtain ⟨Ao28, co28, eo28⟩ := Kd.R_slice HO655.out; subst eo28; obtain ⟨Ao29, co29, eo29⟩ := Kd.R_slice HO657.out; subst eo29) | ((with_reducible refine gate_callee (f := 37) rfl ?_); refine goesL_ (some 106) rfl rfl Try.func37 (by kernel_rfl) rfl #[.slice Ao28 t649.length co28, .int .i64 t650, .slice Ao29 t651.length co29, .int .i64 t652, .int .i64 t653] rfl ag_ ?_; (with_reducible refine (impl_CueAt.calls k _ _ t649 t650 _ _ t651 t652 t653 t658 t659 _ ?side1 ?side2 ?side3 ?side4 A11.out).mono ?_); (case side1 => exact r7_ HO655.out); (case side2 => exact (Kd.R_reads' HO655.out).2.1); (case side3 => exact r7_ HO657.out); (case side4 => exact (Kd.R_reads' HO657.out).2.1); rintro e w30 ⟨rfl, hb⟩; refine ⟨_, rfl, ?_⟩; replace HO620 := Aside0.mk (Kd.R_below (rk_ HO620.out) hb); replace HO622 := Aside0.mk (Kd.R_below (rk_ HO622.out) hb); replace HO626 := Aside0.mk (Kd.R_below (rk_ HO626.out) hb); replace HO630 := Aside0.mk (Kd.R_below (rk_ HO630.out) hb); replace HO638 := Aside0.mk (Kd.R_below (rk_ HO638.out) hb); replace HO640 := Aside0.mk (Kd.R_below (rk_ HO640.out) hb); replace HO644 := Aside0.mk (Kd.R_below (rk_ HO644.out) hb); replace HO648 := Aside0.mk (Kd.R_below (rk_ HO648.out) hb); replace HO655 := Aside0.mk (Kd.R_below (rk_ HO655.out) hb); replace HO657 := Aside0.mk (Kd.R_below (rk_ HO657.out) hb); replace HB := Aside0.mk (below_step (bl_ HB.out) hb); (try clear hb); (try clear hb2); (try clear hk); (try clear hi)) | ((with_reducible refine gate_callee (f := 38) rfl ?_); refine goesL_ (some 115) rfl rfl Try.func38 (by kernel_rfl) rfl #[.slice Ao28 t649.length co28, .int .i64 t650, .slice Ao29 t651.length co29, .int .i64 t652, .int .i64 t653] rfl ag_ ?_; (with_reducible refine (spec_CueAt.calls k _ _ t649 t650 _ _ t651 t652 t653 t660 t661 _ ?side1 ?side2 ?side3 ?side4 A12.out).mono ?_); (case side1 => exact r7_ HO655.out); (case side2 => exact (Kd.R_reads' HO655.out).2.1); (case side3 => exact r7_ HO657.out); (case side4 => exact (Kd.R_reads' HO657.out).2.1); rintro e w31 ⟨rfl, hb⟩; refine ⟨_, rfl, ?_⟩; replace HO620 := Aside0.mk (Kd.R_below (rk_ HO620.out) hb); replace HO622 := Aside0.mk (Kd.R_below (rk_ HO622.out) hb); replace HO626 := Aside0.mk (Kd.R_below (rk_ HO626.out) hb); replace HO630 := Aside0.mk (Kd.R_below (rk_ HO630.out) hb); replace HO638 := Aside0.mk (Kd.R_below (rk_ HO638.out) hb); replace HO640 := Aside0.mk (Kd.R_below (rk_ HO640.out) hb); replace HO644 := Aside0.mk (Kd.R_below (rk_ HO644.out) hb); replace HO648 := Aside0.mk (Kd.R_below (rk_ HO648.out) hb); replace HO655 := Aside0.mk (Kd.R_below (rk_ HO655.out) hb); replace HO657 := Aside0.mk (Kd.R_below (rk_ HO657.out) hb); replace HB := Aside0.mk (below_step (bl_ HB.out) hb); (try clear hb); (try clear hb2); (try clear hk); (try clear hi)) | ((with_reducible refine gate_callee (f := 39) rfl ?_); refine goesL_ (some 120) rfl rfl Try.func39 (by kernel_rfl) rfl #[.slice A0 l0.length c0] rfl ag_ ?_; (with_reducible refine (spec_DrawCuesBelow.calls k _ _ l0 t662 t663 t664 t665 _ ?side1 ?side2 A13.out).mono ?_); (case side1 => exact r5_ HR0.out HB.out); (case side2 => exact HC0.out); rintro e w32 ⟨v666, v668, rfl, ho0, ho1, hb⟩; refine ⟨_, rfl, ?_⟩; have HO667 := Aside0.mk (Kd.R_lower (Kd.R_new' (Kd.R_new' (Kd.R_new' ho0 (Kd.R_lt (rk_ HO620.out))) (Kd.R_lt (rk_ HO638.out))) (Kd.R_lt (rk_ HO655.out))) (below_size (bl_ HB.out))); replace HO620 := Aside0.mk (Kd.R_elder' (rk_ HO620.out) (Kd.R_base ho0) hb); replace HO638 := Aside0.mk (Kd.R_elder' (rk_ HO638.out) (Kd.R_base ho0) hb); replace HO655 := Aside0.mk (Kd.R_elder' (rk_ HO655.out) (Kd.R_base ho0) hb); have HO669 := Aside0.mk (Kd.R_lower (Kd.R_new' (Kd.R_new' (Kd.R_new' (Kd.R_new' (Kd.R_new' (Kd.R_new' (Kd.R_new' ho1 (Kd.R_lt (rk_ HO622.out))) (Kd.R_lt (rk_ HO626.out))) (Kd.R_lt (rk_ HO630.out))) (Kd.R_lt (rk_ HO640.out))) (Kd.R_lt (rk_ HO644.out))) (Kd.R_lt (rk_ HO648.out))) (Kd.R_lt (rk_ HO657.out))) (below_size (bl_ HB.out))); replace HO622 := Aside0.mk (Kd.R_elder' (rk_ HO622.out) (Kd.R_base ho1) hb); replace HO626 := Aside0.mk (Kd.R_elder' (rk_ HO626.out) (Kd.R_base ho1) hb); replace HO630 := Aside0.mk (Kd.R_elder' (rk_ HO630.out) (Kd.R_base ho1) hb); replace HO640 := Aside0.mk (Kd.R_elder' (rk_ HO640.out) (Kd.R_base ho1) hb); replace HO644 := Aside0.mk (Kd.R_elder' (rk_ HO644.out) (Kd.R_base ho1) hb); replace HO648 := Aside0.mk (Kd.R_elder' (rk_ HO648.out) (Kd.R_base ho1) hb); replace HO657 := Aside0.mk (Kd.R_elder' (rk_ HO657.out) (Kd.R_base ho1) hb); replace HB := Aside0.mk (below_step (bl_ HB.out) hb); (try clear hb); (try clear hb2); (try clear hk); (try clear hi); (try clear ho0); (try clear ho1); obtain ⟨Ao33, co33, eo33⟩ := Kd.R_slice HO667.out; subst eo33; obtain ⟨Ao34, co34, eo34⟩ := Kd.R_slice HO669.out; subst eo34) | ((with_reducible refine gate_callee (f := 40) rfl ?_); refine goesL_ (some 130) rfl rfl Try.func40 (by kernel_rfl) rfl #[.slice Ao33 t662.length co33, .int .i64 t663, .slice Ao34 t664.length co34, .int .i64 t665] rfl ag_ ?_; (with_reducible refine (impl_CuesBelow.calls k _ _ t662 t663 _ _ t664 t665 t670 t671 _ ?side1 ?side2 ?side3 ?side4 A14.out).mono ?_); (case side1 => exact r7_ HO667.out); (case side2 => exact (Kd.R_reads' HO667.out).2.1); (case side3 => exact r7_ HO669.out); (case side4 => exact (Kd.R_reads' HO669.out).2.1); rintro e w35 ⟨v672, rfl, ho0, hb⟩; refine ⟨_, rfl, ?_⟩; have n0_ := Aside0.mk (Kd.R_below (rk_ HO620.out) hb); have n1_ := Aside0.mk (Kd.R_below (rk_ HO622.out) hb); have n2_ := Aside0.mk (Kd.R_below (rk_ HO626.out) hb); have n3_ := Aside0.mk (Kd.R_below (rk_ HO630.out) hb); have n4_ := Aside0.mk (Kd.R_below (rk_ HO638.out) hb); have n5_ := Aside0.mk (Kd.R_below (rk_ HO640.out) hb); have n6_ := Aside0.mk (Kd.R_below (rk_ HO644.out) hb); have n7_ := Aside0.mk (Kd.R_below (rk_ HO648.out) hb); have n8_ := Aside0.mk (Kd.R_below (rk_ HO655.out) hb); have n9_ := Aside0.mk (Kd.R_below (rk_ HO657.out) hb); have n10_ := Aside0.mk (Kd.R_below (rk_ HO667.out) hb); have n11_ := Aside0.mk (Kd.R_below (rk_ HO669.out) hb); have n12_ := Aside0.mk (Kd.R_lower ho0 (below_size (bl_ HB.out))); have n13_ := Aside0.mk (below_step (bl_ HB.out) hb); clear HO620; clear HO622; clear HO626; clear HO630; clear HO638; clear HO640; clear HO644; clear HO648; clear HO655; clear HO657; clear HO667; clear HO669; clear HB; have HO620 := n0_; have HO622 := n1_; have HO626 := n2_; have HO630 := n3_; have HO638 := n4_; have HO640 := n5_; have HO644 := n6_; have HO648 := n7_; have HO655 := n8_; have HO657 := n9_; have HO667 := n10_; have HO669 := n11_; have HO673 := n12_; have HB := n13_; clear n0_ n1_ n2_ n3_ n4_ n5_ n6_ n7_ n8_ n9_ n10_ n11_ n12_ n13_; (try clear hb); (try clear hb2); (try clear hk); (try clear hi); (try clear ho0)) | ((with_reducible refine gate_callee (f := 41) rfl ?_); refine goesL_ (some 138) rfl rfl Try.func41 (by kernel_rfl) rfl #[.slice Ao33 t662.length co33, .int .i64 t663, .slice Ao34 t664.length co34, .int .i64 t665] rfl ag_ ?_; (with_reducible refine (spec_CuesBelow.calls k _ _ t662 t663 _ _ t664 t665 t674 t675 _ ?side1 ?side2 ?side3 ?side4 A15.out).mono ?_); (case side1 => exact r7_ HO667.out); (case side2 => exact (Kd.R_reads' HO667.out).2.1); (case side3 => exact r7_ HO669.out); (case side4 => exact (Kd.R_reads' HO669.out).2.1); rintro e w36 ⟨v676, rfl, ho0, hb⟩; refine ⟨_, rfl, ?_⟩; have n0_ := Aside0.mk (Kd.R_below (rk_ HO620.out) hb); have n1_ := Aside0.mk (Kd.R_below (rk_ HO622.out) hb); have n2_ := Aside0.mk (Kd.R_below (rk_ HO626.out) hb); have n3_ := Aside0.mk (Kd.R_below (rk_ HO630.out) hb); have n4_ := Aside0.mk (Kd.R_below (rk_ HO638.out) hb); have n5_ := Aside0.mk (Kd.R_below (rk_ HO640.out) hb); have n6_ := Aside0.mk (Kd.R_below (rk_ HO644.out) hb); have n7_ := Aside0.mk (Kd.R_below (rk_ HO648.out) hb); have n8_ := Aside0.mk (Kd.R_below (rk_ HO655.out) hb); have n9_ := Aside0.mk (Kd.R_below (rk_ HO657.out) hb); have n10_ := Aside0.mk (Kd.R_below (rk_ HO667.out) hb); have n11_ := Aside0.mk (Kd.R_below (rk_ HO669.out) hb); have n12_ := Aside0.mk (Kd.R_elder' (rk_ HO673.out) (Kd.R_base ho0) hb); have n13_ := Aside0.mk (Kd.R_lower (Kd.R_new' ho0 (Kd.R_lt (rk_ HO673.out))) (below_size (bl_ HB.out))); have n14_ := Aside0.mk (below_step (bl_ HB.out) hb); clear HO620; clear HO622; clear HO626; clear HO630; clear HO638; clear HO640; clear HO644; clear HO648; clear HO655; clear HO657; clear HO667; clear HO669; clear HO673; clear HB; have HO620 := n0_; have HO622 := n1_; have HO626 := n2_; have HO630 := n3_; have HO638 := n4_; have HO640 := n5_; have HO644 := n6_; have HO648 := n7_; have HO655 := n8_; have HO657 := n9_; have HO667 := n10_; have HO669 := n11_; have HO673 := n12_; have HO677 := n13_; have HB := n14_; clear n0_ n1_ n2_ n3_ n4_ n5_ n6_ n7_ n8_ n9_ n10_ n11_ n12_ n13_ n14_; (try clear hb); (try clear hb2); (try clear hk); (try clear hi); (try clear ho0)))
   (try simp only [Act.put, List.setIfInBounds_toArray, List.set_cons_zero, List.set_cons_succ])
   go_cut [181] (fun v181 wc => ∃ (kq : Nat) (x181_15 : Bool), v181 = .bool x181_15 ∧ Aside0 (laws_FnWired.j0 kq t616 t617 t623 t624 t631 t632 t634 t635 t636 t641 t642 t664 t665 t670 t671 x181_15 = some r) ∧ Aside0 (kq ≤ k) ∧ Aside0 (Kd.R k200 200 wc w.heap.size (fun k_ => some k_ ≠ ((.slice Ao23 t631.length co23) : Value).ownBlock) (.slice Ao18 t616.length co18) t616) ∧ Aside0 (Kd.R k160 160 wc w.heap.size (fun k_ => some k_ ≠ (v643 : Value).ownBlock ∧ some k_ ≠ ((.slice Ao34 t664.length co34) : Value).ownBlock) v625 t623) ∧ Aside0 (Kd.R k200 200 wc w.heap.size (fun k_ => some k_ ≠ ((.slice Ao18 t616.length co18) : Value).ownBlock) (.slice Ao23 t631.length co23) t631) ∧ Aside0 (Kd.R k160 160 wc w.heap.size (fun k_ => some k_ ≠ (v625 : Value).ownBlock ∧ some k_ ≠ ((.slice Ao34 t664.length co34) : Value).ownBlock) v643 t641) ∧ Aside0 (Kd.R k160 160 wc w.heap.size (fun k_ => some k_ ≠ (v625 : Value).ownBlock ∧ some k_ ≠ (v643 : Value).ownBlock) (.slice Ao34 t664.length co34) t664) ∧ Aside0 (Kd.R (Kd.int .i64) 2 wc w.heap.size (fun _ => True) v672 t670) ∧ Aside0 (Below w.heap.size w wc))
   case first =>
    as_aux_lemma =>
     have H := HC16.out
     clear HC16
     by_cases c37 : t624 = t628
     case neg =>
      rw [if_neg c37] at H
      have c37b0 : (t624 == t628) = false := beq_eq_false_iff_ne.mpr c37
      have c37b1 : (t624 != t628) = true := bne_iff_ne.mpr c37
      (first | rw [c37b0] | (simp only [i64_w, i32_w]; rw [c37b0]) | skip)
      exact absurd ((laws_FnWired.j0_true H).trans hT) (by decide)
     rw [if_pos c37] at H
     have c37b0 : (t624 == t628) = true := beq_iff_eq.mpr c37
     have c37b1 : (t624 != t628) = false := bne_eq_false_iff_eq.mpr c37
     clear c37
     (first | rw [c37b0] | (simp only [i64_w, i32_w]; rw [c37b0]) | skip)
     replace H := Option.bind_eq_some_iff.mp H
     obtain ⟨t678, A380, H⟩ := H
     replace H : (if t678 = true then (if t642 = t646 then ((laws_likeWires.f k t641 t645).bind fun t679 => (if t679 = true then (if t659 = t661 then (if t658 = t660 then (if t671 = t675 then ((laws_likeInts.f k t670 t674).bind fun t680 => (laws_FnWired.j0 k t616 t617 t623 t624 t631 t632 t634 t635 t636 t641 t642 t664 t665 t670 t671 (!t680))) else (laws_FnWired.j0 k t616 t617 t623 t624 t631 t632 t634 t635 t636 t641 t642 t664 t665 t670 t671 true)) else (laws_FnWired.j0 k t616 t617 t623 t624 t631 t632 t634 t635 t636 t641 t642 t664 t665 t670 t671 true)) else (laws_FnWired.j0 k t616 t617 t623 t624 t631 t632 t634 t635 t636 t641 t642 t664 t665 t670 t671 true)) else (laws_FnWired.j0 k t616 t617 t623 t624 t631 t632 t634 t635 t636 t641 t642 t664 t665 t670 t671 true))) else (laws_FnWired.j0 k t616 t617 t623 t624 t631 t632 t634 t635 t636 t641 t642 t664 t665 t670 t671 true)) else (laws_FnWired.j0 k t616 t617 t623 t624 t631 t632 t634 t635 t636 t641 t642 t664 t665 t670 t671 true)) = some r := H
     have A38 := Aside0.mk A380
     clear A380
     by_cases c39 : t678 = true
     ·subst c39
      replace H : (if t642 = t646 then ((laws_likeWires.f k t641 t645).bind fun t679 => (if t679 = true then (if t659 = t661 then (if t658 = t660 then (if t671 = t675 then ((laws_likeInts.f k t670 t674).bind fun t680 => (laws_FnWired.j0 k t616 t617 t623 t624 t631 t632 t634 t635 t636 t641 t642 t664 t665 t670 t671 (!t680))) else (laws_FnWired.j0 k t616 t617 t623 t624 t631 t632 t634 t635 t636 t641 t642 t664 t665 t670 t671 true)) else (laws_FnWired.j0 k t616 t617 t623 t624 t631 t632 t634 t635 t636 t641 t642 t664 t665 t670 t671 true)) else (laws_FnWired.j0 k t616 t617 t623 t624 t631 t632 t634 t635 t636 t641 t642 t664 t665 t670 t671 true)) else (laws_FnWired.j0 k t616 t617 t623 t624 t631 t632 t634 t635 t636 t641 t642 t664 t665 t670 t671 true))) else (laws_FnWired.j0 k t616 t617 t623 t624 t631 t632 t634 t635 t636 t641 t642 t664 t665 t670 t671 true)) = some r := by rw [if_pos rfl] at H; exact H
      by_cases c40 : t642 = t646
      case neg =>
       rw [if_neg c40] at H
       have c40b0 : (t642 == t646) = false := beq_eq_false_iff_ne.mpr c40
       have c40b1 : (t642 != t646) = true := bne_iff_ne.mpr c40
       exact absurd ((laws_FnWired.j0_true H).trans hT) (by decide)
      rw [if_pos c40] at H
      have c40b0 : (t642 == t646) = true := beq_iff_eq.mpr c40
      have c40b1 : (t642 != t646) = false := bne_eq_false_iff_eq.mpr c40
      clear c40
      replace H := Option.bind_eq_some_iff.mp H
      obtain ⟨t679, A410, H⟩ := H
      replace H : (if t679 = true then (if t659 = t661 then (if t658 = t660 then (if t671 = t675 then ((laws_likeInts.f k t670 t674).bind fun t680 => (laws_FnWired.j0 k t616 t617 t623 t624 t631 t632 t634 t635 t636 t641 t642 t664 t665 t670 t671 (!t680))) else (laws_FnWired.j0 k t616 t617 t623 t624 t631 t632 t634 t635 t636 t641 t642 t664 t665 t670 t671 true)) else (laws_FnWired.j0 k t616 t617 t623 t624 t631 t632 t634 t635 t636 t641 t642 t664 t665 t670 t671 true)) else (laws_FnWired.j0 k t616 t617 t623 t624 t631 t632 t634 t635 t636 t641 t642 t664 t665 t670 t671 true)) else (laws_FnWired.j0 k t616 t617 t623 t624 t631 t632 t634 t635 t636 t641 t642 t664 t665 t670 t671 true)) = some r := H
      have A41 := Aside0.mk A410
      clear A410
      by_cases c42 : t679 = true
      ·subst c42
       replace H : (if t659 = t661 then (if t658 = t660 then (if t671 = t675 then ((laws_likeInts.f k t670 t674).bind fun t680 => (laws_FnWired.j0 k t616 t617 t623 t624 t631 t632 t634 t635 t636 t641 t642 t664 t665 t670 t671 (!t680))) else (laws_FnWired.j0 k t616 t617 t623 t624 t631 t632 t634 t635 t636 t641 t642 t664 t665 t670 t671 true)) else (laws_FnWired.j0 k t616 t617 t623 t624 t631 t632 t634 t635 t636 t641 t642 t664 t665 t670 t671 true)) else (laws_FnWired.j0 k t616 t617 t623 t624 t631 t632 t634 t635 t636 t641 t642 t664 t665 t670 t671 true)) = some r := by rw [if_pos rfl] at H; exact H
       by_cases c43 : t659 = t661
       case neg =>
        rw [if_neg c43] at H
        have c43b0 : (t659 == t661) = false := beq_eq_false_iff_ne.mpr c43
        have c43b1 : (t659 != t661) = true := bne_iff_ne.mpr c43
        exact absurd ((laws_FnWired.j0_true H).trans hT) (by decide)
       rw [if_pos c43] at H
       have c43b0 : (t659 == t661) = true := beq_iff_eq.mpr c43
       have c43b1 : (t659 != t661) = false := bne_eq_false_iff_eq.mpr c43
       clear c43
       by_cases c44 : t658 = t660
       case neg =>
        rw [if_neg c44] at H
        have c44b0 : (t658 == t660) = false := beq_eq_false_iff_ne.mpr c44
        have c44b1 : (t658 != t660) = true := bne_iff_ne.mpr c44
        exact absurd ((laws_FnWired.j0_true H).trans hT) (by decide)
       rw [if_pos c44] at H
       have c44b0 : (t658 == t660) = true := beq_iff_eq.mpr c44
       have c44b1 : (t658 != t660) = false := bne_eq_false_iff_eq.mpr c44
       clear c44
       by_cases c45 : t671 = t675
       case neg =>
        rw [if_neg c45] at H
        have c45b0 : (t671 == t675) = false := beq_eq_false_iff_ne.mpr c45
        have c45b1 : (t671 != t675) = true := bne_iff_ne.mpr c45
        exact absurd ((laws_FnWired.j0_true H).trans hT) (by decide)
       rw [if_pos c45] at H
       have c45b0 : (t671 == t675) = true := beq_iff_eq.mpr c45
       have c45b1 : (t671 != t675) = false := bne_eq_false_iff_eq.mpr c45
       clear c45
       replace H := Option.bind_eq_some_iff.mp H
       obtain ⟨t680, A460, H⟩ := H
       replace H : (laws_FnWired.j0 k t616 t617 t623 t624 t631 t632 t634 t635 t636 t641 t642 t664 t665 t670 t671 (!t680)) = some r := H
       have A46 := Aside0.mk A460
       clear A460
       have H' := Aside0.mk H
       clear H
       obtain ⟨Ao47, co47, eo47⟩ := Kd.R_slice HO626.out
       subst eo47
       obtain ⟨Ao48, co48, eo48⟩ := Kd.R_slice HO630.out
       subst eo48
       go_wp2_with (first | (go_at_call 42; (with_reducible refine (laws_likeWires.calls k _ _ t623 _ _ t627 true _ ?side1 ?side2 ?side3 ?side4 A38.out).mono ?_); (case side1 => exact r7_ HO626.out); (case side2 => exact (Kd.R_reads' HO626.out).2.1); (case side3 => exact r7_ HO630.out); (case side4 => exact (Kd.R_reads' HO630.out).2.1); rintro e w' ⟨rfl, ⟨nd, rfl⟩⟩; obtain ⟨Ao49, co49, eo49⟩ := Kd.R_slice HO644.out; subst eo49; obtain ⟨Ao50, co50, eo50⟩ := Kd.R_slice HO648.out; subst eo50) | (go_at_call 42; (with_reducible refine (laws_likeWires.calls k _ _ t641 _ _ t645 true _ ?side1 ?side2 ?side3 ?side4 A41.out).mono ?_); (case side1 => exact r7_ HO644.out); (case side2 => exact (Kd.R_reads' HO644.out).2.1); (case side3 => exact r7_ HO648.out); (case side4 => exact (Kd.R_reads' HO648.out).2.1); rintro e w' ⟨rfl, ⟨nd, rfl⟩⟩; obtain ⟨Ao51, co51, eo51⟩ := Kd.R_slice HO673.out; subst eo51; obtain ⟨Ao52, co52, eo52⟩ := Kd.R_slice HO677.out; subst eo52) | (go_at_call 43; (with_reducible refine (laws_likeInts.calls k _ _ t670 _ _ t674 t680 _ ?side1 ?side2 ?side3 ?side4 A46.out).mono ?_); (case side1 => exact r7_ HO673.out); (case side2 => exact (Kd.R_reads' HO673.out).2.1); (case side3 => exact r7_ HO677.out); (case side4 => exact (Kd.R_reads' HO677.out).2.1); rintro e w' ⟨rfl, ⟨nd, rfl⟩⟩))
       go_meet
       case rel => exact ⟨_, (!t680), (by first | rfl | (simp; done) | (simp [*]; done)), H', ⟨by first | omega | exact Nat.le_refl _⟩, ⟨rk_ (Kd.R_mono HO620.out (fun _ hk => hk.1.1.2))⟩, ⟨rk_ (Kd.R_mono HO626.out (fun _ hk => ⟨hk.1.1.1.2, hk.2⟩))⟩, ⟨rk_ (Kd.R_mono HO638.out (fun _ hk => hk.1.1.2))⟩, ⟨rk_ (Kd.R_mono HO644.out (fun _ hk => ⟨hk.1.1.1.1.1.2, hk.2⟩))⟩, ⟨rk_ (Kd.R_mono HO669.out (fun _ hk => ⟨hk.1.1.1.1.1.2, hk.1.1.2⟩))⟩, ⟨rk_ (Kd.R_mono HO673.out (fun _ hk => trivial))⟩, ⟨bl_ HB.out⟩⟩
      ·replace c42 := Bool.eq_false_iff.mpr c42
       subst c42
       replace H : (laws_FnWired.j0 k t616 t617 t623 t624 t631 t632 t634 t635 t636 t641 t642 t664 t665 t670 t671 true) = some r := by rw [if_neg (show ¬ (false = true) by decide)] at H; exact H
       exact absurd ((laws_FnWired.j0_true H).trans hT) (by decide)
     ·replace c39 := Bool.eq_false_iff.mpr c39
      subst c39
      replace H : (laws_FnWired.j0 k t616 t617 t623 t624 t631 t632 t634 t635 t636 t641 t642 t664 t665 t670 t671 true) = some r := by rw [if_neg (show ¬ (false = true) by decide)] at H; exact H
      exact absurd ((laws_FnWired.j0_true H).trans hT) (by decide)
   case rest =>
    as_aux_lemma =>
     clear HC16
     try clear c2
     try clear p2
     try clear c3
     try clear c4
     try clear c29
     try clear c30
     try clear c31
     try clear c32
     try clear c33
     try clear c34
     try clear c35
     try clear c36
     try clear c37
     try clear c37b0
     try clear c37b1
     try clear c38
     try clear c39
     try clear c40
     try clear c40b0
     try clear c40b1
     try clear c41
     try clear c42
     try clear c43
     try clear c43b0
     try clear c43b1
     try clear c44
     try clear c44b0
     try clear c44b1
     try clear c45
     try clear c45b0
     try clear c45b1
     obtain ⟨kq, x181_15, rfl, HA, HJ15, HO_3, HO_6, HO_10, HO_16, HO_31, HO_33, HB⟩ := hcut
     cases kq with
     | zero => exact absurd HA.out (by simp [laws_FnWired.j0])
     | succ kj15 =>
      have H := HA.out
      clear HA
      simp only [laws_FnWired.j0] at H
      by_cases c73 : x181_15 = true
      case pos =>
       subst c73
       replace H : (some false) = some r := by rw [if_pos rfl] at H; exact H
       exact absurd ((Option.some.inj H).trans hT) (by decide)
      replace c73 := Bool.eq_false_iff.mpr c73
      subst c73
      replace H : (if t642 = 0 then ((impl_CueAt.f kj15 t631 t632 t641 t635 t636).bind fun bt681 => (if bt681.2 = 0 then (if bt681.1 = t634 then ((impl_AreWires.f kj15 t631 t632 t641).bind fun t683 => (if t683 = true then (laws_FnWired.j1 kj15 t616 t617 t623 t624 t664 t665 t670 t671) else (some false))) else (some false)) else (some false))) else (laws_FnWired.j1 kj15 t616 t617 t623 t624 t664 t665 t670 t671)) = some r := by rw [if_neg (show ¬ (false = true) by decide)] at H; exact H
      have HC74 := Aside0.mk H
      clear H
      go_upto_if 183 with (fail)
      go_cut [] (fun wc => ∃ (kq : Nat), Aside0 (laws_FnWired.j1 kq t616 t617 t623 t624 t664 t665 t670 t671 = some r) ∧ Aside0 (kq ≤ kj15) ∧ Aside0 (Kd.R k200 200 wc w.heap.size (fun _ => True) (.slice Ao18 t616.length co18) t616) ∧ Aside0 (Kd.R k160 160 wc w.heap.size (fun k_ => some k_ ≠ ((.slice Ao34 t664.length co34) : Value).ownBlock) v625 t623) ∧ Aside0 (Kd.R k160 160 wc w.heap.size (fun k_ => some k_ ≠ (v625 : Value).ownBlock) (.slice Ao34 t664.length co34) t664) ∧ Aside0 (Kd.R (Kd.int .i64) 2 wc w.heap.size (fun _ => True) v672 t670) ∧ Aside0 (Below w.heap.size w wc))
      case first =>
       as_aux_lemma =>
        have H := HC74.out
        clear HC74
        by_cases c75 : t642 = 0
        ·rw [if_pos c75] at H
         have c75b0 : (t642 == 0) = true := beq_iff_eq.mpr c75
         have c75b1 : (t642 != 0) = false := bne_eq_false_iff_eq.mpr c75
         clear c75
         (first | rw [c75b0] | (simp only [i64_w, i32_w]; rw [c75b0]) | skip)
         replace H := Option.bind_eq_some_iff.mp H
         obtain ⟨⟨t681, t682⟩, A760, H⟩ := H
         replace H : (if t682 = 0 then (if t681 = t634 then ((impl_AreWires.f kj15 t631 t632 t641).bind fun t683 => (if t683 = true then (laws_FnWired.j1 kj15 t616 t617 t623 t624 t664 t665 t670 t671) else (some false))) else (some false)) else (some false)) = some r := H
         have A76 := Aside0.mk A760
         clear A760
         by_cases c77 : t682 = 0
         case neg =>
          rw [if_neg c77] at H
          have c77b0 : (t682 == 0) = false := beq_eq_false_iff_ne.mpr c77
          have c77b1 : (t682 != 0) = true := bne_iff_ne.mpr c77
          exact absurd ((Option.some.inj H).trans hT) (by decide)
         rw [if_pos c77] at H
         have c77b0 : (t682 == 0) = true := beq_iff_eq.mpr c77
         have c77b1 : (t682 != 0) = false := bne_eq_false_iff_eq.mpr c77
         clear c77
         by_cases c78 : t681 = t634
         case neg =>
          rw [if_neg c78] at H
          have c78b0 : (t681 == t634) = false := beq_eq_false_iff_ne.mpr c78
          have c78b1 : (t681 != t634) = true := bne_iff_ne.mpr c78
          exact absurd ((Option.some.inj H).trans hT) (by decide)
         rw [if_pos c78] at H
         have c78b0 : (t681 == t634) = true := beq_iff_eq.mpr c78
         have c78b1 : (t681 != t634) = false := bne_eq_false_iff_eq.mpr c78
         clear c78
         replace H := Option.bind_eq_some_iff.mp H
         obtain ⟨t683, A790, H⟩ := H
         replace H : (if t683 = true then (laws_FnWired.j1 kj15 t616 t617 t623 t624 t664 t665 t670 t671) else (some false)) = some r := H
         have A79 := Aside0.mk A790
         clear A790
         by_cases c80 : t683 = true
         ·subst c80
          replace H : (laws_FnWired.j1 kj15 t616 t617 t623 t624 t664 t665 t670 t671) = some r := by rw [if_pos rfl] at H; exact H
          have H' := Aside0.mk H
          clear H
          obtain ⟨Ao81, co81, eo81⟩ := Kd.R_slice HO_16.out
          subst eo81
          go_wp2_with (first | ((with_reducible refine gate_callee (f := 37) rfl ?_); refine goesL_ (some 190) rfl rfl Try.func37 (by kernel_rfl) rfl #[.slice Ao23 t631.length co23, .int .i64 t632, .slice Ao81 t641.length co81, .int .i64 t635, .int .i64 t636] rfl ag_ ?_; (with_reducible refine (impl_CueAt.calls kj15 _ _ t631 t632 _ _ t641 t635 t636 t681 t682 _ ?side1 ?side2 ?side3 ?side4 A76.out).mono ?_); (case side1 => exact r7_ HO_10.out); (case side2 => exact (Kd.R_reads' HO_10.out).2.1); (case side3 => exact r7_ HO_16.out); (case side4 => exact (Kd.R_reads' HO_16.out).2.1); rintro e w82 ⟨rfl, hb⟩; refine ⟨_, rfl, ?_⟩; replace HO_3 := Aside0.mk (Kd.R_below (rk_ HO_3.out) hb); replace HO_6 := Aside0.mk (Kd.R_below (rk_ HO_6.out) hb); replace HO_10 := Aside0.mk (Kd.R_below (rk_ HO_10.out) hb); replace HO_16 := Aside0.mk (Kd.R_below (rk_ HO_16.out) hb); replace HO_31 := Aside0.mk (Kd.R_below (rk_ HO_31.out) hb); replace HO_33 := Aside0.mk (Kd.R_below (rk_ HO_33.out) hb); replace HB := Aside0.mk (below_step (bl_ HB.out) hb); (try clear hb); (try clear hb2); (try clear hk); (try clear hi)) | (go_at_call 44; (with_reducible refine (impl_AreWires.calls kj15 _ _ t631 t632 _ _ t641 true _ ?side1 ?side2 ?side3 ?side4 A79.out).mono ?_); (case side1 => exact r7_ HO_10.out); (case side2 => exact (Kd.R_reads' HO_10.out).2.1); (case side3 => exact r7_ HO_16.out); (case side4 => exact (Kd.R_reads' HO_16.out).2.1); rintro e w83 ⟨rfl, hb⟩; replace HO_3 := Aside0.mk (Kd.R_below (rk_ HO_3.out) hb); replace HO_6 := Aside0.mk (Kd.R_below (rk_ HO_6.out) hb); replace HO_10 := Aside0.mk (Kd.R_below (rk_ HO_10.out) hb); replace HO_16 := Aside0.mk (Kd.R_below (rk_ HO_16.out) hb); replace HO_31 := Aside0.mk (Kd.R_below (rk_ HO_31.out) hb); replace HO_33 := Aside0.mk (Kd.R_below (rk_ HO_33.out) hb); replace HB := Aside0.mk (below_step (bl_ HB.out) hb); (try clear hb); (try clear hb2); (try clear hk); (try clear hi)))
          go_meet
          case rel => exact ⟨_, H', ⟨by have := HJ15.out; first | omega | exact Nat.le_refl _⟩, ⟨rk_ (Kd.R_mono HO_3.out (fun _ hk => trivial))⟩, ⟨rk_ (Kd.R_mono HO_6.out (fun _ hk => hk.2))⟩, ⟨rk_ (Kd.R_mono HO_31.out (fun _ hk => hk.1))⟩, ⟨rk_ HO_33.out⟩, ⟨bl_ HB.out⟩⟩
         ·replace c80 := Bool.eq_false_iff.mpr c80
          subst c80
          replace H : (some false) = some r := by rw [if_neg (show ¬ (false = true) by decide)] at H; exact H
          exact absurd ((Option.some.inj H).trans hT) (by decide)
        ·rw [if_neg c75] at H
         have c75b0 : (t642 == 0) = false := beq_eq_false_iff_ne.mpr c75
         have c75b1 : (t642 != 0) = true := bne_iff_ne.mpr c75
         (first | rw [c75b0] | (simp only [i64_w, i32_w]; rw [c75b0]) | skip)
         have H' := Aside0.mk H
         clear H
         go_wp2
         go_meet
         case rel => exact ⟨_, H', ⟨by have := HJ15.out; first | omega | exact Nat.le_refl _⟩, ⟨rk_ (Kd.R_mono HO_3.out (fun _ hk => trivial))⟩, ⟨rk_ (Kd.R_mono HO_6.out (fun _ hk => hk.2))⟩, ⟨rk_ (Kd.R_mono HO_31.out (fun _ hk => hk.1))⟩, ⟨rk_ HO_33.out⟩, ⟨bl_ HB.out⟩⟩
      case rest =>
       as_aux_lemma =>
        clear HC74
        try clear c2
        try clear p2
        try clear c3
        try clear c4
        try clear c7
        try clear c8
        try clear c29
        try clear c30
        try clear c31
        try clear c32
        try clear c33
        try clear c34
        try clear c35
        try clear c36
        try clear c37
        try clear c37b0
        try clear c37b1
        try clear c38
        try clear c39
        try clear c40
        try clear c40b0
        try clear c40b1
        try clear c41
        try clear c42
        try clear c43
        try clear c43b0
        try clear c43b1
        try clear c44
        try clear c44b0
        try clear c44b1
        try clear c45
        try clear c45b0
        try clear c45b1
        try clear c73
        try clear c75
        try clear c75b0
        try clear c75b1
        try clear c77
        try clear c77b0
        try clear c77b1
        try clear c78
        try clear c78b0
        try clear c78b1
        try clear c80
        try clear p2
        obtain ⟨kq, HA, HJ73, HO_3, HO_6, HO_31, HO_33, HB⟩ := hcut
        cases kq with
        | zero => exact absurd HA.out (by simp [laws_FnWired.j1])
        | succ kj73 =>
         have H := HA.out
         clear HA
         simp only [laws_FnWired.j1] at H
         have HC91 := Aside0.mk H
         clear H
         go_upto_region 21 with (fail)
         go_cut [219] (fun v219 wc => ∃ (kq : Nat) (x219_90 : Bool), v219 = .bool x219_90 ∧ Aside0 (laws_FnWired.j2 kq t616 t617 t623 t624 x219_90 = some r) ∧ Aside0 (kq ≤ kj73) ∧ Aside0 (Kd.R k200 200 wc w.heap.size (fun _ => True) (.slice Ao18 t616.length co18) t616) ∧ Aside0 (Kd.R k160 160 wc w.heap.size (fun _ => True) v625 t623) ∧ Aside0 (Below w.heap.size w wc))
         case first =>
          have H := HC91.out
          clear HC91
          by_cases c92 : t671 = 0
          ·rw [if_pos c92] at H
           have c92b0 : (t671 == 0) = true := beq_iff_eq.mpr c92
           have c92b1 : (t671 != 0) = false := bne_eq_false_iff_eq.mpr c92
           clear c92
           (first | rw [c92b0] | (simp only [i64_w, i32_w]; rw [c92b0]) | skip)
           by_cases c93 : t665 = 0
           ·rw [if_pos c93] at H
            have c93b0 : (t665 == 0) = true := beq_iff_eq.mpr c93
            have c93b1 : (t665 != 0) = false := bne_eq_false_iff_eq.mpr c93
            clear c93
            have H' := Aside0.mk H
            clear H
            obtain ⟨Ao94, co94, eo94⟩ := Kd.R_slice HO_33.out
            subst eo94
            go_wp2
            go_meet
            case rel => exact ⟨_, (((t670.length : Int) != (t664.length : Int))), (by first | rfl | (simp; done) | (simp [*]; done)), H', ⟨by have := HJ15.out; have := HJ73.out; first | omega | exact Nat.le_refl _⟩, ⟨rk_ HO_3.out⟩, ⟨rk_ (Kd.R_mono HO_6.out (fun _ hk => trivial))⟩, ⟨bl_ HB.out⟩⟩
           ·rw [if_neg c93] at H
            have c93b0 : (t665 == 0) = false := beq_eq_false_iff_ne.mpr c93
            have c93b1 : (t665 != 0) = true := bne_iff_ne.mpr c93
            have H' := Aside0.mk H
            clear H
            go_wp2
            go_meet
            case rel => exact ⟨_, (false), (by first | rfl | (simp; done) | (simp [*]; done)), H', ⟨by have := HJ15.out; have := HJ73.out; first | omega | exact Nat.le_refl _⟩, ⟨rk_ HO_3.out⟩, ⟨rk_ (Kd.R_mono HO_6.out (fun _ hk => trivial))⟩, ⟨bl_ HB.out⟩⟩
          ·rw [if_neg c92] at H
           have c92b0 : (t671 == 0) = false := beq_eq_false_iff_ne.mpr c92
           have c92b1 : (t671 != 0) = true := bne_iff_ne.mpr c92
           (first | rw [c92b0] | (simp only [i64_w, i32_w]; rw [c92b0]) | skip)
           have H' := Aside0.mk H
           clear H
           go_wp2
           go_meet
           case rel => exact ⟨_, (false), (by first | rfl | (simp; done) | (simp [*]; done)), H', ⟨by have := HJ15.out; have := HJ73.out; first | omega | exact Nat.le_refl _⟩, ⟨rk_ HO_3.out⟩, ⟨rk_ (Kd.R_mono HO_6.out (fun _ hk => trivial))⟩, ⟨bl_ HB.out⟩⟩
         case rest =>
          as_aux_lemma =>
           clear HC91
           try clear c2
           try clear p2
           try clear c3
           try clear c4
           try clear c7
           try clear c8
           try clear c9
           try clear c29
           try clear c30
           try clear c31
           try clear c32
           try clear c33
           try clear c34
           try clear c35
           try clear c36
           try clear c37
           try clear c37b0
           try clear c37b1
           try clear c38
           try clear c39
           try clear c40
           try clear c40b0
           try clear c40b1
           try clear c41
           try clear c42
           try clear c43
           try clear c43b0
           try clear c43b1
           try clear c44
           try clear c44b0
           try clear c44b1
           try clear c45
           try clear c45b0
           try clear c45b1
           try clear c73
           try clear c75
           try clear c75b0
           try clear c75b1
           try clear c77
           try clear c77b0
           try clear c77b1
           try clear c78
           try clear c78b0
           try clear c78b1
           try clear c80
           try clear c92
           try clear c92b0
           try clear c92b1
           try clear c93
           try clear c93b0
           try clear c93b1
           try clear p2
           obtain ⟨kq, x219_90, rfl, HA, HJ90, HO_3, HO_6, HB⟩ := hcut
           cases kq with
           | zero => exact absurd HA.out (by simp [laws_FnWired.j2])
           | succ kj90 =>
            have H := HA.out
            clear HA
            simp only [laws_FnWired.j2] at H
            by_cases c95 : x219_90 = true
            case pos =>
             subst c95
             replace H : (some false) = some r := by rw [if_pos rfl] at H; exact H
             exact absurd ((Option.some.inj H).trans hT) (by decide)
            replace c95 := Bool.eq_false_iff.mpr c95
            subst c95
            replace H : (if t624 = 0 then ((impl_LooseCues.f kj90 t616 t617 t623).bind fun bt684 => (if bt684.2 = 0 then (if (bt684.1.length : Int) = 0 then (if (t623.length : Int) = t617 then ((impl_AreWires.f kj90 t616 t617 t623).bind fun t688 => (some t688)) else (some false)) else (some false)) else (some false))) else (some true)) = some r := by rw [if_neg (show ¬ (false = true) by decide)] at H; exact H
            by_cases c96 : t624 = 0
            ·as_aux_lemma =>
              rw [if_pos c96] at H
              have c96b0 : (t624 == 0) = true := beq_iff_eq.mpr c96
              have c96b1 : (t624 != 0) = false := bne_eq_false_iff_eq.mpr c96
              clear c96
              replace H := Option.bind_eq_some_iff.mp H
              obtain ⟨⟨t684, t685⟩, A970, H⟩ := H
              replace H : (if t685 = 0 then (if (t684.length : Int) = 0 then (if (t623.length : Int) = t617 then ((impl_AreWires.f kj90 t616 t617 t623).bind fun t688 => (some t688)) else (some false)) else (some false)) else (some false)) = some r := H
              have A97 := Aside0.mk A970
              clear A970
              by_cases c98 : t685 = 0
              case neg =>
               rw [if_neg c98] at H
               have c98b0 : (t685 == 0) = false := beq_eq_false_iff_ne.mpr c98
               have c98b1 : (t685 != 0) = true := bne_iff_ne.mpr c98
               exact absurd ((Option.some.inj H).trans hT) (by decide)
              rw [if_pos c98] at H
              have c98b0 : (t685 == 0) = true := beq_iff_eq.mpr c98
              have c98b1 : (t685 != 0) = false := bne_eq_false_iff_eq.mpr c98
              clear c98
              by_cases c99 : (t684.length : Int) = 0
              case neg =>
               rw [if_neg c99] at H
               have c99b0 : ((t684.length : Int) == 0) = false := beq_eq_false_iff_ne.mpr c99
               have c99b1 : ((t684.length : Int) != 0) = true := bne_iff_ne.mpr c99
               have c99b2 : ¬ (t684 = []) := fun h_ => c99 (by rw [h_]; rfl)
               exact absurd ((Option.some.inj H).trans hT) (by decide)
              rw [if_pos c99] at H
              have c99b0 : ((t684.length : Int) == 0) = true := beq_iff_eq.mpr c99
              have c99b1 : ((t684.length : Int) != 0) = false := bne_eq_false_iff_eq.mpr c99
              clear c99
              by_cases c100 : (t623.length : Int) = t617
              case neg =>
               rw [if_neg c100] at H
               have c100b0 : ((t623.length : Int) == t617) = false := beq_eq_false_iff_ne.mpr c100
               have c100b1 : ((t623.length : Int) != t617) = true := bne_iff_ne.mpr c100
               exact absurd ((Option.some.inj H).trans hT) (by decide)
              rw [if_pos c100] at H
              have c100b0 : ((t623.length : Int) == t617) = true := beq_iff_eq.mpr c100
              have c100b1 : ((t623.length : Int) != t617) = false := bne_eq_false_iff_eq.mpr c100
              clear c100
              replace H := Option.bind_eq_some_iff.mp H
              obtain ⟨t688, A1010, H⟩ := H
              replace H : (some t688) = some r := H
              have A101 := Aside0.mk A1010
              clear A1010
              obtain rfl := Option.some.inj H
              obtain ⟨Ao102, co102, eo102⟩ := Kd.R_slice HO_6.out
              subst eo102
              go_wp2_with (first | ((with_reducible refine gate_callee (f := 45) rfl ?_); refine goesL_ (some 226) rfl rfl Try.func45 (by kernel_rfl) rfl #[.slice Ao18 t616.length co18, .int .i64 t617, .slice Ao102 t623.length co102] rfl ag_ ?_; (with_reducible refine (impl_LooseCues.calls kj90 _ _ t616 t617 _ _ t623 t684 t685 _ ?side1 ?side2 ?side3 ?side4 A97.out).mono ?_); (case side1 => exact r7_ HO_3.out); (case side2 => exact (Kd.R_reads' HO_3.out).2.1); (case side3 => exact r7_ HO_6.out); (case side4 => exact (Kd.R_reads' HO_6.out).2.1); rintro e w103 ⟨v686, rfl, ho0, hb⟩; refine ⟨_, rfl, ?_⟩; replace HO_3 := Aside0.mk (Kd.R_below (rk_ HO_3.out) hb); replace HO_6 := Aside0.mk (Kd.R_below (rk_ HO_6.out) hb); have HO687 := Aside0.mk (Kd.R_lower ho0 (below_size (bl_ HB.out))); replace HB := Aside0.mk (below_step (bl_ HB.out) hb); (try clear hb); (try clear hb2); (try clear hk); (try clear hi); (try clear ho0); obtain ⟨Ao104, co104, eo104⟩ := Kd.R_slice HO687.out; subst eo104) | (go_at_call 44; (with_reducible refine (impl_AreWires.calls kj90 _ _ t616 t617 _ _ t623 t688 _ ?side1 ?side2 ?side3 ?side4 A101.out).mono ?_); (case side1 => exact r7_ HO_3.out); (case side2 => exact (Kd.R_reads' HO_3.out).2.1); (case side3 => exact r7_ HO_6.out); (case side4 => exact (Kd.R_reads' HO_6.out).2.1); rintro e w105 ⟨rfl, hb⟩; replace HO_3 := Aside0.mk (Kd.R_below (rk_ HO_3.out) hb); replace HO_6 := Aside0.mk (Kd.R_below (rk_ HO_6.out) hb); replace HO687 := Aside0.mk (Kd.R_below (rk_ HO687.out) hb); replace HB := Aside0.mk (below_step (bl_ HB.out) hb); (try clear hb); (try clear hb2); (try clear hk); (try clear hi)))
              go_ret
              exact ⟨by first | rfl | (simp [errW_none, errW_some] <;> rfl) | (simp [*, errW_none, errW_some] <;> rfl), bl_ HB.out⟩
            ·rw [if_neg c96] at H
             have c96b0 : (t624 == 0) = false := beq_eq_false_iff_ne.mpr c96
             have c96b1 : (t624 != 0) = true := bne_iff_ne.mpr c96
             obtain rfl := Option.some.inj H
             go_wp2
             go_ret
             exact ⟨by first | rfl | (simp [errW_none, errW_some] <;> rfl) | (simp [*, errW_none, errW_some] <;> rfl), bl_ HB.out⟩
/-- THE ONE PURE STATEMENT of laws_FnWired: yours. -/
def laws_FnWired.Pure : Prop := ∀ (l0 : List Int), l0.length ≤ maxLen → l0.length * 1 ≤ 140737488351232 → (∀ x ∈ l0, (Lit.int .u8 x).wf = true) → ∃ k, laws_FnWired.f k l0 = some true
theorem laws_FnWired.walk (P : laws_FnWired.Pure) (a0 : Option Addr) (len0 cap0 : Nat) (z0 : List Int) (w : World) (w0 : (a0 = none ∧ len0 = 0 ∧ cap0 = 0 ∧ z0 = []) ∨ ∃ x, a0 = some x ∧ len0 ≤ cap0 ∧ cap0 ≤ maxLen ∧ z0.length = cap0 ∧ (∀ i, i < z0.length → w.cell? (x.add i) = some (.int .u8 (z0.getD i 0))) ∧ ∀ n ∈ z0, (Lit.int .u8 n).wf = true) (y0 : len0 * 1 ≤ 140737488351232) :
  Calls Try.prog 4 #[.slice a0 len0 cap0] w fun e w' => e = .returned (.bool true) ∧ Below w.heap.size w w' := by
 obtain ⟨l0, rfl, hr0, hm0, hw0, hc0⟩ := ReadsInt.ofRowC w0
 obtain ⟨k, h⟩ := P l0 hm0 y0 hw0
 refine (laws_FnWired.calls k _ _ l0 true w (Kd.C_of_reads (d := (0 : Int)) (h1 := fun _ => rfl) hr0) hc0 h rfl).mono ?_
 rintro e w' ⟨rfl, hd⟩
 exact ⟨rfl, hd⟩
end Go.Proofs.Ytedcdhnbceaaeaa.PFnWired
