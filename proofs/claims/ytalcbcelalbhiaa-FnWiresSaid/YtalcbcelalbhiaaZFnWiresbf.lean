/- QFnWiresi of the law FnWires: taken over, declaration by declaration, as far as the law leans on it (the words and the printed functions are the kit's own print). No condition but what each says. -/
import Derived.Test.YtalcbcelalbhiaaZFnWiresav
import Derived.Test.YtalcbcelalbhiaaZFnWiresaw
import Derived.Test.YtalcbcelalbhiaaZFnWiresax
import Derived.Test.YtalcbcelalbhiaaZFnWiresaz
import Derived.Test.YtalcbcelalbhiaaZFnWiresba
import Derived.Test.YtalcbcelalbhiaaZFnWiresbb
import Derived.Test.YtalcbcelalbhiaaZFnWiresbd
import Derived.Test.YtalcbcelalbhiaaZFnWiresbe
namespace Go.Proofs.Ytalcbcelalbhiaa.PFnWires
open Go.RowKit Go.Proofs.YtalcbcelalbhiaaW.PrintWords Go.Proofs.YtalcbcelalbhiaaW.PrintLast Go.Proofs.YtalcbcelalbhiaaW.PrintMore
attribute [local go_sem] max2_int min2_int max_two min_two max_three min_three max_four min_four   -- for this text's walks alone
set_option linter.unusedVariables false
set_option linter.unusedSimpArgs false
open Bool renaming true → t_, false → f_
section
attribute [local go_sem high] eqA103
def laws_likeWires.l0 : Nat → List (S103) → List (S103) → Int → Option (Bool)
 | 0, _, _, _ => none
 | k + 1, x0, x1, x5 => if x5 < (x0.length : Int) then (if 0 ≤ x5 then (if x5 < (x1.length : Int) then (if (!(((rd_T103 x0 x5).f0) == ((rd_T103 x1 x5).f0)) || (!(((rd_T103 x0 x5).f1) == ((rd_T103 x1 x5).f1)) || (!(((rd_T103 x0 x5).f2) == ((rd_T103 x1 x5).f2))))) = true then (some false) else (laws_likeWires.l0 k x0 x1 (wrap64 (x5 + 1)))) else (none)) else (none)) else (some true)
def laws_likeWires.f (k : Nat) (l0 : List (S103)) (l1 : List (S103)) : Option (Bool) := if (l0.length : Int) = (l1.length : Int) then (laws_likeWires.l0 k l0 l1 0) else (some false)
theorem laws_likeWires.mono_l : ∀ k, (∀ y0 y1 y2, LeO (laws_likeWires.l0 k y0 y1 y2) (laws_likeWires.l0 (k + 1) y0 y1 y2))
 | 0 => fun _ _ _ r h => by simp [laws_likeWires.l0] at h
 | k + 1 => by
  have ih0 := laws_likeWires.mono_l k
  ·intro y0 y1 y2
   unfold laws_likeWires.l0
   repeat' first
   | (with_reducible exact ih0 _ _ _)
   | (with_reducible exact LeO.refl _)
   | (with_reducible exact LeO.none _)
   | (with_reducible refine LeO.ite ?_ ?_)
   | (with_reducible refine LeO.bind ?_ (fun _ => ?_))
   | exact ih0 _ _ _
   | exact LeO.none _
   | refine LeO.ite ?_ ?_
   | refine LeO.bind ?_ (fun _ => ?_)
theorem laws_likeWires.mono : ∀ a0 a1 k, LeO (laws_likeWires.f k a0 a1) (laws_likeWires.f (k + 1) a0 a1) := by
 intro a0 a1 k
 have ih0 := laws_likeWires.mono_l k
 unfold laws_likeWires.f
 repeat' first
   | (with_reducible exact ih0 _ _ _)
   | (with_reducible exact LeO.refl _)
   | (with_reducible exact LeO.none _)
   | (with_reducible refine LeO.ite ?_ ?_)
   | (with_reducible refine LeO.bind ?_ (fun _ => ?_))
   | exact ih0 _ _ _
   | exact LeO.none _
   | refine LeO.ite ?_ ?_
   | refine LeO.bind ?_ (fun _ => ?_)
set_option maxHeartbeats 8000000 in
set_option maxRecDepth 100000 in
theorem laws_likeWires.calls (k : Nat) (A0 : Option Addr) (c0 : Nat) (l0 : List (S103)) (A1 : Option Addr) (c1 : Nat) (l1 : List (S103)) (r : Bool) (w : World) (hr0 : Kd.C k103 w A0 l0.length l0) (hc0 : l0.length ≤ c0) (hr1 : Kd.C k103 w A1 l1.length l1) (hc1 : l1.length ≤ c1) (h : laws_likeWires.f k l0 l1 = some r) :
  Calls Try.prog 67 #[.slice A0 l0.length c0, .slice A1 l1.length c1] w fun e w' => e = .returned (.bool r) ∧ Drawn0 w w' := by
 have hu103 := Try.underlying103
 have HR0 := Aside0.mk hr0
 have HC0 := Aside0.mk hc0
 clear hr0 hc0
 have HR1 := Aside0.mk hr1
 have HC1 := Aside0.mk hc1
 clear hr1 hc1
 have H : (if (l0.length : Int) = (l1.length : Int) then (laws_likeWires.l0 k l0 l1 0) else (some false)) = some r := h
 clear h
 by_cases c3 : (l0.length : Int) = (l1.length : Int)
 ·rw [if_pos c3] at H
  have c3b0 : ((l0.length : Int) == (l1.length : Int)) = true := beq_iff_eq.mpr c3
  have c3b1 : ((l0.length : Int) != (l1.length : Int)) = false := bne_eq_false_iff_eq.mpr c3
  have c3b2 : (l0.length == l1.length) = true := by first | simpa using c3 | (simp at c3 ⊢; omega)
  clear c3
  have H' := Aside0.mk H
  clear H
  go_enter Try.func67, Try.ntmps67
  go_wp2
  repeat (go_quiet (fail); try go_wp2)
  go_loopg [5] k (fun kq v5 w' => ∃ (x5_1 : Int), v5 = .int .i64 x5_1 ∧ Aside0 (laws_likeWires.l0 kq l0 l1 x5_1 = some r) ∧ Aside0 (kq ≤ k) ∧ Drawn0 w w')
  case atStart => exact ⟨(0), (by first | rfl | (simp; done) | (simp [*]; done)), H', ⟨Nat.le_refl _⟩, by repeat (first | exact Drawn0.refl _ | apply Drawn0.step)⟩
  case round =>
   clear H'
   try clear c1
   try clear p2
   try clear c3
   try clear c3b0
   try clear c3b1
   try clear c3b2
   obtain ⟨x5_1, rfl, HA, HK1, ⟨m1, rfl⟩⟩ := hrel
   cases gk with
   | zero => exact absurd HA.out (by simp [laws_likeWires.l0])
   | succ k1 =>
    have H := HA.out
    clear HA
    simp only [laws_likeWires.l0] at H
    by_cases c4 : x5_1 < (l0.length : Int)
    ·rw [if_pos c4] at H
     have c4b0 : decide (x5_1 < (l0.length : Int)) = true := decide_eq_true c4
     clear c4
     by_cases c5 : 0 ≤ x5_1
     case neg =>
      rw [if_neg c5] at H
      exact absurd H (by simp)
     rw [if_pos c5] at H
     have c5b0 : decide (0 ≤ x5_1) = true := decide_eq_true c5
     clear c5
     by_cases c6 : x5_1 < (l1.length : Int)
     case neg =>
      rw [if_neg c6] at H
      exact absurd H (by simp)
     rw [if_pos c6] at H
     have c6b0 : decide (x5_1 < (l1.length : Int)) = true := decide_eq_true c6
     clear c6
     by_cases c7 : (!(((rd_T103 l0 x5_1).f0) == ((rd_T103 l1 x5_1).f0)) || (!(((rd_T103 l0 x5_1).f1) == ((rd_T103 l1 x5_1).f1)) || (!(((rd_T103 l0 x5_1).f2) == ((rd_T103 l1 x5_1).f2))))) = true
     ·rw [if_pos c7] at H
      have c7b0 : (!(((rd_T103 l0 x5_1).f0) == ((rd_T103 l1 x5_1).f0)) || (!(((rd_T103 l0 x5_1).f1) == ((rd_T103 l1 x5_1).f1)) || (!(((rd_T103 l0 x5_1).f2) == ((rd_T103 l1 x5_1).f2))))) = true := c7
      clear c7
      obtain rfl := Option.some.inj H
      have p515 : 0 ≤ (x5_1 : Int) := od_
      have q515 : x5_1 < (l0.length : Int) := od_
      obtain ⟨ad515, e515, hx515_0, hx515_1, hx515_2⟩ := at_T103 HR0.out x5_1 p515 q515
      cases e515
      replace p515 := eq_true p515
      replace q515 := eq_true q515
      have p516 : 0 ≤ (x5_1 : Int) := od_
      have q516 : x5_1 < (l1.length : Int) := od_
      obtain ⟨ad516, e516, hx516_0, hx516_1, hx516_2⟩ := at_T103 HR1.out x5_1 p516 q516
      cases e516
      replace p516 := eq_true p516
      replace q516 := eq_true q516
      go_wp2
      repeat (go_quiet (fail); try go_wp2)
      go_ret
      exact ⟨by first | rfl | (simp; done) | (simp [*]; done), by repeat (first | exact Drawn0.refl _ | apply Drawn0.step)⟩
     ·rw [if_neg c7] at H
      have c7b0 : (!(((rd_T103 l0 x5_1).f0) == ((rd_T103 l1 x5_1).f0)) || (!(((rd_T103 l0 x5_1).f1) == ((rd_T103 l1 x5_1).f1)) || (!(((rd_T103 l0 x5_1).f2) == ((rd_T103 l1 x5_1).f2))))) = false := by simpa using c7
      clear c7
      have H' := Aside0.mk H
      clear H
      have p515 : 0 ≤ (x5_1 : Int) := od_
      have q515 : x5_1 < (l0.length : Int) := od_
      obtain ⟨ad515, e515, hx515_0, hx515_1, hx515_2⟩ := at_T103 HR0.out x5_1 p515 q515
      cases e515
      replace p515 := eq_true p515
      replace q515 := eq_true q515
      have p516 : 0 ≤ (x5_1 : Int) := od_
      have q516 : x5_1 < (l1.length : Int) := od_
      obtain ⟨ad516, e516, hx516_0, hx516_1, hx516_2⟩ := at_T103 HR1.out x5_1 p516 q516
      cases e516
      replace p516 := eq_true p516
      replace q516 := eq_true q516
      go_wp2
      repeat (go_quiet (fail); try go_wp2)
      go_roundg k1
      case measure => have := HK1.out; omega
      case rel => exact ⟨(wrap64 (x5_1 + 1)), (by first | rfl | (simp; done) | (simp [*]; done)), H', ⟨by have := HK1.out; omega⟩, by repeat (first | exact Drawn0.refl _ | apply Drawn0.step)⟩
    ·rw [if_neg c4] at H
     have c4b0 : decide (x5_1 < (l0.length : Int)) = false := decide_eq_false c4
     clear c4
     obtain rfl := Option.some.inj H
     go_wp2
     repeat (go_quiet (fail); try go_wp2)
     go_ret
     exact ⟨by first | rfl | (simp; done) | (simp [*]; done), by repeat (first | exact Drawn0.refl _ | apply Drawn0.step)⟩
 ·rw [if_neg c3] at H
  have c3b0 : ((l0.length : Int) == (l1.length : Int)) = false := beq_eq_false_iff_ne.mpr c3
  have c3b1 : ((l0.length : Int) != (l1.length : Int)) = true := bne_iff_ne.mpr c3
  have c3b2 : (l0.length == l1.length) = false := by first | simpa using c3 | (simp at c3 ⊢; omega)
  obtain rfl := Option.some.inj H
  go_enter Try.func67, Try.ntmps67
  go_wp2
  repeat (go_quiet (fail); try go_wp2)
  go_ret
  exact ⟨by first | rfl | (simp; done) | (simp [*]; done), by repeat (first | exact Drawn0.refl _ | apply Drawn0.step)⟩
end
section
attribute [local go_sem high] eqA103
def impl_CueAt.f (k : Nat) (l0 : List (S98)) (a1 : Int) (l2 : List (S103)) (a3 : Int) (a4 : Int) : Option (Int × Int) := (impl_AreWires.f k l0 a1 l2).bind fun t517 => (if t517 = true then ((impl_isPin.f l0 a3 a4).bind fun t518 => (if t518 = true then ((impl_cueAt.f k l2 a3 a4).bind fun t519 => (if t519 < 0 then (some (0, 4)) else (some (t519, 0)))) else (some (0, 2)))) else (some (0, 1)))
theorem impl_CueAt.mono : ∀ a0 a1 a2 a3 a4 k, LeO (impl_CueAt.f k a0 a1 a2 a3 a4) (impl_CueAt.f (k + 1) a0 a1 a2 a3 a4) := by
 intro a0 a1 a2 a3 a4 k
 unfold impl_CueAt.f
 repeat' first
   | (with_reducible exact impl_AreWires.mono _ _ _ _)
   | (with_reducible exact impl_cueAt.mono _ _ _ _)
   | (with_reducible exact LeO.refl _)
   | (with_reducible exact LeO.none _)
   | (with_reducible refine LeO.ite ?_ ?_)
   | (with_reducible refine LeO.bind ?_ (fun _ => ?_))
   | exact impl_AreWires.mono _ _ _ _
   | exact impl_cueAt.mono _ _ _ _
   | exact LeO.none _
   | refine LeO.ite ?_ ?_
   | refine LeO.bind ?_ (fun _ => ?_)
set_option maxHeartbeats 8000000 in
set_option maxRecDepth 100000 in
theorem impl_CueAt.calls (k : Nat) (A0 : Option Addr) (c0 : Nat) (l0 : List (S98)) (a1 : Int) (A2 : Option Addr) (c2 : Nat) (l2 : List (S103)) (a3 : Int) (a4 : Int) (r1 : Int) (r2 : Int) (w : World) (hr0 : Kd.C k98 w A0 l0.length l0) (hc0 : l0.length ≤ c0) (hr2 : Kd.C k103 w A2 l2.length l2) (hc2 : l2.length ≤ c2) (h : impl_CueAt.f k l0 a1 l2 a3 a4 = some (r1, r2)) :
  Calls Try.prog 69 #[.slice A0 l0.length c0, .int .i64 a1, .slice A2 l2.length c2, .int .i64 a3, .int .i64 a4] w fun e w' => e = .returned (.tuple #[.int .i64 r1, .int .i64 r2]) ∧ Below w.heap.size w w' := by
 have HR0 := Aside0.mk hr0
 have HC0 := Aside0.mk hc0
 clear hr0 hc0
 have HR2 := Aside0.mk hr2
 have HC2 := Aside0.mk hc2
 clear hr2 hc2
 have HB := Aside0.mk (Below.refl w.heap.size w)
 have H : ((impl_AreWires.f k l0 a1 l2).bind fun t517 => (if t517 = true then ((impl_isPin.f l0 a3 a4).bind fun t518 => (if t518 = true then ((impl_cueAt.f k l2 a3 a4).bind fun t519 => (if t519 < 0 then (some (0, 4)) else (some (t519, 0)))) else (some (0, 2)))) else (some (0, 1)))) = some (r1, r2) := h
 clear h
 replace H := Option.bind_eq_some_iff.mp H
 obtain ⟨t517, A60, H⟩ := H
 replace H : (if t517 = true then ((impl_isPin.f l0 a3 a4).bind fun t518 => (if t518 = true then ((impl_cueAt.f k l2 a3 a4).bind fun t519 => (if t519 < 0 then (some (0, 4)) else (some (t519, 0)))) else (some (0, 2)))) else (some (0, 1))) = some (r1, r2) := H
 have A6 := Aside0.mk A60
 clear A60
 by_cases c7 : t517 = true
 ·subst c7
  have H1 : ((impl_isPin.f l0 a3 a4).bind fun t518 => (if t518 = true then ((impl_cueAt.f k l2 a3 a4).bind fun t519 => (if t519 < 0 then (some (0, 4)) else (some (t519, 0)))) else (some (0, 2)))) = some (r1, r2) := by rw [if_pos rfl] at H; exact H
  clear H
  have H := H1
  clear H1
  replace H := Option.bind_eq_some_iff.mp H
  obtain ⟨t518, A80, H⟩ := H
  replace H : (if t518 = true then ((impl_cueAt.f k l2 a3 a4).bind fun t519 => (if t519 < 0 then (some (0, 4)) else (some (t519, 0)))) else (some (0, 2))) = some (r1, r2) := H
  have A8 := Aside0.mk A80
  clear A80
  by_cases c9 : t518 = true
  ·subst c9
   have H1 : ((impl_cueAt.f k l2 a3 a4).bind fun t519 => (if t519 < 0 then (some (0, 4)) else (some (t519, 0)))) = some (r1, r2) := by rw [if_pos rfl] at H; exact H
   clear H
   have H := H1
   clear H1
   replace H := Option.bind_eq_some_iff.mp H
   obtain ⟨t519, A100, H⟩ := H
   replace H : (if t519 < 0 then (some (0, 4)) else (some (t519, 0))) = some (r1, r2) := H
   have A10 := Aside0.mk A100
   clear A100
   by_cases c11 : t519 < 0
   ·rw [if_pos c11] at H
    have c11b0 : decide (t519 < 0) = true := decide_eq_true c11
    clear c11
    simp only [Option.some.injEq, Prod.mk.injEq] at H
    obtain ⟨rfl, rfl⟩ := H
    go_enter Try.func69, Try.ntmps69
    go_wp2_with (first | ((with_reducible refine gate_callee (f := 68) rfl ?_); refine goesL_ (some 16) rfl rfl Try.func68 (by kernel_rfl) rfl #[.slice A0 l0.length c0, .int .i64 a1, .slice A2 l2.length c2] rfl ag_ ?_; (with_reducible refine (impl_AreWires.calls k _ _ l0 a1 _ _ l2 true _ ?side1 ?side2 ?side3 ?side4 A6.out).mono ?_); (case side1 => exact r6_ HR0.out); (case side2 => exact HC0.out); (case side3 => exact r6_ HR2.out); (case side4 => exact HC2.out); rintro e w12 ⟨rfl, hb⟩; refine ⟨_, rfl, ?_⟩; have n0_ := Aside0.mk (below_step (bl_ HB.out) hb); clear HB; have HB := n0_; clear n0_; (try clear hb); (try clear hb2); (try clear hk); (try clear hi)) | ((with_reducible refine gate_callee (f := 131) rfl ?_); refine goesL_ (some 21) rfl rfl Try.func131 (by kernel_rfl) rfl #[.slice A0 l0.length c0, .int .i64 a3, .int .i64 a4] rfl ag_ ?_; (with_reducible refine (impl_isPin.calls _ _ l0 a3 a4 true _ ?side1 ?side2 A8.out).mono ?_); (case side1 => exact r9_ HR0.out HB.out); (case side2 => exact HC0.out); rintro e w' ⟨rfl, ⟨nd, rfl⟩⟩; refine ⟨_, rfl, ?_⟩) | ((with_reducible refine gate_callee (f := 132) rfl ?_); refine goesL_ (some 26) rfl rfl Try.func132 (by kernel_rfl) rfl #[.slice A2 l2.length c2, .int .i64 a3, .int .i64 a4] rfl ag_ ?_; (with_reducible refine (impl_cueAt.calls k _ _ l2 a3 a4 t519 _ ?side1 ?side2 A10.out).mono ?_); (case side1 => exact r12_ HR2.out HB.out); (case side2 => exact HC2.out); rintro e w13 ⟨rfl, hb⟩; refine ⟨_, rfl, ?_⟩; have n0_ := Aside0.mk (below_step (bl_ HB.out) hb); clear HB; have HB := n0_; clear n0_; (try clear hb); (try clear hb2); (try clear hk); (try clear hi)))
    go_ret2
    exact ⟨by first | rfl | (simp [errW_none, errW_some] <;> rfl) | (simp [*, errW_none, errW_some] <;> rfl), bl_ HB.out⟩
   ·rw [if_neg c11] at H
    have c11b0 : decide (t519 < 0) = false := decide_eq_false c11
    clear c11
    simp only [Option.some.injEq, Prod.mk.injEq] at H
    obtain ⟨rfl, rfl⟩ := H
    go_enter Try.func69, Try.ntmps69
    go_wp2_with (first | ((with_reducible refine gate_callee (f := 68) rfl ?_); refine goesL_ (some 16) rfl rfl Try.func68 (by kernel_rfl) rfl #[.slice A0 l0.length c0, .int .i64 a1, .slice A2 l2.length c2] rfl ag_ ?_; (with_reducible refine (impl_AreWires.calls k _ _ l0 a1 _ _ l2 true _ ?side1 ?side2 ?side3 ?side4 A6.out).mono ?_); (case side1 => exact r6_ HR0.out); (case side2 => exact HC0.out); (case side3 => exact r6_ HR2.out); (case side4 => exact HC2.out); rintro e w14 ⟨rfl, hb⟩; refine ⟨_, rfl, ?_⟩; have n0_ := Aside0.mk (below_step (bl_ HB.out) hb); clear HB; have HB := n0_; clear n0_; (try clear hb); (try clear hb2); (try clear hk); (try clear hi)) | ((with_reducible refine gate_callee (f := 131) rfl ?_); refine goesL_ (some 21) rfl rfl Try.func131 (by kernel_rfl) rfl #[.slice A0 l0.length c0, .int .i64 a3, .int .i64 a4] rfl ag_ ?_; (with_reducible refine (impl_isPin.calls _ _ l0 a3 a4 true _ ?side1 ?side2 A8.out).mono ?_); (case side1 => exact r9_ HR0.out HB.out); (case side2 => exact HC0.out); rintro e w' ⟨rfl, ⟨nd, rfl⟩⟩; refine ⟨_, rfl, ?_⟩) | ((with_reducible refine gate_callee (f := 132) rfl ?_); refine goesL_ (some 26) rfl rfl Try.func132 (by kernel_rfl) rfl #[.slice A2 l2.length c2, .int .i64 a3, .int .i64 a4] rfl ag_ ?_; (with_reducible refine (impl_cueAt.calls k _ _ l2 a3 a4 t519 _ ?side1 ?side2 A10.out).mono ?_); (case side1 => exact r12_ HR2.out HB.out); (case side2 => exact HC2.out); rintro e w15 ⟨rfl, hb⟩; refine ⟨_, rfl, ?_⟩; have n0_ := Aside0.mk (below_step (bl_ HB.out) hb); clear HB; have HB := n0_; clear n0_; (try clear hb); (try clear hb2); (try clear hk); (try clear hi)))
    go_ret2
    exact ⟨by first | rfl | (simp [errW_none, errW_some] <;> rfl) | (simp [*, errW_none, errW_some] <;> rfl), bl_ HB.out⟩
  ·replace c9 := Bool.eq_false_iff.mpr c9
   subst c9
   have H1 : (some (0, 2)) = some (r1, r2) := by rw [if_neg (show ¬ (false = true) by decide)] at H; exact H
   clear H
   have H := H1
   clear H1
   simp only [Option.some.injEq, Prod.mk.injEq] at H
   obtain ⟨rfl, rfl⟩ := H
   go_enter Try.func69, Try.ntmps69
   go_wp2_with (first | ((with_reducible refine gate_callee (f := 68) rfl ?_); refine goesL_ (some 16) rfl rfl Try.func68 (by kernel_rfl) rfl #[.slice A0 l0.length c0, .int .i64 a1, .slice A2 l2.length c2] rfl ag_ ?_; (with_reducible refine (impl_AreWires.calls k _ _ l0 a1 _ _ l2 true _ ?side1 ?side2 ?side3 ?side4 A6.out).mono ?_); (case side1 => exact r6_ HR0.out); (case side2 => exact HC0.out); (case side3 => exact r6_ HR2.out); (case side4 => exact HC2.out); rintro e w16 ⟨rfl, hb⟩; refine ⟨_, rfl, ?_⟩; have n0_ := Aside0.mk (below_step (bl_ HB.out) hb); clear HB; have HB := n0_; clear n0_; (try clear hb); (try clear hb2); (try clear hk); (try clear hi)) | ((with_reducible refine gate_callee (f := 131) rfl ?_); refine goesL_ (some 21) rfl rfl Try.func131 (by kernel_rfl) rfl #[.slice A0 l0.length c0, .int .i64 a3, .int .i64 a4] rfl ag_ ?_; (with_reducible refine (impl_isPin.calls _ _ l0 a3 a4 false _ ?side1 ?side2 A8.out).mono ?_); (case side1 => exact r9_ HR0.out HB.out); (case side2 => exact HC0.out); rintro e w' ⟨rfl, ⟨nd, rfl⟩⟩; refine ⟨_, rfl, ?_⟩))
   go_ret2
   exact ⟨by first | rfl | (simp [errW_none, errW_some] <;> rfl) | (simp [*, errW_none, errW_some] <;> rfl), bl_ HB.out⟩
 ·replace c7 := Bool.eq_false_iff.mpr c7
  subst c7
  have H1 : (some (0, 1)) = some (r1, r2) := by rw [if_neg (show ¬ (false = true) by decide)] at H; exact H
  clear H
  have H := H1
  clear H1
  simp only [Option.some.injEq, Prod.mk.injEq] at H
  obtain ⟨rfl, rfl⟩ := H
  go_enter Try.func69, Try.ntmps69
  go_wp2_with (first | ((with_reducible refine gate_callee (f := 68) rfl ?_); refine goesL_ (some 16) rfl rfl Try.func68 (by kernel_rfl) rfl #[.slice A0 l0.length c0, .int .i64 a1, .slice A2 l2.length c2] rfl ag_ ?_; (with_reducible refine (impl_AreWires.calls k _ _ l0 a1 _ _ l2 false _ ?side1 ?side2 ?side3 ?side4 A6.out).mono ?_); (case side1 => exact r6_ HR0.out); (case side2 => exact HC0.out); (case side3 => exact r6_ HR2.out); (case side4 => exact HC2.out); rintro e w17 ⟨rfl, hb⟩; refine ⟨_, rfl, ?_⟩; have n0_ := Aside0.mk (below_step (bl_ HB.out) hb); clear HB; have HB := n0_; clear n0_; (try clear hb); (try clear hb2); (try clear hk); (try clear hi)))
  go_ret2
  exact ⟨by first | rfl | (simp [errW_none, errW_some] <;> rfl) | (simp [*, errW_none, errW_some] <;> rfl), bl_ HB.out⟩
end
mutual
def laws_FnWires.j0 : Nat → List (S98) → Int → List (S103) → Int → List (S103) → Int → List Int → Int → List (S98) → Int → List (S103) → Int → List Int → Int → Bool → Option (Bool)
 | 0, _, _, _, _, _, _, _, _, _, _, _, _, _, _, _ => none
 | k + 1, x3, x4, x5, x6, x7, x8, x15, x16, x19, x20, x21, x22, x23, x24, x160 => if x160 = true then (some false) else (if x16 = 0 then (laws_FnWires.j1 k x3 x4 x5 x6 x7 x8 x15 x19 x20 x21 x22 x23 x24 ((wrap64 ((x15.length : Int) + (x5.length : Int))) != x4)) else (laws_FnWires.j1 k x3 x4 x5 x6 x7 x8 x15 x19 x20 x21 x22 x23 x24 false))
def laws_FnWires.j1 : Nat → List (S98) → Int → List (S103) → Int → List (S103) → Int → List Int → List (S98) → Int → List (S103) → Int → List Int → Int → Bool → Option (Bool)
 | 0, _, _, _, _, _, _, _, _, _, _, _, _, _, _ => none
 | k + 1, x3, x4, x5, x6, x7, x8, x15, x19, x20, x21, x22, x23, x24, x171 => if x171 = true then (some false) else (laws_FnWires.l0 k x3 x4 x5 x6 x7 x8 x15 x19 x20 x21 x22 x23 x24 0)
def laws_FnWires.l0 : Nat → List (S98) → Int → List (S103) → Int → List (S103) → Int → List Int → List (S98) → Int → List (S103) → Int → List Int → Int → Int → Option (Bool)
 | 0, _, _, _, _, _, _, _, _, _, _, _, _, _, _ => none
 | k + 1, x3, x4, x5, x6, x7, x8, x15, x19, x20, x21, x22, x23, x24, x27 => if x24 = 0 then (laws_FnWires.j3 k x3 x4 x5 x6 x7 x8 x15 x19 x20 x21 x22 x23 x24 x27 (decide (x27 < (x23.length : Int)))) else (laws_FnWires.j3 k x3 x4 x5 x6 x7 x8 x15 x19 x20 x21 x22 x23 x24 x27 false)
def laws_FnWires.j3 : Nat → List (S98) → Int → List (S103) → Int → List (S103) → Int → List Int → List (S98) → Int → List (S103) → Int → List Int → Int → Int → Bool → Option (Bool)
 | 0, _, _, _, _, _, _, _, _, _, _, _, _, _, _, _ => none
 | k + 1, x3, x4, x5, x6, x7, x8, x15, x19, x20, x21, x22, x23, x24, x27, x179 => if x179 = true then (if 0 ≤ x27 then (if x27 < (x23.length : Int) then ((impl_CueAt.f k x19 x20 x21 x22 (rd x23 x27)).bind fun bt575 => (if bt575.2 = 4 then (laws_FnWires.l0 k x3 x4 x5 x6 x7 x8 x15 x19 x20 x21 x22 x23 x24 (wrap64 (x27 + 1))) else (some false))) else (none)) else (none)) else (if x8 = 0 then ((impl_CutWire.f k x3 x4 x7 x6).bind fun bt577 => (if bt577.2 = 0 then ((laws_likeWires.f k bt577.1 x5).bind fun t581 => (if t581 = true then ((impl_AreWires.f k x3 x4 x7).bind fun t582 => (if t582 = true then ((laws_hasInt.f k x15 x6).bind fun t583 => (some t583)) else (some false))) else (some false))) else (some false))) else (some true))
end
def laws_FnWires.f (k : Nat) (l0 : List Int) : Option (Bool) := (laws_big.f l0).bind fun t520 => (if t520 = true then (some true) else ((spec_DrawWireCue.f k l0).bind fun bt521 => ((impl_WireCue.f k bt521.1 bt521.2.1 bt521.2.2.1 bt521.2.2.2).bind fun bt529 => ((spec_WireCue.f k bt521.1 bt521.2.1 bt521.2.2.1 bt521.2.2.2).bind fun bt533 => ((impl_CutWire.f k bt521.1 bt521.2.1 bt521.2.2.1 bt521.2.2.2).bind fun bt537 => ((spec_CutWire.f k bt521.1 bt521.2.1 bt521.2.2.1 bt521.2.2.2).bind fun bt541 => ((impl_LooseCues.f k bt521.1 bt521.2.1 bt521.2.2.1).bind fun bt545 => ((spec_LooseCues.f k bt521.1 bt521.2.1 bt521.2.2.1).bind fun bt549 => ((spec_DrawFreePins.f k l0).bind fun bt553 => ((impl_FreePins.f k bt553.1 bt553.2.1 bt553.2.2.1 bt553.2.2.2).bind fun bt561 => ((spec_FreePins.f k bt553.1 bt553.2.1 bt553.2.2.1 bt553.2.2.2).bind fun bt565 => (if bt529.2 = bt533.2 then ((laws_likeWires.f k bt529.1 bt533.1).bind fun t569 => (if t569 = true then (if bt537.2 = bt541.2 then ((laws_likeWires.f k bt537.1 bt541.1).bind fun t570 => (if t570 = true then (if bt545.2 = bt549.2 then ((laws_likeInts.f k bt545.1 bt549.1).bind fun t571 => (if t571 = true then (if bt561.2 = bt565.2 then ((laws_likeInts.f k bt561.1 bt565.1).bind fun t572 => (if t572 = true then ((impl_AreWires.f k bt521.1 bt521.2.1 bt521.2.2.1).bind fun t573 => (laws_FnWires.j0 k bt521.1 bt521.2.1 bt521.2.2.1 bt521.2.2.2 bt529.1 bt529.2 bt545.1 bt545.2 bt553.1 bt553.2.1 bt553.2.2.1 bt553.2.2.2 bt561.1 bt561.2 (t573 != (bt549.2 == 0)))) else (laws_FnWires.j0 k bt521.1 bt521.2.1 bt521.2.2.1 bt521.2.2.2 bt529.1 bt529.2 bt545.1 bt545.2 bt553.1 bt553.2.1 bt553.2.2.1 bt553.2.2.2 bt561.1 bt561.2 true))) else (laws_FnWires.j0 k bt521.1 bt521.2.1 bt521.2.2.1 bt521.2.2.2 bt529.1 bt529.2 bt545.1 bt545.2 bt553.1 bt553.2.1 bt553.2.2.1 bt553.2.2.2 bt561.1 bt561.2 true)) else (laws_FnWires.j0 k bt521.1 bt521.2.1 bt521.2.2.1 bt521.2.2.2 bt529.1 bt529.2 bt545.1 bt545.2 bt553.1 bt553.2.1 bt553.2.2.1 bt553.2.2.2 bt561.1 bt561.2 true))) else (laws_FnWires.j0 k bt521.1 bt521.2.1 bt521.2.2.1 bt521.2.2.2 bt529.1 bt529.2 bt545.1 bt545.2 bt553.1 bt553.2.1 bt553.2.2.1 bt553.2.2.2 bt561.1 bt561.2 true)) else (laws_FnWires.j0 k bt521.1 bt521.2.1 bt521.2.2.1 bt521.2.2.2 bt529.1 bt529.2 bt545.1 bt545.2 bt553.1 bt553.2.1 bt553.2.2.1 bt553.2.2.2 bt561.1 bt561.2 true))) else (laws_FnWires.j0 k bt521.1 bt521.2.1 bt521.2.2.1 bt521.2.2.2 bt529.1 bt529.2 bt545.1 bt545.2 bt553.1 bt553.2.1 bt553.2.2.1 bt553.2.2.2 bt561.1 bt561.2 true)) else (laws_FnWires.j0 k bt521.1 bt521.2.1 bt521.2.2.1 bt521.2.2.2 bt529.1 bt529.2 bt545.1 bt545.2 bt553.1 bt553.2.1 bt553.2.2.1 bt553.2.2.2 bt561.1 bt561.2 true))) else (laws_FnWires.j0 k bt521.1 bt521.2.1 bt521.2.2.1 bt521.2.2.2 bt529.1 bt529.2 bt545.1 bt545.2 bt553.1 bt553.2.1 bt553.2.2.1 bt553.2.2.2 bt561.1 bt561.2 true)))))))))))))
theorem laws_FnWires.mono_l : ∀ k, (∀ y0 y1 y2 y3 y4 y5 y6 y7 y8 y9 y10 y11 y12 y13 y14, LeO (laws_FnWires.j0 k y0 y1 y2 y3 y4 y5 y6 y7 y8 y9 y10 y11 y12 y13 y14) (laws_FnWires.j0 (k + 1) y0 y1 y2 y3 y4 y5 y6 y7 y8 y9 y10 y11 y12 y13 y14)) ∧ (∀ y0 y1 y2 y3 y4 y5 y6 y7 y8 y9 y10 y11 y12 y13, LeO (laws_FnWires.j1 k y0 y1 y2 y3 y4 y5 y6 y7 y8 y9 y10 y11 y12 y13) (laws_FnWires.j1 (k + 1) y0 y1 y2 y3 y4 y5 y6 y7 y8 y9 y10 y11 y12 y13)) ∧ (∀ y0 y1 y2 y3 y4 y5 y6 y7 y8 y9 y10 y11 y12 y13, LeO (laws_FnWires.l0 k y0 y1 y2 y3 y4 y5 y6 y7 y8 y9 y10 y11 y12 y13) (laws_FnWires.l0 (k + 1) y0 y1 y2 y3 y4 y5 y6 y7 y8 y9 y10 y11 y12 y13)) ∧ (∀ y0 y1 y2 y3 y4 y5 y6 y7 y8 y9 y10 y11 y12 y13 y14, LeO (laws_FnWires.j3 k y0 y1 y2 y3 y4 y5 y6 y7 y8 y9 y10 y11 y12 y13 y14) (laws_FnWires.j3 (k + 1) y0 y1 y2 y3 y4 y5 y6 y7 y8 y9 y10 y11 y12 y13 y14))
 | 0 => ⟨fun _ _ _ _ _ _ _ _ _ _ _ _ _ _ _ r h => by simp [laws_FnWires.j0] at h, fun _ _ _ _ _ _ _ _ _ _ _ _ _ _ r h => by simp [laws_FnWires.j1] at h, fun _ _ _ _ _ _ _ _ _ _ _ _ _ _ r h => by simp [laws_FnWires.l0] at h, fun _ _ _ _ _ _ _ _ _ _ _ _ _ _ _ r h => by simp [laws_FnWires.j3] at h⟩
 | k + 1 => by
  obtain ⟨ih0, ih1, ih2, ih3⟩ := laws_FnWires.mono_l k
  refine ⟨?_, ?_, ?_, ?_⟩
  ·intro y0 y1 y2 y3 y4 y5 y6 y7 y8 y9 y10 y11 y12 y13 y14
   unfold laws_FnWires.j0
   repeat' first
   | (with_reducible exact ih0 _ _ _ _ _ _ _ _ _ _ _ _ _ _ _)
   | (with_reducible exact ih1 _ _ _ _ _ _ _ _ _ _ _ _ _ _)
   | (with_reducible exact ih2 _ _ _ _ _ _ _ _ _ _ _ _ _ _)
   | (with_reducible exact ih3 _ _ _ _ _ _ _ _ _ _ _ _ _ _ _)
   | (with_reducible exact impl_AreWires.mono _ _ _ _)
   | (with_reducible exact impl_CueAt.mono _ _ _ _ _ _)
   | (with_reducible exact impl_CutWire.mono _ _ _ _ _)
   | (with_reducible exact impl_FreePins.mono _ _ _ _ _)
   | (with_reducible exact impl_LooseCues.mono _ _ _ _)
   | (with_reducible exact impl_WireCue.mono _ _ _ _ _)
   | (with_reducible exact laws_hasInt.mono _ _ _)
   | (with_reducible exact laws_likeInts.mono _ _ _)
   | (with_reducible exact laws_likeWires.mono _ _ _)
   | (with_reducible exact spec_CutWire.mono _ _ _ _ _)
   | (with_reducible exact spec_DrawFreePins.mono _ _)
   | (with_reducible exact spec_DrawWireCue.mono _ _)
   | (with_reducible exact spec_FreePins.mono _ _ _ _ _)
   | (with_reducible exact spec_LooseCues.mono _ _ _ _)
   | (with_reducible exact spec_WireCue.mono _ _ _ _ _)
   | (with_reducible exact LeO.refl _)
   | (with_reducible exact LeO.none _)
   | (with_reducible refine LeO.ite ?_ ?_)
   | (with_reducible refine LeO.bind ?_ (fun _ => ?_))
   | exact ih0 _ _ _ _ _ _ _ _ _ _ _ _ _ _ _
   | exact ih1 _ _ _ _ _ _ _ _ _ _ _ _ _ _
   | exact ih2 _ _ _ _ _ _ _ _ _ _ _ _ _ _
   | exact ih3 _ _ _ _ _ _ _ _ _ _ _ _ _ _ _
   | exact impl_AreWires.mono _ _ _ _
   | exact impl_CueAt.mono _ _ _ _ _ _
   | exact impl_CutWire.mono _ _ _ _ _
   | exact impl_FreePins.mono _ _ _ _ _
   | exact impl_LooseCues.mono _ _ _ _
   | exact impl_WireCue.mono _ _ _ _ _
   | exact laws_hasInt.mono _ _ _
   | exact laws_likeInts.mono _ _ _
   | exact laws_likeWires.mono _ _ _
   | exact spec_CutWire.mono _ _ _ _ _
   | exact spec_DrawFreePins.mono _ _
   | exact spec_DrawWireCue.mono _ _
   | exact spec_FreePins.mono _ _ _ _ _
   | exact spec_LooseCues.mono _ _ _ _
   | exact spec_WireCue.mono _ _ _ _ _
   | exact LeO.none _
   | refine LeO.ite ?_ ?_
   | refine LeO.bind ?_ (fun _ => ?_)
  ·intro y0 y1 y2 y3 y4 y5 y6 y7 y8 y9 y10 y11 y12 y13
   unfold laws_FnWires.j1
   repeat' first
   | (with_reducible exact ih0 _ _ _ _ _ _ _ _ _ _ _ _ _ _ _)
   | (with_reducible exact ih1 _ _ _ _ _ _ _ _ _ _ _ _ _ _)
   | (with_reducible exact ih2 _ _ _ _ _ _ _ _ _ _ _ _ _ _)
   | (with_reducible exact ih3 _ _ _ _ _ _ _ _ _ _ _ _ _ _ _)
   | (with_reducible exact impl_AreWires.mono _ _ _ _)
   | (with_reducible exact impl_CueAt.mono _ _ _ _ _ _)
   | (with_reducible exact impl_CutWire.mono _ _ _ _ _)
   | (with_reducible exact impl_FreePins.mono _ _ _ _ _)
   | (with_reducible exact impl_LooseCues.mono _ _ _ _)
   | (with_reducible exact impl_WireCue.mono _ _ _ _ _)
   | (with_reducible exact laws_hasInt.mono _ _ _)
   | (with_reducible exact laws_likeInts.mono _ _ _)
   | (with_reducible exact laws_likeWires.mono _ _ _)
   | (with_reducible exact spec_CutWire.mono _ _ _ _ _)
   | (with_reducible exact spec_DrawFreePins.mono _ _)
   | (with_reducible exact spec_DrawWireCue.mono _ _)
   | (with_reducible exact spec_FreePins.mono _ _ _ _ _)
   | (with_reducible exact spec_LooseCues.mono _ _ _ _)
   | (with_reducible exact spec_WireCue.mono _ _ _ _ _)
   | (with_reducible exact LeO.refl _)
   | (with_reducible exact LeO.none _)
   | (with_reducible refine LeO.ite ?_ ?_)
   | (with_reducible refine LeO.bind ?_ (fun _ => ?_))
   | exact ih0 _ _ _ _ _ _ _ _ _ _ _ _ _ _ _
   | exact ih1 _ _ _ _ _ _ _ _ _ _ _ _ _ _
   | exact ih2 _ _ _ _ _ _ _ _ _ _ _ _ _ _
   | exact ih3 _ _ _ _ _ _ _ _ _ _ _ _ _ _ _
   | exact impl_AreWires.mono _ _ _ _
   | exact impl_CueAt.mono _ _ _ _ _ _
   | exact impl_CutWire.mono _ _ _ _ _
   | exact impl_FreePins.mono _ _ _ _ _
   | exact impl_LooseCues.mono _ _ _ _
   | exact impl_WireCue.mono _ _ _ _ _
   | exact laws_hasInt.mono _ _ _
   | exact laws_likeInts.mono _ _ _
   | exact laws_likeWires.mono _ _ _
   | exact spec_CutWire.mono _ _ _ _ _
   | exact spec_DrawFreePins.mono _ _
   | exact spec_DrawWireCue.mono _ _
   | exact spec_FreePins.mono _ _ _ _ _
   | exact spec_LooseCues.mono _ _ _ _
   | exact spec_WireCue.mono _ _ _ _ _
   | exact LeO.none _
   | refine LeO.ite ?_ ?_
   | refine LeO.bind ?_ (fun _ => ?_)
  ·intro y0 y1 y2 y3 y4 y5 y6 y7 y8 y9 y10 y11 y12 y13
   unfold laws_FnWires.l0
   repeat' first
   | (with_reducible exact ih0 _ _ _ _ _ _ _ _ _ _ _ _ _ _ _)
   | (with_reducible exact ih1 _ _ _ _ _ _ _ _ _ _ _ _ _ _)
   | (with_reducible exact ih2 _ _ _ _ _ _ _ _ _ _ _ _ _ _)
   | (with_reducible exact ih3 _ _ _ _ _ _ _ _ _ _ _ _ _ _ _)
   | (with_reducible exact impl_AreWires.mono _ _ _ _)
   | (with_reducible exact impl_CueAt.mono _ _ _ _ _ _)
   | (with_reducible exact impl_CutWire.mono _ _ _ _ _)
   | (with_reducible exact impl_FreePins.mono _ _ _ _ _)
   | (with_reducible exact impl_LooseCues.mono _ _ _ _)
   | (with_reducible exact impl_WireCue.mono _ _ _ _ _)
   | (with_reducible exact laws_hasInt.mono _ _ _)
   | (with_reducible exact laws_likeInts.mono _ _ _)
   | (with_reducible exact laws_likeWires.mono _ _ _)
   | (with_reducible exact spec_CutWire.mono _ _ _ _ _)
   | (with_reducible exact spec_DrawFreePins.mono _ _)
   | (with_reducible exact spec_DrawWireCue.mono _ _)
   | (with_reducible exact spec_FreePins.mono _ _ _ _ _)
   | (with_reducible exact spec_LooseCues.mono _ _ _ _)
   | (with_reducible exact spec_WireCue.mono _ _ _ _ _)
   | (with_reducible exact LeO.refl _)
   | (with_reducible exact LeO.none _)
   | (with_reducible refine LeO.ite ?_ ?_)
   | (with_reducible refine LeO.bind ?_ (fun _ => ?_))
   | exact ih0 _ _ _ _ _ _ _ _ _ _ _ _ _ _ _
   | exact ih1 _ _ _ _ _ _ _ _ _ _ _ _ _ _
   | exact ih2 _ _ _ _ _ _ _ _ _ _ _ _ _ _
   | exact ih3 _ _ _ _ _ _ _ _ _ _ _ _ _ _ _
   | exact impl_AreWires.mono _ _ _ _
   | exact impl_CueAt.mono _ _ _ _ _ _
   | exact impl_CutWire.mono _ _ _ _ _
   | exact impl_FreePins.mono _ _ _ _ _
   | exact impl_LooseCues.mono _ _ _ _
   | exact impl_WireCue.mono _ _ _ _ _
   | exact laws_hasInt.mono _ _ _
   | exact laws_likeInts.mono _ _ _
   | exact laws_likeWires.mono _ _ _
   | exact spec_CutWire.mono _ _ _ _ _
   | exact spec_DrawFreePins.mono _ _
   | exact spec_DrawWireCue.mono _ _
   | exact spec_FreePins.mono _ _ _ _ _
   | exact spec_LooseCues.mono _ _ _ _
   | exact spec_WireCue.mono _ _ _ _ _
   | exact LeO.none _
   | refine LeO.ite ?_ ?_
   | refine LeO.bind ?_ (fun _ => ?_)
  ·intro y0 y1 y2 y3 y4 y5 y6 y7 y8 y9 y10 y11 y12 y13 y14
   unfold laws_FnWires.j3
   repeat' first
   | (with_reducible exact ih0 _ _ _ _ _ _ _ _ _ _ _ _ _ _ _)
   | (with_reducible exact ih1 _ _ _ _ _ _ _ _ _ _ _ _ _ _)
   | (with_reducible exact ih2 _ _ _ _ _ _ _ _ _ _ _ _ _ _)
   | (with_reducible exact ih3 _ _ _ _ _ _ _ _ _ _ _ _ _ _ _)
   | (with_reducible exact impl_AreWires.mono _ _ _ _)
   | (with_reducible exact impl_CueAt.mono _ _ _ _ _ _)
   | (with_reducible exact impl_CutWire.mono _ _ _ _ _)
   | (with_reducible exact impl_FreePins.mono _ _ _ _ _)
   | (with_reducible exact impl_LooseCues.mono _ _ _ _)
   | (with_reducible exact impl_WireCue.mono _ _ _ _ _)
   | (with_reducible exact laws_hasInt.mono _ _ _)
   | (with_reducible exact laws_likeInts.mono _ _ _)
   | (with_reducible exact laws_likeWires.mono _ _ _)
   | (with_reducible exact spec_CutWire.mono _ _ _ _ _)
   | (with_reducible exact spec_DrawFreePins.mono _ _)
   | (with_reducible exact spec_DrawWireCue.mono _ _)
   | (with_reducible exact spec_FreePins.mono _ _ _ _ _)
   | (with_reducible exact spec_LooseCues.mono _ _ _ _)
   | (with_reducible exact spec_WireCue.mono _ _ _ _ _)
   | (with_reducible exact LeO.refl _)
   | (with_reducible exact LeO.none _)
   | (with_reducible refine LeO.ite ?_ ?_)
   | (with_reducible refine LeO.bind ?_ (fun _ => ?_))
   | exact ih0 _ _ _ _ _ _ _ _ _ _ _ _ _ _ _
   | exact ih1 _ _ _ _ _ _ _ _ _ _ _ _ _ _
   | exact ih2 _ _ _ _ _ _ _ _ _ _ _ _ _ _
   | exact ih3 _ _ _ _ _ _ _ _ _ _ _ _ _ _ _
   | exact impl_AreWires.mono _ _ _ _
   | exact impl_CueAt.mono _ _ _ _ _ _
   | exact impl_CutWire.mono _ _ _ _ _
   | exact impl_FreePins.mono _ _ _ _ _
   | exact impl_LooseCues.mono _ _ _ _
   | exact impl_WireCue.mono _ _ _ _ _
   | exact laws_hasInt.mono _ _ _
   | exact laws_likeInts.mono _ _ _
   | exact laws_likeWires.mono _ _ _
   | exact spec_CutWire.mono _ _ _ _ _
   | exact spec_DrawFreePins.mono _ _
   | exact spec_DrawWireCue.mono _ _
   | exact spec_FreePins.mono _ _ _ _ _
   | exact spec_LooseCues.mono _ _ _ _
   | exact spec_WireCue.mono _ _ _ _ _
   | exact LeO.none _
   | refine LeO.ite ?_ ?_
   | refine LeO.bind ?_ (fun _ => ?_)
theorem laws_FnWires.mono : ∀ a0 k, LeO (laws_FnWires.f k a0) (laws_FnWires.f (k + 1) a0) := by
 intro a0 k
 obtain ⟨ih0, ih1, ih2, ih3⟩ := laws_FnWires.mono_l k
 unfold laws_FnWires.f
 repeat' first
   | (with_reducible exact ih0 _ _ _ _ _ _ _ _ _ _ _ _ _ _ _)
   | (with_reducible exact ih1 _ _ _ _ _ _ _ _ _ _ _ _ _ _)
   | (with_reducible exact ih2 _ _ _ _ _ _ _ _ _ _ _ _ _ _)
   | (with_reducible exact ih3 _ _ _ _ _ _ _ _ _ _ _ _ _ _ _)
   | (with_reducible exact impl_AreWires.mono _ _ _ _)
   | (with_reducible exact impl_CueAt.mono _ _ _ _ _ _)
   | (with_reducible exact impl_CutWire.mono _ _ _ _ _)
   | (with_reducible exact impl_FreePins.mono _ _ _ _ _)
   | (with_reducible exact impl_LooseCues.mono _ _ _ _)
   | (with_reducible exact impl_WireCue.mono _ _ _ _ _)
   | (with_reducible exact laws_hasInt.mono _ _ _)
   | (with_reducible exact laws_likeInts.mono _ _ _)
   | (with_reducible exact laws_likeWires.mono _ _ _)
   | (with_reducible exact spec_CutWire.mono _ _ _ _ _)
   | (with_reducible exact spec_DrawFreePins.mono _ _)
   | (with_reducible exact spec_DrawWireCue.mono _ _)
   | (with_reducible exact spec_FreePins.mono _ _ _ _ _)
   | (with_reducible exact spec_LooseCues.mono _ _ _ _)
   | (with_reducible exact spec_WireCue.mono _ _ _ _ _)
   | (with_reducible exact LeO.refl _)
   | (with_reducible exact LeO.none _)
   | (with_reducible refine LeO.ite ?_ ?_)
   | (with_reducible refine LeO.bind ?_ (fun _ => ?_))
   | exact ih0 _ _ _ _ _ _ _ _ _ _ _ _ _ _ _
   | exact ih1 _ _ _ _ _ _ _ _ _ _ _ _ _ _
   | exact ih2 _ _ _ _ _ _ _ _ _ _ _ _ _ _
   | exact ih3 _ _ _ _ _ _ _ _ _ _ _ _ _ _ _
   | exact impl_AreWires.mono _ _ _ _
   | exact impl_CueAt.mono _ _ _ _ _ _
   | exact impl_CutWire.mono _ _ _ _ _
   | exact impl_FreePins.mono _ _ _ _ _
   | exact impl_LooseCues.mono _ _ _ _
   | exact impl_WireCue.mono _ _ _ _ _
   | exact laws_hasInt.mono _ _ _
   | exact laws_likeInts.mono _ _ _
   | exact laws_likeWires.mono _ _ _
   | exact spec_CutWire.mono _ _ _ _ _
   | exact spec_DrawFreePins.mono _ _
   | exact spec_DrawWireCue.mono _ _
   | exact spec_FreePins.mono _ _ _ _ _
   | exact spec_LooseCues.mono _ _ _ _
   | exact spec_WireCue.mono _ _ _ _ _
   | exact LeO.none _
   | refine LeO.ite ?_ ?_
   | refine LeO.bind ?_ (fun _ => ?_)
theorem laws_FnWires.j0_true {k : Nat} {a0} {a1} {a2} {a3} {a4} {a5} {a6} {a7} {a8} {a9} {a10} {a11} {a12} {a13} {r : Bool} (h : laws_FnWires.j0 k a0 a1 a2 a3 a4 a5 a6 a7 a8 a9 a10 a11 a12 a13 true = some r) : false = r := by
 cases k with
 | zero => simp [laws_FnWires.j0] at h
 | succ k => simpa [laws_FnWires.j0] using h
theorem laws_FnWires.j1_true {k : Nat} {a0} {a1} {a2} {a3} {a4} {a5} {a6} {a7} {a8} {a9} {a10} {a11} {a12} {r : Bool} (h : laws_FnWires.j1 k a0 a1 a2 a3 a4 a5 a6 a7 a8 a9 a10 a11 a12 true = some r) : false = r := by
 cases k with
 | zero => simp [laws_FnWires.j1] at h
 | succ k => simpa [laws_FnWires.j1] using h
set_option maxHeartbeats 8000000 in
set_option maxRecDepth 100000 in
theorem laws_FnWires.calls (k : Nat) (A0 : Option Addr) (c0 : Nat) (l0 : List Int) (r : Bool) (w : World) (hr0 : Kd.C (Kd.int .u8) w A0 l0.length l0) (hc0 : l0.length ≤ c0) (h : laws_FnWires.f k l0 = some r) (hT : r = true) :
  Calls Try.prog 9 #[.slice A0 l0.length c0] w fun e w' => e = .returned (.bool r) ∧ Below w.heap.size w w' := by
 have HR0 := Aside0.mk hr0
 have HC0 := Aside0.mk hc0
 clear hr0 hc0
 have HB := Aside0.mk (Below.refl w.heap.size w)
 have H : ((laws_big.f l0).bind fun t520 => (if t520 = true then (some true) else ((spec_DrawWireCue.f k l0).bind fun bt521 => ((impl_WireCue.f k bt521.1 bt521.2.1 bt521.2.2.1 bt521.2.2.2).bind fun bt529 => ((spec_WireCue.f k bt521.1 bt521.2.1 bt521.2.2.1 bt521.2.2.2).bind fun bt533 => ((impl_CutWire.f k bt521.1 bt521.2.1 bt521.2.2.1 bt521.2.2.2).bind fun bt537 => ((spec_CutWire.f k bt521.1 bt521.2.1 bt521.2.2.1 bt521.2.2.2).bind fun bt541 => ((impl_LooseCues.f k bt521.1 bt521.2.1 bt521.2.2.1).bind fun bt545 => ((spec_LooseCues.f k bt521.1 bt521.2.1 bt521.2.2.1).bind fun bt549 => ((spec_DrawFreePins.f k l0).bind fun bt553 => ((impl_FreePins.f k bt553.1 bt553.2.1 bt553.2.2.1 bt553.2.2.2).bind fun bt561 => ((spec_FreePins.f k bt553.1 bt553.2.1 bt553.2.2.1 bt553.2.2.2).bind fun bt565 => (if bt529.2 = bt533.2 then ((laws_likeWires.f k bt529.1 bt533.1).bind fun t569 => (if t569 = true then (if bt537.2 = bt541.2 then ((laws_likeWires.f k bt537.1 bt541.1).bind fun t570 => (if t570 = true then (if bt545.2 = bt549.2 then ((laws_likeInts.f k bt545.1 bt549.1).bind fun t571 => (if t571 = true then (if bt561.2 = bt565.2 then ((laws_likeInts.f k bt561.1 bt565.1).bind fun t572 => (if t572 = true then ((impl_AreWires.f k bt521.1 bt521.2.1 bt521.2.2.1).bind fun t573 => (laws_FnWires.j0 k bt521.1 bt521.2.1 bt521.2.2.1 bt521.2.2.2 bt529.1 bt529.2 bt545.1 bt545.2 bt553.1 bt553.2.1 bt553.2.2.1 bt553.2.2.2 bt561.1 bt561.2 (t573 != (bt549.2 == 0)))) else (laws_FnWires.j0 k bt521.1 bt521.2.1 bt521.2.2.1 bt521.2.2.2 bt529.1 bt529.2 bt545.1 bt545.2 bt553.1 bt553.2.1 bt553.2.2.1 bt553.2.2.2 bt561.1 bt561.2 true))) else (laws_FnWires.j0 k bt521.1 bt521.2.1 bt521.2.2.1 bt521.2.2.2 bt529.1 bt529.2 bt545.1 bt545.2 bt553.1 bt553.2.1 bt553.2.2.1 bt553.2.2.2 bt561.1 bt561.2 true)) else (laws_FnWires.j0 k bt521.1 bt521.2.1 bt521.2.2.1 bt521.2.2.2 bt529.1 bt529.2 bt545.1 bt545.2 bt553.1 bt553.2.1 bt553.2.2.1 bt553.2.2.2 bt561.1 bt561.2 true))) else (laws_FnWires.j0 k bt521.1 bt521.2.1 bt521.2.2.1 bt521.2.2.2 bt529.1 bt529.2 bt545.1 bt545.2 bt553.1 bt553.2.1 bt553.2.2.1 bt553.2.2.2 bt561.1 bt561.2 true)) else (laws_FnWires.j0 k bt521.1 bt521.2.1 bt521.2.2.1 bt521.2.2.2 bt529.1 bt529.2 bt545.1 bt545.2 bt553.1 bt553.2.1 bt553.2.2.1 bt553.2.2.2 bt561.1 bt561.2 true))) else (laws_FnWires.j0 k bt521.1 bt521.2.1 bt521.2.2.1 bt521.2.2.2 bt529.1 bt529.2 bt545.1 bt545.2 bt553.1 bt553.2.1 bt553.2.2.1 bt553.2.2.2 bt561.1 bt561.2 true)) else (laws_FnWires.j0 k bt521.1 bt521.2.1 bt521.2.2.1 bt521.2.2.2 bt529.1 bt529.2 bt545.1 bt545.2 bt553.1 bt553.2.1 bt553.2.2.1 bt553.2.2.2 bt561.1 bt561.2 true))) else (laws_FnWires.j0 k bt521.1 bt521.2.1 bt521.2.2.1 bt521.2.2.2 bt529.1 bt529.2 bt545.1 bt545.2 bt553.1 bt553.2.1 bt553.2.2.1 bt553.2.2.2 bt561.1 bt561.2 true)))))))))))))) = some r := h
 clear h
 replace H := Option.bind_eq_some_iff.mp H
 obtain ⟨t520, A20, H⟩ := H
 replace H : (if t520 = true then (some true) else ((spec_DrawWireCue.f k l0).bind fun bt521 => ((impl_WireCue.f k bt521.1 bt521.2.1 bt521.2.2.1 bt521.2.2.2).bind fun bt529 => ((spec_WireCue.f k bt521.1 bt521.2.1 bt521.2.2.1 bt521.2.2.2).bind fun bt533 => ((impl_CutWire.f k bt521.1 bt521.2.1 bt521.2.2.1 bt521.2.2.2).bind fun bt537 => ((spec_CutWire.f k bt521.1 bt521.2.1 bt521.2.2.1 bt521.2.2.2).bind fun bt541 => ((impl_LooseCues.f k bt521.1 bt521.2.1 bt521.2.2.1).bind fun bt545 => ((spec_LooseCues.f k bt521.1 bt521.2.1 bt521.2.2.1).bind fun bt549 => ((spec_DrawFreePins.f k l0).bind fun bt553 => ((impl_FreePins.f k bt553.1 bt553.2.1 bt553.2.2.1 bt553.2.2.2).bind fun bt561 => ((spec_FreePins.f k bt553.1 bt553.2.1 bt553.2.2.1 bt553.2.2.2).bind fun bt565 => (if bt529.2 = bt533.2 then ((laws_likeWires.f k bt529.1 bt533.1).bind fun t569 => (if t569 = true then (if bt537.2 = bt541.2 then ((laws_likeWires.f k bt537.1 bt541.1).bind fun t570 => (if t570 = true then (if bt545.2 = bt549.2 then ((laws_likeInts.f k bt545.1 bt549.1).bind fun t571 => (if t571 = true then (if bt561.2 = bt565.2 then ((laws_likeInts.f k bt561.1 bt565.1).bind fun t572 => (if t572 = true then ((impl_AreWires.f k bt521.1 bt521.2.1 bt521.2.2.1).bind fun t573 => (laws_FnWires.j0 k bt521.1 bt521.2.1 bt521.2.2.1 bt521.2.2.2 bt529.1 bt529.2 bt545.1 bt545.2 bt553.1 bt553.2.1 bt553.2.2.1 bt553.2.2.2 bt561.1 bt561.2 (t573 != (bt549.2 == 0)))) else (laws_FnWires.j0 k bt521.1 bt521.2.1 bt521.2.2.1 bt521.2.2.2 bt529.1 bt529.2 bt545.1 bt545.2 bt553.1 bt553.2.1 bt553.2.2.1 bt553.2.2.2 bt561.1 bt561.2 true))) else (laws_FnWires.j0 k bt521.1 bt521.2.1 bt521.2.2.1 bt521.2.2.2 bt529.1 bt529.2 bt545.1 bt545.2 bt553.1 bt553.2.1 bt553.2.2.1 bt553.2.2.2 bt561.1 bt561.2 true)) else (laws_FnWires.j0 k bt521.1 bt521.2.1 bt521.2.2.1 bt521.2.2.2 bt529.1 bt529.2 bt545.1 bt545.2 bt553.1 bt553.2.1 bt553.2.2.1 bt553.2.2.2 bt561.1 bt561.2 true))) else (laws_FnWires.j0 k bt521.1 bt521.2.1 bt521.2.2.1 bt521.2.2.2 bt529.1 bt529.2 bt545.1 bt545.2 bt553.1 bt553.2.1 bt553.2.2.1 bt553.2.2.2 bt561.1 bt561.2 true)) else (laws_FnWires.j0 k bt521.1 bt521.2.1 bt521.2.2.1 bt521.2.2.2 bt529.1 bt529.2 bt545.1 bt545.2 bt553.1 bt553.2.1 bt553.2.2.1 bt553.2.2.2 bt561.1 bt561.2 true))) else (laws_FnWires.j0 k bt521.1 bt521.2.1 bt521.2.2.1 bt521.2.2.2 bt529.1 bt529.2 bt545.1 bt545.2 bt553.1 bt553.2.1 bt553.2.2.1 bt553.2.2.2 bt561.1 bt561.2 true)) else (laws_FnWires.j0 k bt521.1 bt521.2.1 bt521.2.2.1 bt521.2.2.2 bt529.1 bt529.2 bt545.1 bt545.2 bt553.1 bt553.2.1 bt553.2.2.1 bt553.2.2.2 bt561.1 bt561.2 true))) else (laws_FnWires.j0 k bt521.1 bt521.2.1 bt521.2.2.1 bt521.2.2.2 bt529.1 bt529.2 bt545.1 bt545.2 bt553.1 bt553.2.1 bt553.2.2.1 bt553.2.2.2 bt561.1 bt561.2 true))))))))))))) = some r := H
 have A2 := Aside0.mk A20
 clear A20
 by_cases c3 : t520 = true
 ·subst c3
  have H1 : (some true) = some r := by rw [if_pos rfl] at H; exact H
  clear H
  have H := H1
  clear H1
  obtain rfl := Option.some.inj H
  go_enter Try.func9, Try.ntmps9
  go_wp2_with (first | ((with_reducible refine gate_callee (f := 47) rfl ?_); refine goesL_ (some 33) rfl rfl Try.func47 (by kernel_rfl) rfl #[.slice A0 l0.length c0] rfl ag_ ?_; (with_reducible refine (laws_big.calls _ _ l0 true _ ?side1 ?side2 A2.out).mono ?_); (case side1 => exact r6_ HR0.out); (case side2 => exact HC0.out); rintro e w' ⟨rfl, ⟨nd, rfl⟩⟩; refine ⟨_, rfl, ?_⟩))
  go_ret
  exact ⟨by first | rfl | (simp [errW_none, errW_some] <;> rfl) | (simp [*, errW_none, errW_some] <;> rfl), bl_ HB.out⟩
 ·as_aux_lemma =>
   replace c3 := Bool.eq_false_iff.mpr c3
   subst c3
   have H1 : ((spec_DrawWireCue.f k l0).bind fun bt521 => ((impl_WireCue.f k bt521.1 bt521.2.1 bt521.2.2.1 bt521.2.2.2).bind fun bt529 => ((spec_WireCue.f k bt521.1 bt521.2.1 bt521.2.2.1 bt521.2.2.2).bind fun bt533 => ((impl_CutWire.f k bt521.1 bt521.2.1 bt521.2.2.1 bt521.2.2.2).bind fun bt537 => ((spec_CutWire.f k bt521.1 bt521.2.1 bt521.2.2.1 bt521.2.2.2).bind fun bt541 => ((impl_LooseCues.f k bt521.1 bt521.2.1 bt521.2.2.1).bind fun bt545 => ((spec_LooseCues.f k bt521.1 bt521.2.1 bt521.2.2.1).bind fun bt549 => ((spec_DrawFreePins.f k l0).bind fun bt553 => ((impl_FreePins.f k bt553.1 bt553.2.1 bt553.2.2.1 bt553.2.2.2).bind fun bt561 => ((spec_FreePins.f k bt553.1 bt553.2.1 bt553.2.2.1 bt553.2.2.2).bind fun bt565 => (if bt529.2 = bt533.2 then ((laws_likeWires.f k bt529.1 bt533.1).bind fun t569 => (if t569 = true then (if bt537.2 = bt541.2 then ((laws_likeWires.f k bt537.1 bt541.1).bind fun t570 => (if t570 = true then (if bt545.2 = bt549.2 then ((laws_likeInts.f k bt545.1 bt549.1).bind fun t571 => (if t571 = true then (if bt561.2 = bt565.2 then ((laws_likeInts.f k bt561.1 bt565.1).bind fun t572 => (if t572 = true then ((impl_AreWires.f k bt521.1 bt521.2.1 bt521.2.2.1).bind fun t573 => (laws_FnWires.j0 k bt521.1 bt521.2.1 bt521.2.2.1 bt521.2.2.2 bt529.1 bt529.2 bt545.1 bt545.2 bt553.1 bt553.2.1 bt553.2.2.1 bt553.2.2.2 bt561.1 bt561.2 (t573 != (bt549.2 == 0)))) else (laws_FnWires.j0 k bt521.1 bt521.2.1 bt521.2.2.1 bt521.2.2.2 bt529.1 bt529.2 bt545.1 bt545.2 bt553.1 bt553.2.1 bt553.2.2.1 bt553.2.2.2 bt561.1 bt561.2 true))) else (laws_FnWires.j0 k bt521.1 bt521.2.1 bt521.2.2.1 bt521.2.2.2 bt529.1 bt529.2 bt545.1 bt545.2 bt553.1 bt553.2.1 bt553.2.2.1 bt553.2.2.2 bt561.1 bt561.2 true)) else (laws_FnWires.j0 k bt521.1 bt521.2.1 bt521.2.2.1 bt521.2.2.2 bt529.1 bt529.2 bt545.1 bt545.2 bt553.1 bt553.2.1 bt553.2.2.1 bt553.2.2.2 bt561.1 bt561.2 true))) else (laws_FnWires.j0 k bt521.1 bt521.2.1 bt521.2.2.1 bt521.2.2.2 bt529.1 bt529.2 bt545.1 bt545.2 bt553.1 bt553.2.1 bt553.2.2.1 bt553.2.2.2 bt561.1 bt561.2 true)) else (laws_FnWires.j0 k bt521.1 bt521.2.1 bt521.2.2.1 bt521.2.2.2 bt529.1 bt529.2 bt545.1 bt545.2 bt553.1 bt553.2.1 bt553.2.2.1 bt553.2.2.2 bt561.1 bt561.2 true))) else (laws_FnWires.j0 k bt521.1 bt521.2.1 bt521.2.2.1 bt521.2.2.2 bt529.1 bt529.2 bt545.1 bt545.2 bt553.1 bt553.2.1 bt553.2.2.1 bt553.2.2.2 bt561.1 bt561.2 true)) else (laws_FnWires.j0 k bt521.1 bt521.2.1 bt521.2.2.1 bt521.2.2.2 bt529.1 bt529.2 bt545.1 bt545.2 bt553.1 bt553.2.1 bt553.2.2.1 bt553.2.2.2 bt561.1 bt561.2 true))) else (laws_FnWires.j0 k bt521.1 bt521.2.1 bt521.2.2.1 bt521.2.2.2 bt529.1 bt529.2 bt545.1 bt545.2 bt553.1 bt553.2.1 bt553.2.2.1 bt553.2.2.2 bt561.1 bt561.2 true)))))))))))) = some r := by rw [if_neg (show ¬ (false = true) by decide)] at H; exact H
   clear H
   have H := H1
   clear H1
   replace H := Option.bind_eq_some_iff.mp H
   obtain ⟨⟨t521, t522, t523, t524⟩, A40, H⟩ := H
   replace H : ((impl_WireCue.f k t521 t522 t523 t524).bind fun bt529 => ((spec_WireCue.f k t521 t522 t523 t524).bind fun bt533 => ((impl_CutWire.f k t521 t522 t523 t524).bind fun bt537 => ((spec_CutWire.f k t521 t522 t523 t524).bind fun bt541 => ((impl_LooseCues.f k t521 t522 t523).bind fun bt545 => ((spec_LooseCues.f k t521 t522 t523).bind fun bt549 => ((spec_DrawFreePins.f k l0).bind fun bt553 => ((impl_FreePins.f k bt553.1 bt553.2.1 bt553.2.2.1 bt553.2.2.2).bind fun bt561 => ((spec_FreePins.f k bt553.1 bt553.2.1 bt553.2.2.1 bt553.2.2.2).bind fun bt565 => (if bt529.2 = bt533.2 then ((laws_likeWires.f k bt529.1 bt533.1).bind fun t569 => (if t569 = true then (if bt537.2 = bt541.2 then ((laws_likeWires.f k bt537.1 bt541.1).bind fun t570 => (if t570 = true then (if bt545.2 = bt549.2 then ((laws_likeInts.f k bt545.1 bt549.1).bind fun t571 => (if t571 = true then (if bt561.2 = bt565.2 then ((laws_likeInts.f k bt561.1 bt565.1).bind fun t572 => (if t572 = true then ((impl_AreWires.f k t521 t522 t523).bind fun t573 => (laws_FnWires.j0 k t521 t522 t523 t524 bt529.1 bt529.2 bt545.1 bt545.2 bt553.1 bt553.2.1 bt553.2.2.1 bt553.2.2.2 bt561.1 bt561.2 (t573 != (bt549.2 == 0)))) else (laws_FnWires.j0 k t521 t522 t523 t524 bt529.1 bt529.2 bt545.1 bt545.2 bt553.1 bt553.2.1 bt553.2.2.1 bt553.2.2.2 bt561.1 bt561.2 true))) else (laws_FnWires.j0 k t521 t522 t523 t524 bt529.1 bt529.2 bt545.1 bt545.2 bt553.1 bt553.2.1 bt553.2.2.1 bt553.2.2.2 bt561.1 bt561.2 true)) else (laws_FnWires.j0 k t521 t522 t523 t524 bt529.1 bt529.2 bt545.1 bt545.2 bt553.1 bt553.2.1 bt553.2.2.1 bt553.2.2.2 bt561.1 bt561.2 true))) else (laws_FnWires.j0 k t521 t522 t523 t524 bt529.1 bt529.2 bt545.1 bt545.2 bt553.1 bt553.2.1 bt553.2.2.1 bt553.2.2.2 bt561.1 bt561.2 true)) else (laws_FnWires.j0 k t521 t522 t523 t524 bt529.1 bt529.2 bt545.1 bt545.2 bt553.1 bt553.2.1 bt553.2.2.1 bt553.2.2.2 bt561.1 bt561.2 true))) else (laws_FnWires.j0 k t521 t522 t523 t524 bt529.1 bt529.2 bt545.1 bt545.2 bt553.1 bt553.2.1 bt553.2.2.1 bt553.2.2.2 bt561.1 bt561.2 true)) else (laws_FnWires.j0 k t521 t522 t523 t524 bt529.1 bt529.2 bt545.1 bt545.2 bt553.1 bt553.2.1 bt553.2.2.1 bt553.2.2.2 bt561.1 bt561.2 true))) else (laws_FnWires.j0 k t521 t522 t523 t524 bt529.1 bt529.2 bt545.1 bt545.2 bt553.1 bt553.2.1 bt553.2.2.1 bt553.2.2.2 bt561.1 bt561.2 true))))))))))) = some r := H
   have A4 := Aside0.mk A40
   clear A40
   replace H := Option.bind_eq_some_iff.mp H
   obtain ⟨⟨t529, t530⟩, A50, H⟩ := H
   replace H : ((spec_WireCue.f k t521 t522 t523 t524).bind fun bt533 => ((impl_CutWire.f k t521 t522 t523 t524).bind fun bt537 => ((spec_CutWire.f k t521 t522 t523 t524).bind fun bt541 => ((impl_LooseCues.f k t521 t522 t523).bind fun bt545 => ((spec_LooseCues.f k t521 t522 t523).bind fun bt549 => ((spec_DrawFreePins.f k l0).bind fun bt553 => ((impl_FreePins.f k bt553.1 bt553.2.1 bt553.2.2.1 bt553.2.2.2).bind fun bt561 => ((spec_FreePins.f k bt553.1 bt553.2.1 bt553.2.2.1 bt553.2.2.2).bind fun bt565 => (if t530 = bt533.2 then ((laws_likeWires.f k t529 bt533.1).bind fun t569 => (if t569 = true then (if bt537.2 = bt541.2 then ((laws_likeWires.f k bt537.1 bt541.1).bind fun t570 => (if t570 = true then (if bt545.2 = bt549.2 then ((laws_likeInts.f k bt545.1 bt549.1).bind fun t571 => (if t571 = true then (if bt561.2 = bt565.2 then ((laws_likeInts.f k bt561.1 bt565.1).bind fun t572 => (if t572 = true then ((impl_AreWires.f k t521 t522 t523).bind fun t573 => (laws_FnWires.j0 k t521 t522 t523 t524 t529 t530 bt545.1 bt545.2 bt553.1 bt553.2.1 bt553.2.2.1 bt553.2.2.2 bt561.1 bt561.2 (t573 != (bt549.2 == 0)))) else (laws_FnWires.j0 k t521 t522 t523 t524 t529 t530 bt545.1 bt545.2 bt553.1 bt553.2.1 bt553.2.2.1 bt553.2.2.2 bt561.1 bt561.2 true))) else (laws_FnWires.j0 k t521 t522 t523 t524 t529 t530 bt545.1 bt545.2 bt553.1 bt553.2.1 bt553.2.2.1 bt553.2.2.2 bt561.1 bt561.2 true)) else (laws_FnWires.j0 k t521 t522 t523 t524 t529 t530 bt545.1 bt545.2 bt553.1 bt553.2.1 bt553.2.2.1 bt553.2.2.2 bt561.1 bt561.2 true))) else (laws_FnWires.j0 k t521 t522 t523 t524 t529 t530 bt545.1 bt545.2 bt553.1 bt553.2.1 bt553.2.2.1 bt553.2.2.2 bt561.1 bt561.2 true)) else (laws_FnWires.j0 k t521 t522 t523 t524 t529 t530 bt545.1 bt545.2 bt553.1 bt553.2.1 bt553.2.2.1 bt553.2.2.2 bt561.1 bt561.2 true))) else (laws_FnWires.j0 k t521 t522 t523 t524 t529 t530 bt545.1 bt545.2 bt553.1 bt553.2.1 bt553.2.2.1 bt553.2.2.2 bt561.1 bt561.2 true)) else (laws_FnWires.j0 k t521 t522 t523 t524 t529 t530 bt545.1 bt545.2 bt553.1 bt553.2.1 bt553.2.2.1 bt553.2.2.2 bt561.1 bt561.2 true))) else (laws_FnWires.j0 k t521 t522 t523 t524 t529 t530 bt545.1 bt545.2 bt553.1 bt553.2.1 bt553.2.2.1 bt553.2.2.2 bt561.1 bt561.2 true)))))))))) = some r := H
   have A5 := Aside0.mk A50
   clear A50
   replace H := Option.bind_eq_some_iff.mp H
   obtain ⟨⟨t533, t534⟩, A60, H⟩ := H
   replace H : ((impl_CutWire.f k t521 t522 t523 t524).bind fun bt537 => ((spec_CutWire.f k t521 t522 t523 t524).bind fun bt541 => ((impl_LooseCues.f k t521 t522 t523).bind fun bt545 => ((spec_LooseCues.f k t521 t522 t523).bind fun bt549 => ((spec_DrawFreePins.f k l0).bind fun bt553 => ((impl_FreePins.f k bt553.1 bt553.2.1 bt553.2.2.1 bt553.2.2.2).bind fun bt561 => ((spec_FreePins.f k bt553.1 bt553.2.1 bt553.2.2.1 bt553.2.2.2).bind fun bt565 => (if t530 = t534 then ((laws_likeWires.f k t529 t533).bind fun t569 => (if t569 = true then (if bt537.2 = bt541.2 then ((laws_likeWires.f k bt537.1 bt541.1).bind fun t570 => (if t570 = true then (if bt545.2 = bt549.2 then ((laws_likeInts.f k bt545.1 bt549.1).bind fun t571 => (if t571 = true then (if bt561.2 = bt565.2 then ((laws_likeInts.f k bt561.1 bt565.1).bind fun t572 => (if t572 = true then ((impl_AreWires.f k t521 t522 t523).bind fun t573 => (laws_FnWires.j0 k t521 t522 t523 t524 t529 t530 bt545.1 bt545.2 bt553.1 bt553.2.1 bt553.2.2.1 bt553.2.2.2 bt561.1 bt561.2 (t573 != (bt549.2 == 0)))) else (laws_FnWires.j0 k t521 t522 t523 t524 t529 t530 bt545.1 bt545.2 bt553.1 bt553.2.1 bt553.2.2.1 bt553.2.2.2 bt561.1 bt561.2 true))) else (laws_FnWires.j0 k t521 t522 t523 t524 t529 t530 bt545.1 bt545.2 bt553.1 bt553.2.1 bt553.2.2.1 bt553.2.2.2 bt561.1 bt561.2 true)) else (laws_FnWires.j0 k t521 t522 t523 t524 t529 t530 bt545.1 bt545.2 bt553.1 bt553.2.1 bt553.2.2.1 bt553.2.2.2 bt561.1 bt561.2 true))) else (laws_FnWires.j0 k t521 t522 t523 t524 t529 t530 bt545.1 bt545.2 bt553.1 bt553.2.1 bt553.2.2.1 bt553.2.2.2 bt561.1 bt561.2 true)) else (laws_FnWires.j0 k t521 t522 t523 t524 t529 t530 bt545.1 bt545.2 bt553.1 bt553.2.1 bt553.2.2.1 bt553.2.2.2 bt561.1 bt561.2 true))) else (laws_FnWires.j0 k t521 t522 t523 t524 t529 t530 bt545.1 bt545.2 bt553.1 bt553.2.1 bt553.2.2.1 bt553.2.2.2 bt561.1 bt561.2 true)) else (laws_FnWires.j0 k t521 t522 t523 t524 t529 t530 bt545.1 bt545.2 bt553.1 bt553.2.1 bt553.2.2.1 bt553.2.2.2 bt561.1 bt561.2 true))) else (laws_FnWires.j0 k t521 t522 t523 t524 t529 t530 bt545.1 bt545.2 bt553.1 bt553.2.1 bt553.2.2.1 bt553.2.2.2 bt561.1 bt561.2 true))))))))) = some r := H
   have A6 := Aside0.mk A60
   clear A60
   replace H := Option.bind_eq_some_iff.mp H
   obtain ⟨⟨t537, t538⟩, A70, H⟩ := H
   replace H : ((spec_CutWire.f k t521 t522 t523 t524).bind fun bt541 => ((impl_LooseCues.f k t521 t522 t523).bind fun bt545 => ((spec_LooseCues.f k t521 t522 t523).bind fun bt549 => ((spec_DrawFreePins.f k l0).bind fun bt553 => ((impl_FreePins.f k bt553.1 bt553.2.1 bt553.2.2.1 bt553.2.2.2).bind fun bt561 => ((spec_FreePins.f k bt553.1 bt553.2.1 bt553.2.2.1 bt553.2.2.2).bind fun bt565 => (if t530 = t534 then ((laws_likeWires.f k t529 t533).bind fun t569 => (if t569 = true then (if t538 = bt541.2 then ((laws_likeWires.f k t537 bt541.1).bind fun t570 => (if t570 = true then (if bt545.2 = bt549.2 then ((laws_likeInts.f k bt545.1 bt549.1).bind fun t571 => (if t571 = true then (if bt561.2 = bt565.2 then ((laws_likeInts.f k bt561.1 bt565.1).bind fun t572 => (if t572 = true then ((impl_AreWires.f k t521 t522 t523).bind fun t573 => (laws_FnWires.j0 k t521 t522 t523 t524 t529 t530 bt545.1 bt545.2 bt553.1 bt553.2.1 bt553.2.2.1 bt553.2.2.2 bt561.1 bt561.2 (t573 != (bt549.2 == 0)))) else (laws_FnWires.j0 k t521 t522 t523 t524 t529 t530 bt545.1 bt545.2 bt553.1 bt553.2.1 bt553.2.2.1 bt553.2.2.2 bt561.1 bt561.2 true))) else (laws_FnWires.j0 k t521 t522 t523 t524 t529 t530 bt545.1 bt545.2 bt553.1 bt553.2.1 bt553.2.2.1 bt553.2.2.2 bt561.1 bt561.2 true)) else (laws_FnWires.j0 k t521 t522 t523 t524 t529 t530 bt545.1 bt545.2 bt553.1 bt553.2.1 bt553.2.2.1 bt553.2.2.2 bt561.1 bt561.2 true))) else (laws_FnWires.j0 k t521 t522 t523 t524 t529 t530 bt545.1 bt545.2 bt553.1 bt553.2.1 bt553.2.2.1 bt553.2.2.2 bt561.1 bt561.2 true)) else (laws_FnWires.j0 k t521 t522 t523 t524 t529 t530 bt545.1 bt545.2 bt553.1 bt553.2.1 bt553.2.2.1 bt553.2.2.2 bt561.1 bt561.2 true))) else (laws_FnWires.j0 k t521 t522 t523 t524 t529 t530 bt545.1 bt545.2 bt553.1 bt553.2.1 bt553.2.2.1 bt553.2.2.2 bt561.1 bt561.2 true)) else (laws_FnWires.j0 k t521 t522 t523 t524 t529 t530 bt545.1 bt545.2 bt553.1 bt553.2.1 bt553.2.2.1 bt553.2.2.2 bt561.1 bt561.2 true))) else (laws_FnWires.j0 k t521 t522 t523 t524 t529 t530 bt545.1 bt545.2 bt553.1 bt553.2.1 bt553.2.2.1 bt553.2.2.2 bt561.1 bt561.2 true)))))))) = some r := H
   have A7 := Aside0.mk A70
   clear A70
   replace H := Option.bind_eq_some_iff.mp H
   obtain ⟨⟨t541, t542⟩, A80, H⟩ := H
   replace H : ((impl_LooseCues.f k t521 t522 t523).bind fun bt545 => ((spec_LooseCues.f k t521 t522 t523).bind fun bt549 => ((spec_DrawFreePins.f k l0).bind fun bt553 => ((impl_FreePins.f k bt553.1 bt553.2.1 bt553.2.2.1 bt553.2.2.2).bind fun bt561 => ((spec_FreePins.f k bt553.1 bt553.2.1 bt553.2.2.1 bt553.2.2.2).bind fun bt565 => (if t530 = t534 then ((laws_likeWires.f k t529 t533).bind fun t569 => (if t569 = true then (if t538 = t542 then ((laws_likeWires.f k t537 t541).bind fun t570 => (if t570 = true then (if bt545.2 = bt549.2 then ((laws_likeInts.f k bt545.1 bt549.1).bind fun t571 => (if t571 = true then (if bt561.2 = bt565.2 then ((laws_likeInts.f k bt561.1 bt565.1).bind fun t572 => (if t572 = true then ((impl_AreWires.f k t521 t522 t523).bind fun t573 => (laws_FnWires.j0 k t521 t522 t523 t524 t529 t530 bt545.1 bt545.2 bt553.1 bt553.2.1 bt553.2.2.1 bt553.2.2.2 bt561.1 bt561.2 (t573 != (bt549.2 == 0)))) else (laws_FnWires.j0 k t521 t522 t523 t524 t529 t530 bt545.1 bt545.2 bt553.1 bt553.2.1 bt553.2.2.1 bt553.2.2.2 bt561.1 bt561.2 true))) else (laws_FnWires.j0 k t521 t522 t523 t524 t529 t530 bt545.1 bt545.2 bt553.1 bt553.2.1 bt553.2.2.1 bt553.2.2.2 bt561.1 bt561.2 true)) else (laws_FnWires.j0 k t521 t522 t523 t524 t529 t530 bt545.1 bt545.2 bt553.1 bt553.2.1 bt553.2.2.1 bt553.2.2.2 bt561.1 bt561.2 true))) else (laws_FnWires.j0 k t521 t522 t523 t524 t529 t530 bt545.1 bt545.2 bt553.1 bt553.2.1 bt553.2.2.1 bt553.2.2.2 bt561.1 bt561.2 true)) else (laws_FnWires.j0 k t521 t522 t523 t524 t529 t530 bt545.1 bt545.2 bt553.1 bt553.2.1 bt553.2.2.1 bt553.2.2.2 bt561.1 bt561.2 true))) else (laws_FnWires.j0 k t521 t522 t523 t524 t529 t530 bt545.1 bt545.2 bt553.1 bt553.2.1 bt553.2.2.1 bt553.2.2.2 bt561.1 bt561.2 true)) else (laws_FnWires.j0 k t521 t522 t523 t524 t529 t530 bt545.1 bt545.2 bt553.1 bt553.2.1 bt553.2.2.1 bt553.2.2.2 bt561.1 bt561.2 true))) else (laws_FnWires.j0 k t521 t522 t523 t524 t529 t530 bt545.1 bt545.2 bt553.1 bt553.2.1 bt553.2.2.1 bt553.2.2.2 bt561.1 bt561.2 true))))))) = some r := H
   have A8 := Aside0.mk A80
   clear A80
   replace H := Option.bind_eq_some_iff.mp H
   obtain ⟨⟨t545, t546⟩, A90, H⟩ := H
   replace H : ((spec_LooseCues.f k t521 t522 t523).bind fun bt549 => ((spec_DrawFreePins.f k l0).bind fun bt553 => ((impl_FreePins.f k bt553.1 bt553.2.1 bt553.2.2.1 bt553.2.2.2).bind fun bt561 => ((spec_FreePins.f k bt553.1 bt553.2.1 bt553.2.2.1 bt553.2.2.2).bind fun bt565 => (if t530 = t534 then ((laws_likeWires.f k t529 t533).bind fun t569 => (if t569 = true then (if t538 = t542 then ((laws_likeWires.f k t537 t541).bind fun t570 => (if t570 = true then (if t546 = bt549.2 then ((laws_likeInts.f k t545 bt549.1).bind fun t571 => (if t571 = true then (if bt561.2 = bt565.2 then ((laws_likeInts.f k bt561.1 bt565.1).bind fun t572 => (if t572 = true then ((impl_AreWires.f k t521 t522 t523).bind fun t573 => (laws_FnWires.j0 k t521 t522 t523 t524 t529 t530 t545 t546 bt553.1 bt553.2.1 bt553.2.2.1 bt553.2.2.2 bt561.1 bt561.2 (t573 != (bt549.2 == 0)))) else (laws_FnWires.j0 k t521 t522 t523 t524 t529 t530 t545 t546 bt553.1 bt553.2.1 bt553.2.2.1 bt553.2.2.2 bt561.1 bt561.2 true))) else (laws_FnWires.j0 k t521 t522 t523 t524 t529 t530 t545 t546 bt553.1 bt553.2.1 bt553.2.2.1 bt553.2.2.2 bt561.1 bt561.2 true)) else (laws_FnWires.j0 k t521 t522 t523 t524 t529 t530 t545 t546 bt553.1 bt553.2.1 bt553.2.2.1 bt553.2.2.2 bt561.1 bt561.2 true))) else (laws_FnWires.j0 k t521 t522 t523 t524 t529 t530 t545 t546 bt553.1 bt553.2.1 bt553.2.2.1 bt553.2.2.2 bt561.1 bt561.2 true)) else (laws_FnWires.j0 k t521 t522 t523 t524 t529 t530 t545 t546 bt553.1 bt553.2.1 bt553.2.2.1 bt553.2.2.2 bt561.1 bt561.2 true))) else (laws_FnWires.j0 k t521 t522 t523 t524 t529 t530 t545 t546 bt553.1 bt553.2.1 bt553.2.2.1 bt553.2.2.2 bt561.1 bt561.2 true)) else (laws_FnWires.j0 k t521 t522 t523 t524 t529 t530 t545 t546 bt553.1 bt553.2.1 bt553.2.2.1 bt553.2.2.2 bt561.1 bt561.2 true))) else (laws_FnWires.j0 k t521 t522 t523 t524 t529 t530 t545 t546 bt553.1 bt553.2.1 bt553.2.2.1 bt553.2.2.2 bt561.1 bt561.2 true)))))) = some r := H
   have A9 := Aside0.mk A90
   clear A90
   replace H := Option.bind_eq_some_iff.mp H
   obtain ⟨⟨t549, t550⟩, A100, H⟩ := H
   replace H : ((spec_DrawFreePins.f k l0).bind fun bt553 => ((impl_FreePins.f k bt553.1 bt553.2.1 bt553.2.2.1 bt553.2.2.2).bind fun bt561 => ((spec_FreePins.f k bt553.1 bt553.2.1 bt553.2.2.1 bt553.2.2.2).bind fun bt565 => (if t530 = t534 then ((laws_likeWires.f k t529 t533).bind fun t569 => (if t569 = true then (if t538 = t542 then ((laws_likeWires.f k t537 t541).bind fun t570 => (if t570 = true then (if t546 = t550 then ((laws_likeInts.f k t545 t549).bind fun t571 => (if t571 = true then (if bt561.2 = bt565.2 then ((laws_likeInts.f k bt561.1 bt565.1).bind fun t572 => (if t572 = true then ((impl_AreWires.f k t521 t522 t523).bind fun t573 => (laws_FnWires.j0 k t521 t522 t523 t524 t529 t530 t545 t546 bt553.1 bt553.2.1 bt553.2.2.1 bt553.2.2.2 bt561.1 bt561.2 (t573 != (t550 == 0)))) else (laws_FnWires.j0 k t521 t522 t523 t524 t529 t530 t545 t546 bt553.1 bt553.2.1 bt553.2.2.1 bt553.2.2.2 bt561.1 bt561.2 true))) else (laws_FnWires.j0 k t521 t522 t523 t524 t529 t530 t545 t546 bt553.1 bt553.2.1 bt553.2.2.1 bt553.2.2.2 bt561.1 bt561.2 true)) else (laws_FnWires.j0 k t521 t522 t523 t524 t529 t530 t545 t546 bt553.1 bt553.2.1 bt553.2.2.1 bt553.2.2.2 bt561.1 bt561.2 true))) else (laws_FnWires.j0 k t521 t522 t523 t524 t529 t530 t545 t546 bt553.1 bt553.2.1 bt553.2.2.1 bt553.2.2.2 bt561.1 bt561.2 true)) else (laws_FnWires.j0 k t521 t522 t523 t524 t529 t530 t545 t546 bt553.1 bt553.2.1 bt553.2.2.1 bt553.2.2.2 bt561.1 bt561.2 true))) else (laws_FnWires.j0 k t521 t522 t523 t524 t529 t530 t545 t546 bt553.1 bt553.2.1 bt553.2.2.1 bt553.2.2.2 bt561.1 bt561.2 true)) else (laws_FnWires.j0 k t521 t522 t523 t524 t529 t530 t545 t546 bt553.1 bt553.2.1 bt553.2.2.1 bt553.2.2.2 bt561.1 bt561.2 true))) else (laws_FnWires.j0 k t521 t522 t523 t524 t529 t530 t545 t546 bt553.1 bt553.2.1 bt553.2.2.1 bt553.2.2.2 bt561.1 bt561.2 true))))) = some r := H
   have A10 := Aside0.mk A100
   clear A100
   replace H := Option.bind_eq_some_iff.mp H
   obtain ⟨⟨t553, t554, t555, t556⟩, A110, H⟩ := H
   replace H : ((impl_FreePins.f k t553 t554 t555 t556).bind fun bt561 => ((spec_FreePins.f k t553 t554 t555 t556).bind fun bt565 => (if t530 = t534 then ((laws_likeWires.f k t529 t533).bind fun t569 => (if t569 = true then (if t538 = t542 then ((laws_likeWires.f k t537 t541).bind fun t570 => (if t570 = true then (if t546 = t550 then ((laws_likeInts.f k t545 t549).bind fun t571 => (if t571 = true then (if bt561.2 = bt565.2 then ((laws_likeInts.f k bt561.1 bt565.1).bind fun t572 => (if t572 = true then ((impl_AreWires.f k t521 t522 t523).bind fun t573 => (laws_FnWires.j0 k t521 t522 t523 t524 t529 t530 t545 t546 t553 t554 t555 t556 bt561.1 bt561.2 (t573 != (t550 == 0)))) else (laws_FnWires.j0 k t521 t522 t523 t524 t529 t530 t545 t546 t553 t554 t555 t556 bt561.1 bt561.2 true))) else (laws_FnWires.j0 k t521 t522 t523 t524 t529 t530 t545 t546 t553 t554 t555 t556 bt561.1 bt561.2 true)) else (laws_FnWires.j0 k t521 t522 t523 t524 t529 t530 t545 t546 t553 t554 t555 t556 bt561.1 bt561.2 true))) else (laws_FnWires.j0 k t521 t522 t523 t524 t529 t530 t545 t546 t553 t554 t555 t556 bt561.1 bt561.2 true)) else (laws_FnWires.j0 k t521 t522 t523 t524 t529 t530 t545 t546 t553 t554 t555 t556 bt561.1 bt561.2 true))) else (laws_FnWires.j0 k t521 t522 t523 t524 t529 t530 t545 t546 t553 t554 t555 t556 bt561.1 bt561.2 true)) else (laws_FnWires.j0 k t521 t522 t523 t524 t529 t530 t545 t546 t553 t554 t555 t556 bt561.1 bt561.2 true))) else (laws_FnWires.j0 k t521 t522 t523 t524 t529 t530 t545 t546 t553 t554 t555 t556 bt561.1 bt561.2 true)))) = some r := H
   have A11 := Aside0.mk A110
   clear A110
   replace H := Option.bind_eq_some_iff.mp H
   obtain ⟨⟨t561, t562⟩, A120, H⟩ := H
   replace H : ((spec_FreePins.f k t553 t554 t555 t556).bind fun bt565 => (if t530 = t534 then ((laws_likeWires.f k t529 t533).bind fun t569 => (if t569 = true then (if t538 = t542 then ((laws_likeWires.f k t537 t541).bind fun t570 => (if t570 = true then (if t546 = t550 then ((laws_likeInts.f k t545 t549).bind fun t571 => (if t571 = true then (if t562 = bt565.2 then ((laws_likeInts.f k t561 bt565.1).bind fun t572 => (if t572 = true then ((impl_AreWires.f k t521 t522 t523).bind fun t573 => (laws_FnWires.j0 k t521 t522 t523 t524 t529 t530 t545 t546 t553 t554 t555 t556 t561 t562 (t573 != (t550 == 0)))) else (laws_FnWires.j0 k t521 t522 t523 t524 t529 t530 t545 t546 t553 t554 t555 t556 t561 t562 true))) else (laws_FnWires.j0 k t521 t522 t523 t524 t529 t530 t545 t546 t553 t554 t555 t556 t561 t562 true)) else (laws_FnWires.j0 k t521 t522 t523 t524 t529 t530 t545 t546 t553 t554 t555 t556 t561 t562 true))) else (laws_FnWires.j0 k t521 t522 t523 t524 t529 t530 t545 t546 t553 t554 t555 t556 t561 t562 true)) else (laws_FnWires.j0 k t521 t522 t523 t524 t529 t530 t545 t546 t553 t554 t555 t556 t561 t562 true))) else (laws_FnWires.j0 k t521 t522 t523 t524 t529 t530 t545 t546 t553 t554 t555 t556 t561 t562 true)) else (laws_FnWires.j0 k t521 t522 t523 t524 t529 t530 t545 t546 t553 t554 t555 t556 t561 t562 true))) else (laws_FnWires.j0 k t521 t522 t523 t524 t529 t530 t545 t546 t553 t554 t555 t556 t561 t562 true))) = some r := H
   have A12 := Aside0.mk A120
   clear A120
   replace H := Option.bind_eq_some_iff.mp H
   obtain ⟨⟨t565, t566⟩, A130, H⟩ := H
   replace H : (if t530 = t534 then ((laws_likeWires.f k t529 t533).bind fun t569 => (if t569 = true then (if t538 = t542 then ((laws_likeWires.f k t537 t541).bind fun t570 => (if t570 = true then (if t546 = t550 then ((laws_likeInts.f k t545 t549).bind fun t571 => (if t571 = true then (if t562 = t566 then ((laws_likeInts.f k t561 t565).bind fun t572 => (if t572 = true then ((impl_AreWires.f k t521 t522 t523).bind fun t573 => (laws_FnWires.j0 k t521 t522 t523 t524 t529 t530 t545 t546 t553 t554 t555 t556 t561 t562 (t573 != (t550 == 0)))) else (laws_FnWires.j0 k t521 t522 t523 t524 t529 t530 t545 t546 t553 t554 t555 t556 t561 t562 true))) else (laws_FnWires.j0 k t521 t522 t523 t524 t529 t530 t545 t546 t553 t554 t555 t556 t561 t562 true)) else (laws_FnWires.j0 k t521 t522 t523 t524 t529 t530 t545 t546 t553 t554 t555 t556 t561 t562 true))) else (laws_FnWires.j0 k t521 t522 t523 t524 t529 t530 t545 t546 t553 t554 t555 t556 t561 t562 true)) else (laws_FnWires.j0 k t521 t522 t523 t524 t529 t530 t545 t546 t553 t554 t555 t556 t561 t562 true))) else (laws_FnWires.j0 k t521 t522 t523 t524 t529 t530 t545 t546 t553 t554 t555 t556 t561 t562 true)) else (laws_FnWires.j0 k t521 t522 t523 t524 t529 t530 t545 t546 t553 t554 t555 t556 t561 t562 true))) else (laws_FnWires.j0 k t521 t522 t523 t524 t529 t530 t545 t546 t553 t554 t555 t556 t561 t562 true)) = some r := H
   have A13 := Aside0.mk A130
   clear A130
   have HC14 := Aside0.mk H
   clear H
   go_enter Try.func9, Try.ntmps9
   go_upto_region 13 with (first | ((with_reducible refine gate_callee (f := 47) rfl ?_); refine goesL_ (some 33) rfl rfl Try.func47 (by kernel_rfl) rfl #[.slice A0 l0.length c0] rfl ag_ ?_; (with_reducible refine (laws_big.calls _ _ l0 false _ ?side1 ?side2 A2.out).mono ?_); (case side1 => exact r6_ HR0.out); (case side2 => exact HC0.out); rintro e w' ⟨rfl, ⟨nd, rfl⟩⟩; refine ⟨_, rfl, ?_⟩) | ((with_reducible refine gate_callee (f := 59) rfl ?_); refine goesL_ (some 36) rfl rfl Try.func59 (by kernel_rfl) rfl #[.slice A0 l0.length c0] rfl ag_ ?_; (with_reducible refine (spec_DrawWireCue.calls k _ _ l0 t521 t522 t523 t524 _ ?side1 ?side2 A4.out).mono ?_); (case side1 => exact r6_ HR0.out); (case side2 => exact HC0.out); rintro e w15 ⟨v525, v527, rfl, ho0, ho1, hb⟩; refine ⟨_, rfl, ?_⟩; have n0_ := Aside0.mk (Kd.R_lower ho0 (below_size (bl_ HB.out))); have n1_ := Aside0.mk (Kd.R_lower ho1 (below_size (bl_ HB.out))); have n2_ := Aside0.mk (below_step (bl_ HB.out) hb); clear HB; have HO526 := n0_; have HO528 := n1_; have HB := n2_; clear n0_ n1_ n2_; (try clear hb); (try clear hb2); (try clear hk); (try clear hi); (try clear ho0); (try clear ho1); obtain ⟨Ao16, co16, eo16⟩ := Kd.R_slice HO526.out; subst eo16; obtain ⟨Ao17, co17, eo17⟩ := Kd.R_slice HO528.out; subst eo17) | ((with_reducible refine gate_callee (f := 15) rfl ?_); refine goesL_ (some 46) rfl rfl Try.func15 (by kernel_rfl) rfl #[.slice Ao16 t521.length co16, .int .i64 t522, .slice Ao17 t523.length co17, .int .i64 t524] rfl ag_ ?_; (with_reducible refine (impl_WireCue.calls k _ _ t521 t522 _ _ t523 t524 t529 t530 _ ?side1 ?side2 ?side3 ?side4 A5.out).mono ?_); (case side1 => exact r8_ HO526.out); (case side2 => exact (Kd.R_reads' HO526.out).2.1); (case side3 => exact r8_ HO528.out); (case side4 => exact (Kd.R_reads' HO528.out).2.1); rintro e w18 ⟨v531, rfl, ho0, hb⟩; refine ⟨_, rfl, ?_⟩; have n0_ := Aside0.mk (Kd.R_below (rk_ HO526.out) hb); have n1_ := Aside0.mk (Kd.R_elder' (rk_ HO528.out) (Kd.R_base ho0) hb); have n2_ := Aside0.mk (Kd.R_lower (Kd.R_new' ho0 (Kd.R_lt (rk_ HO528.out))) (below_size (bl_ HB.out))); have n3_ := Aside0.mk (below_step (bl_ HB.out) hb); clear HO526; clear HO528; clear HB; have HO526 := n0_; have HO528 := n1_; have HO532 := n2_; have HB := n3_; clear n0_ n1_ n2_ n3_; (try clear hb); (try clear hb2); (try clear hk); (try clear hi); (try clear ho0)) | ((with_reducible refine gate_callee (f := 12) rfl ?_); refine goesL_ (some 54) rfl rfl Try.func12 (by kernel_rfl) rfl #[.slice Ao16 t521.length co16, .int .i64 t522, .slice Ao17 t523.length co17, .int .i64 t524] rfl ag_ ?_; (with_reducible refine (spec_WireCue.calls k _ _ t521 t522 _ _ t523 t524 t533 t534 _ ?side1 ?side2 ?side3 ?side4 A6.out).mono ?_); (case side1 => exact r8_ HO526.out); (case side2 => exact (Kd.R_reads' HO526.out).2.1); (case side3 => exact r8_ HO528.out); (case side4 => exact (Kd.R_reads' HO528.out).2.1); rintro e w19 ⟨v535, rfl, ho0, hb⟩; refine ⟨_, rfl, ?_⟩; have n0_ := Aside0.mk (Kd.R_below (rk_ HO526.out) hb); have n1_ := Aside0.mk (Kd.R_elder' (rk_ HO528.out) (Kd.R_base ho0) hb); have n2_ := Aside0.mk (Kd.R_elder' (rk_ HO532.out) (Kd.R_base ho0) hb); have n3_ := Aside0.mk (Kd.R_lower (Kd.R_new' (Kd.R_new' ho0 (Kd.R_lt (rk_ HO528.out))) (Kd.R_lt (rk_ HO532.out))) (below_size (bl_ HB.out))); have n4_ := Aside0.mk (below_step (bl_ HB.out) hb); clear HO526; clear HO528; clear HO532; clear HB; have HO526 := n0_; have HO528 := n1_; have HO532 := n2_; have HO536 := n3_; have HB := n4_; clear n0_ n1_ n2_ n3_ n4_; (try clear hb); (try clear hb2); (try clear hk); (try clear hi); (try clear ho0)) | ((with_reducible refine gate_callee (f := 60) rfl ?_); refine goesL_ (some 62) rfl rfl Try.func60 (by kernel_rfl) rfl #[.slice Ao16 t521.length co16, .int .i64 t522, .slice Ao17 t523.length co17, .int .i64 t524] rfl ag_ ?_; (with_reducible refine (impl_CutWire.calls k _ _ t521 t522 _ _ t523 t524 t537 t538 _ ?side1 ?side2 ?side3 ?side4 A7.out).mono ?_); (case side1 => exact r8_ HO526.out); (case side2 => exact (Kd.R_reads' HO526.out).2.1); (case side3 => exact r8_ HO528.out); (case side4 => exact (Kd.R_reads' HO528.out).2.1); rintro e w20 ⟨v539, rfl, ho0, hb⟩; refine ⟨_, rfl, ?_⟩; have n0_ := Aside0.mk (Kd.R_below (rk_ HO526.out) hb); have n1_ := Aside0.mk (Kd.R_elder' (rk_ HO528.out) (Kd.R_base ho0) hb); have n2_ := Aside0.mk (Kd.R_elder' (rk_ HO532.out) (Kd.R_base ho0) hb); have n3_ := Aside0.mk (Kd.R_elder' (rk_ HO536.out) (Kd.R_base ho0) hb); have n4_ := Aside0.mk (Kd.R_lower (Kd.R_new' (Kd.R_new' (Kd.R_new' ho0 (Kd.R_lt (rk_ HO528.out))) (Kd.R_lt (rk_ HO532.out))) (Kd.R_lt (rk_ HO536.out))) (below_size (bl_ HB.out))); have n5_ := Aside0.mk (below_step (bl_ HB.out) hb); clear HO526; clear HO528; clear HO532; clear HO536; clear HB; have HO526 := n0_; have HO528 := n1_; have HO532 := n2_; have HO536 := n3_; have HO540 := n4_; have HB := n5_; clear n0_ n1_ n2_ n3_ n4_ n5_; (try clear hb); (try clear hb2); (try clear hk); (try clear hi); (try clear ho0)) | ((with_reducible refine gate_callee (f := 61) rfl ?_); refine goesL_ (some 70) rfl rfl Try.func61 (by kernel_rfl) rfl #[.slice Ao16 t521.length co16, .int .i64 t522, .slice Ao17 t523.length co17, .int .i64 t524] rfl ag_ ?_; (with_reducible refine (spec_CutWire.calls k _ _ t521 t522 _ _ t523 t524 t541 t542 _ ?side1 ?side2 ?side3 ?side4 A8.out).mono ?_); (case side1 => exact r8_ HO526.out); (case side2 => exact (Kd.R_reads' HO526.out).2.1); (case side3 => exact r8_ HO528.out); (case side4 => exact (Kd.R_reads' HO528.out).2.1); rintro e w21 ⟨v543, rfl, ho0, hb⟩; refine ⟨_, rfl, ?_⟩; have n0_ := Aside0.mk (Kd.R_below (rk_ HO526.out) hb); have n1_ := Aside0.mk (Kd.R_elder' (rk_ HO528.out) (Kd.R_base ho0) hb); have n2_ := Aside0.mk (Kd.R_elder' (rk_ HO532.out) (Kd.R_base ho0) hb); have n3_ := Aside0.mk (Kd.R_elder' (rk_ HO536.out) (Kd.R_base ho0) hb); have n4_ := Aside0.mk (Kd.R_elder' (rk_ HO540.out) (Kd.R_base ho0) hb); have n5_ := Aside0.mk (Kd.R_lower (Kd.R_new' (Kd.R_new' (Kd.R_new' (Kd.R_new' ho0 (Kd.R_lt (rk_ HO528.out))) (Kd.R_lt (rk_ HO532.out))) (Kd.R_lt (rk_ HO536.out))) (Kd.R_lt (rk_ HO540.out))) (below_size (bl_ HB.out))); have n6_ := Aside0.mk (below_step (bl_ HB.out) hb); clear HO526; clear HO528; clear HO532; clear HO536; clear HO540; clear HB; have HO526 := n0_; have HO528 := n1_; have HO532 := n2_; have HO536 := n3_; have HO540 := n4_; have HO544 := n5_; have HB := n6_; clear n0_ n1_ n2_ n3_ n4_ n5_ n6_; (try clear hb); (try clear hb2); (try clear hk); (try clear hi); (try clear ho0)) | ((with_reducible refine gate_callee (f := 62) rfl ?_); refine goesL_ (some 77) rfl rfl Try.func62 (by kernel_rfl) rfl #[.slice Ao16 t521.length co16, .int .i64 t522, .slice Ao17 t523.length co17] rfl ag_ ?_; (with_reducible refine (impl_LooseCues.calls k _ _ t521 t522 _ _ t523 t545 t546 _ ?side1 ?side2 ?side3 ?side4 A9.out).mono ?_); (case side1 => exact r8_ HO526.out); (case side2 => exact (Kd.R_reads' HO526.out).2.1); (case side3 => exact r8_ HO528.out); (case side4 => exact (Kd.R_reads' HO528.out).2.1); rintro e w22 ⟨v547, rfl, ho0, hb⟩; refine ⟨_, rfl, ?_⟩; have n0_ := Aside0.mk (Kd.R_below (rk_ HO526.out) hb); have n1_ := Aside0.mk (Kd.R_below (rk_ HO528.out) hb); have n2_ := Aside0.mk (Kd.R_below (rk_ HO532.out) hb); have n3_ := Aside0.mk (Kd.R_below (rk_ HO536.out) hb); have n4_ := Aside0.mk (Kd.R_below (rk_ HO540.out) hb); have n5_ := Aside0.mk (Kd.R_below (rk_ HO544.out) hb); have n6_ := Aside0.mk (Kd.R_lower ho0 (below_size (bl_ HB.out))); have n7_ := Aside0.mk (below_step (bl_ HB.out) hb); clear HO526; clear HO528; clear HO532; clear HO536; clear HO540; clear HO544; clear HB; have HO526 := n0_; have HO528 := n1_; have HO532 := n2_; have HO536 := n3_; have HO540 := n4_; have HO544 := n5_; have HO548 := n6_; have HB := n7_; clear n0_ n1_ n2_ n3_ n4_ n5_ n6_ n7_; (try clear hb); (try clear hb2); (try clear hk); (try clear hi); (try clear ho0)) | ((with_reducible refine gate_callee (f := 63) rfl ?_); refine goesL_ (some 84) rfl rfl Try.func63 (by kernel_rfl) rfl #[.slice Ao16 t521.length co16, .int .i64 t522, .slice Ao17 t523.length co17] rfl ag_ ?_; (with_reducible refine (spec_LooseCues.calls k _ _ t521 t522 _ _ t523 t549 t550 _ ?side1 ?side2 ?side3 ?side4 A10.out).mono ?_); (case side1 => exact r8_ HO526.out); (case side2 => exact (Kd.R_reads' HO526.out).2.1); (case side3 => exact r8_ HO528.out); (case side4 => exact (Kd.R_reads' HO528.out).2.1); rintro e w23 ⟨v551, rfl, ho0, hb⟩; refine ⟨_, rfl, ?_⟩; have n0_ := Aside0.mk (Kd.R_below (rk_ HO526.out) hb); have n1_ := Aside0.mk (Kd.R_below (rk_ HO528.out) hb); have n2_ := Aside0.mk (Kd.R_below (rk_ HO532.out) hb); have n3_ := Aside0.mk (Kd.R_below (rk_ HO536.out) hb); have n4_ := Aside0.mk (Kd.R_below (rk_ HO540.out) hb); have n5_ := Aside0.mk (Kd.R_below (rk_ HO544.out) hb); have n6_ := Aside0.mk (Kd.R_elder' (rk_ HO548.out) (Kd.R_base ho0) hb); have n7_ := Aside0.mk (Kd.R_lower (Kd.R_new' ho0 (Kd.R_lt (rk_ HO548.out))) (below_size (bl_ HB.out))); have n8_ := Aside0.mk (below_step (bl_ HB.out) hb); clear HO526; clear HO528; clear HO532; clear HO536; clear HO540; clear HO544; clear HO548; clear HB; have HO526 := n0_; have HO528 := n1_; have HO532 := n2_; have HO536 := n3_; have HO540 := n4_; have HO544 := n5_; have HO548 := n6_; have HO552 := n7_; have HB := n8_; clear n0_ n1_ n2_ n3_ n4_ n5_ n6_ n7_ n8_; (try clear hb); (try clear hb2); (try clear hk); (try clear hi); (try clear ho0)) | ((with_reducible refine gate_callee (f := 64) rfl ?_); refine goesL_ (some 89) rfl rfl Try.func64 (by kernel_rfl) rfl #[.slice A0 l0.length c0] rfl ag_ ?_; (with_reducible refine (spec_DrawFreePins.calls k _ _ l0 t553 t554 t555 t556 _ ?side1 ?side2 A11.out).mono ?_); (case side1 => exact r9_ HR0.out HB.out); (case side2 => exact HC0.out); rintro e w24 ⟨v557, v559, rfl, ho0, ho1, hb⟩; refine ⟨_, rfl, ?_⟩; have n0_ := Aside0.mk (Kd.R_elder' (rk_ HO526.out) (Kd.R_base ho0) hb); have n1_ := Aside0.mk (Kd.R_elder' (rk_ HO528.out) (Kd.R_base ho1) hb); have n2_ := Aside0.mk (Kd.R_elder' (rk_ HO532.out) (Kd.R_base ho1) hb); have n3_ := Aside0.mk (Kd.R_elder' (rk_ HO536.out) (Kd.R_base ho1) hb); have n4_ := Aside0.mk (Kd.R_elder' (rk_ HO540.out) (Kd.R_base ho1) hb); have n5_ := Aside0.mk (Kd.R_elder' (rk_ HO544.out) (Kd.R_base ho1) hb); have n6_ := Aside0.mk (Kd.R_below (rk_ HO548.out) hb); have n7_ := Aside0.mk (Kd.R_below (rk_ HO552.out) hb); have n8_ := Aside0.mk (Kd.R_lower (Kd.R_new' ho0 (Kd.R_lt (rk_ HO526.out))) (below_size (bl_ HB.out))); have n9_ := Aside0.mk (Kd.R_lower (Kd.R_new' (Kd.R_new' (Kd.R_new' (Kd.R_new' (Kd.R_new' ho1 (Kd.R_lt (rk_ HO528.out))) (Kd.R_lt (rk_ HO532.out))) (Kd.R_lt (rk_ HO536.out))) (Kd.R_lt (rk_ HO540.out))) (Kd.R_lt (rk_ HO544.out))) (below_size (bl_ HB.out))); have n10_ := Aside0.mk (below_step (bl_ HB.out) hb); clear HO526; clear HO528; clear HO532; clear HO536; clear HO540; clear HO544; clear HO548; clear HO552; clear HB; have HO526 := n0_; have HO528 := n1_; have HO532 := n2_; have HO536 := n3_; have HO540 := n4_; have HO544 := n5_; have HO548 := n6_; have HO552 := n7_; have HO558 := n8_; have HO560 := n9_; have HB := n10_; clear n0_ n1_ n2_ n3_ n4_ n5_ n6_ n7_ n8_ n9_ n10_; (try clear hb); (try clear hb2); (try clear hk); (try clear hi); (try clear ho0); (try clear ho1); obtain ⟨Ao25, co25, eo25⟩ := Kd.R_slice HO558.out; subst eo25; obtain ⟨Ao26, co26, eo26⟩ := Kd.R_slice HO560.out; subst eo26) | ((with_reducible refine gate_callee (f := 65) rfl ?_); refine goesL_ (some 99) rfl rfl Try.func65 (by kernel_rfl) rfl #[.slice Ao25 t553.length co25, .int .i64 t554, .slice Ao26 t555.length co26, .int .i64 t556] rfl ag_ ?_; (with_reducible refine (impl_FreePins.calls k _ _ t553 t554 _ _ t555 t556 t561 t562 _ ?side1 ?side2 ?side3 ?side4 A12.out).mono ?_); (case side1 => exact r8_ HO558.out); (case side2 => exact (Kd.R_reads' HO558.out).2.1); (case side3 => exact r8_ HO560.out); (case side4 => exact (Kd.R_reads' HO560.out).2.1); rintro e w27 ⟨v563, rfl, ho0, hb⟩; refine ⟨_, rfl, ?_⟩; have n0_ := Aside0.mk (Kd.R_below (rk_ HO526.out) hb); have n1_ := Aside0.mk (Kd.R_below (rk_ HO528.out) hb); have n2_ := Aside0.mk (Kd.R_below (rk_ HO532.out) hb); have n3_ := Aside0.mk (Kd.R_below (rk_ HO536.out) hb); have n4_ := Aside0.mk (Kd.R_below (rk_ HO540.out) hb); have n5_ := Aside0.mk (Kd.R_below (rk_ HO544.out) hb); have n6_ := Aside0.mk (Kd.R_elder' (rk_ HO548.out) (Kd.R_base ho0) hb); have n7_ := Aside0.mk (Kd.R_elder' (rk_ HO552.out) (Kd.R_base ho0) hb); have n8_ := Aside0.mk (Kd.R_below (rk_ HO558.out) hb); have n9_ := Aside0.mk (Kd.R_below (rk_ HO560.out) hb); have n10_ := Aside0.mk (Kd.R_lower (Kd.R_new' (Kd.R_new' ho0 (Kd.R_lt (rk_ HO548.out))) (Kd.R_lt (rk_ HO552.out))) (below_size (bl_ HB.out))); have n11_ := Aside0.mk (below_step (bl_ HB.out) hb); clear HO526; clear HO528; clear HO532; clear HO536; clear HO540; clear HO544; clear HO548; clear HO552; clear HO558; clear HO560; clear HB; have HO526 := n0_; have HO528 := n1_; have HO532 := n2_; have HO536 := n3_; have HO540 := n4_; have HO544 := n5_; have HO548 := n6_; have HO552 := n7_; have HO558 := n8_; have HO560 := n9_; have HO564 := n10_; have HB := n11_; clear n0_ n1_ n2_ n3_ n4_ n5_ n6_ n7_ n8_ n9_ n10_ n11_; (try clear hb); (try clear hb2); (try clear hk); (try clear hi); (try clear ho0)) | ((with_reducible refine gate_callee (f := 66) rfl ?_); refine goesL_ (some 107) rfl rfl Try.func66 (by kernel_rfl) rfl #[.slice Ao25 t553.length co25, .int .i64 t554, .slice Ao26 t555.length co26, .int .i64 t556] rfl ag_ ?_; (with_reducible refine (spec_FreePins.calls k _ _ t553 t554 _ _ t555 t556 t565 t566 _ ?side1 ?side2 ?side3 ?side4 A13.out).mono ?_); (case side1 => exact r8_ HO558.out); (case side2 => exact (Kd.R_reads' HO558.out).2.1); (case side3 => exact r8_ HO560.out); (case side4 => exact (Kd.R_reads' HO560.out).2.1); rintro e w28 ⟨v567, rfl, ho0, hb⟩; refine ⟨_, rfl, ?_⟩; have n0_ := Aside0.mk (Kd.R_below (rk_ HO526.out) hb); have n1_ := Aside0.mk (Kd.R_below (rk_ HO528.out) hb); have n2_ := Aside0.mk (Kd.R_below (rk_ HO532.out) hb); have n3_ := Aside0.mk (Kd.R_below (rk_ HO536.out) hb); have n4_ := Aside0.mk (Kd.R_below (rk_ HO540.out) hb); have n5_ := Aside0.mk (Kd.R_below (rk_ HO544.out) hb); have n6_ := Aside0.mk (Kd.R_elder' (rk_ HO548.out) (Kd.R_base ho0) hb); have n7_ := Aside0.mk (Kd.R_elder' (rk_ HO552.out) (Kd.R_base ho0) hb); have n8_ := Aside0.mk (Kd.R_below (rk_ HO558.out) hb); have n9_ := Aside0.mk (Kd.R_below (rk_ HO560.out) hb); have n10_ := Aside0.mk (Kd.R_elder' (rk_ HO564.out) (Kd.R_base ho0) hb); have n11_ := Aside0.mk (Kd.R_lower (Kd.R_new' (Kd.R_new' (Kd.R_new' ho0 (Kd.R_lt (rk_ HO548.out))) (Kd.R_lt (rk_ HO552.out))) (Kd.R_lt (rk_ HO564.out))) (below_size (bl_ HB.out))); have n12_ := Aside0.mk (below_step (bl_ HB.out) hb); clear HO526; clear HO528; clear HO532; clear HO536; clear HO540; clear HO544; clear HO548; clear HO552; clear HO558; clear HO560; clear HO564; clear HB; have HO526 := n0_; have HO528 := n1_; have HO532 := n2_; have HO536 := n3_; have HO540 := n4_; have HO544 := n5_; have HO548 := n6_; have HO552 := n7_; have HO558 := n8_; have HO560 := n9_; have HO564 := n10_; have HO568 := n11_; have HB := n12_; clear n0_ n1_ n2_ n3_ n4_ n5_ n6_ n7_ n8_ n9_ n10_ n11_ n12_; (try clear hb); (try clear hb2); (try clear hk); (try clear hi); (try clear ho0)))
   (try simp only [Act.put, List.setIfInBounds_toArray, List.set_cons_zero, List.set_cons_succ])
   go_cut [160] (fun v160 wc => ∃ (kq : Nat) (x160_13 : Bool), v160 = .bool x160_13 ∧ Aside0 (laws_FnWires.j0 kq t521 t522 t523 t524 t529 t530 t545 t546 t553 t554 t555 t556 t561 t562 x160_13 = some r) ∧ Aside0 (kq ≤ k) ∧ Aside0 (Kd.R k98 98 wc w.heap.size (fun k_ => some k_ ≠ ((.slice Ao25 t553.length co25) : Value).ownBlock) (.slice Ao16 t521.length co16) t521) ∧ Aside0 (Kd.R k103 103 wc w.heap.size (fun k_ => some k_ ≠ (v531 : Value).ownBlock ∧ some k_ ≠ ((.slice Ao26 t555.length co26) : Value).ownBlock) (.slice Ao17 t523.length co17) t523) ∧ Aside0 (Kd.R k103 103 wc w.heap.size (fun k_ => some k_ ≠ ((.slice Ao17 t523.length co17) : Value).ownBlock ∧ some k_ ≠ ((.slice Ao26 t555.length co26) : Value).ownBlock) v531 t529) ∧ Aside0 (Kd.R (Kd.int .i64) 2 wc w.heap.size (fun k_ => some k_ ≠ (v563 : Value).ownBlock) v547 t545) ∧ Aside0 (Kd.R k98 98 wc w.heap.size (fun k_ => some k_ ≠ ((.slice Ao16 t521.length co16) : Value).ownBlock) (.slice Ao25 t553.length co25) t553) ∧ Aside0 (Kd.R k103 103 wc w.heap.size (fun k_ => some k_ ≠ ((.slice Ao17 t523.length co17) : Value).ownBlock ∧ some k_ ≠ (v531 : Value).ownBlock) (.slice Ao26 t555.length co26) t555) ∧ Aside0 (Kd.R (Kd.int .i64) 2 wc w.heap.size (fun k_ => some k_ ≠ (v547 : Value).ownBlock) v563 t561) ∧ Aside0 (Below w.heap.size w wc))
   case first =>
    as_aux_lemma =>
     have H := HC14.out
     clear HC14
     by_cases c29 : t530 = t534
     case neg =>
      rw [if_neg c29] at H
      have c29b0 : (t530 == t534) = false := beq_eq_false_iff_ne.mpr c29
      have c29b1 : (t530 != t534) = true := bne_iff_ne.mpr c29
      (first | rw [c29b0] | (simp only [i64_w, i32_w]; rw [c29b0]) | skip)
      exact absurd ((laws_FnWires.j0_true H).trans hT) (by decide)
     rw [if_pos c29] at H
     have c29b0 : (t530 == t534) = true := beq_iff_eq.mpr c29
     have c29b1 : (t530 != t534) = false := bne_eq_false_iff_eq.mpr c29
     clear c29
     (first | rw [c29b0] | (simp only [i64_w, i32_w]; rw [c29b0]) | skip)
     replace H := Option.bind_eq_some_iff.mp H
     obtain ⟨t569, A300, H⟩ := H
     replace H : (if t569 = true then (if t538 = t542 then ((laws_likeWires.f k t537 t541).bind fun t570 => (if t570 = true then (if t546 = t550 then ((laws_likeInts.f k t545 t549).bind fun t571 => (if t571 = true then (if t562 = t566 then ((laws_likeInts.f k t561 t565).bind fun t572 => (if t572 = true then ((impl_AreWires.f k t521 t522 t523).bind fun t573 => (laws_FnWires.j0 k t521 t522 t523 t524 t529 t530 t545 t546 t553 t554 t555 t556 t561 t562 (t573 != (t550 == 0)))) else (laws_FnWires.j0 k t521 t522 t523 t524 t529 t530 t545 t546 t553 t554 t555 t556 t561 t562 true))) else (laws_FnWires.j0 k t521 t522 t523 t524 t529 t530 t545 t546 t553 t554 t555 t556 t561 t562 true)) else (laws_FnWires.j0 k t521 t522 t523 t524 t529 t530 t545 t546 t553 t554 t555 t556 t561 t562 true))) else (laws_FnWires.j0 k t521 t522 t523 t524 t529 t530 t545 t546 t553 t554 t555 t556 t561 t562 true)) else (laws_FnWires.j0 k t521 t522 t523 t524 t529 t530 t545 t546 t553 t554 t555 t556 t561 t562 true))) else (laws_FnWires.j0 k t521 t522 t523 t524 t529 t530 t545 t546 t553 t554 t555 t556 t561 t562 true)) else (laws_FnWires.j0 k t521 t522 t523 t524 t529 t530 t545 t546 t553 t554 t555 t556 t561 t562 true)) = some r := H
     have A30 := Aside0.mk A300
     clear A300
     by_cases c31 : t569 = true
     ·subst c31
      have H1 : (if t538 = t542 then ((laws_likeWires.f k t537 t541).bind fun t570 => (if t570 = true then (if t546 = t550 then ((laws_likeInts.f k t545 t549).bind fun t571 => (if t571 = true then (if t562 = t566 then ((laws_likeInts.f k t561 t565).bind fun t572 => (if t572 = true then ((impl_AreWires.f k t521 t522 t523).bind fun t573 => (laws_FnWires.j0 k t521 t522 t523 t524 t529 t530 t545 t546 t553 t554 t555 t556 t561 t562 (t573 != (t550 == 0)))) else (laws_FnWires.j0 k t521 t522 t523 t524 t529 t530 t545 t546 t553 t554 t555 t556 t561 t562 true))) else (laws_FnWires.j0 k t521 t522 t523 t524 t529 t530 t545 t546 t553 t554 t555 t556 t561 t562 true)) else (laws_FnWires.j0 k t521 t522 t523 t524 t529 t530 t545 t546 t553 t554 t555 t556 t561 t562 true))) else (laws_FnWires.j0 k t521 t522 t523 t524 t529 t530 t545 t546 t553 t554 t555 t556 t561 t562 true)) else (laws_FnWires.j0 k t521 t522 t523 t524 t529 t530 t545 t546 t553 t554 t555 t556 t561 t562 true))) else (laws_FnWires.j0 k t521 t522 t523 t524 t529 t530 t545 t546 t553 t554 t555 t556 t561 t562 true)) = some r := by rw [if_pos rfl] at H; exact H
      clear H
      have H := H1
      clear H1
      by_cases c32 : t538 = t542
      case neg =>
       rw [if_neg c32] at H
       have c32b0 : (t538 == t542) = false := beq_eq_false_iff_ne.mpr c32
       have c32b1 : (t538 != t542) = true := bne_iff_ne.mpr c32
       exact absurd ((laws_FnWires.j0_true H).trans hT) (by decide)
      rw [if_pos c32] at H
      have c32b0 : (t538 == t542) = true := beq_iff_eq.mpr c32
      have c32b1 : (t538 != t542) = false := bne_eq_false_iff_eq.mpr c32
      clear c32
      replace H := Option.bind_eq_some_iff.mp H
      obtain ⟨t570, A330, H⟩ := H
      replace H : (if t570 = true then (if t546 = t550 then ((laws_likeInts.f k t545 t549).bind fun t571 => (if t571 = true then (if t562 = t566 then ((laws_likeInts.f k t561 t565).bind fun t572 => (if t572 = true then ((impl_AreWires.f k t521 t522 t523).bind fun t573 => (laws_FnWires.j0 k t521 t522 t523 t524 t529 t530 t545 t546 t553 t554 t555 t556 t561 t562 (t573 != (t550 == 0)))) else (laws_FnWires.j0 k t521 t522 t523 t524 t529 t530 t545 t546 t553 t554 t555 t556 t561 t562 true))) else (laws_FnWires.j0 k t521 t522 t523 t524 t529 t530 t545 t546 t553 t554 t555 t556 t561 t562 true)) else (laws_FnWires.j0 k t521 t522 t523 t524 t529 t530 t545 t546 t553 t554 t555 t556 t561 t562 true))) else (laws_FnWires.j0 k t521 t522 t523 t524 t529 t530 t545 t546 t553 t554 t555 t556 t561 t562 true)) else (laws_FnWires.j0 k t521 t522 t523 t524 t529 t530 t545 t546 t553 t554 t555 t556 t561 t562 true)) = some r := H
      have A33 := Aside0.mk A330
      clear A330
      by_cases c34 : t570 = true
      ·subst c34
       have H1 : (if t546 = t550 then ((laws_likeInts.f k t545 t549).bind fun t571 => (if t571 = true then (if t562 = t566 then ((laws_likeInts.f k t561 t565).bind fun t572 => (if t572 = true then ((impl_AreWires.f k t521 t522 t523).bind fun t573 => (laws_FnWires.j0 k t521 t522 t523 t524 t529 t530 t545 t546 t553 t554 t555 t556 t561 t562 (t573 != (t550 == 0)))) else (laws_FnWires.j0 k t521 t522 t523 t524 t529 t530 t545 t546 t553 t554 t555 t556 t561 t562 true))) else (laws_FnWires.j0 k t521 t522 t523 t524 t529 t530 t545 t546 t553 t554 t555 t556 t561 t562 true)) else (laws_FnWires.j0 k t521 t522 t523 t524 t529 t530 t545 t546 t553 t554 t555 t556 t561 t562 true))) else (laws_FnWires.j0 k t521 t522 t523 t524 t529 t530 t545 t546 t553 t554 t555 t556 t561 t562 true)) = some r := by rw [if_pos rfl] at H; exact H
       clear H
       have H := H1
       clear H1
       by_cases c35 : t546 = t550
       case neg =>
        rw [if_neg c35] at H
        have c35b0 : (t546 == t550) = false := beq_eq_false_iff_ne.mpr c35
        have c35b1 : (t546 != t550) = true := bne_iff_ne.mpr c35
        exact absurd ((laws_FnWires.j0_true H).trans hT) (by decide)
       rw [if_pos c35] at H
       have c35b0 : (t546 == t550) = true := beq_iff_eq.mpr c35
       have c35b1 : (t546 != t550) = false := bne_eq_false_iff_eq.mpr c35
       clear c35
       replace H := Option.bind_eq_some_iff.mp H
       obtain ⟨t571, A360, H⟩ := H
       replace H : (if t571 = true then (if t562 = t566 then ((laws_likeInts.f k t561 t565).bind fun t572 => (if t572 = true then ((impl_AreWires.f k t521 t522 t523).bind fun t573 => (laws_FnWires.j0 k t521 t522 t523 t524 t529 t530 t545 t546 t553 t554 t555 t556 t561 t562 (t573 != (t550 == 0)))) else (laws_FnWires.j0 k t521 t522 t523 t524 t529 t530 t545 t546 t553 t554 t555 t556 t561 t562 true))) else (laws_FnWires.j0 k t521 t522 t523 t524 t529 t530 t545 t546 t553 t554 t555 t556 t561 t562 true)) else (laws_FnWires.j0 k t521 t522 t523 t524 t529 t530 t545 t546 t553 t554 t555 t556 t561 t562 true)) = some r := H
       have A36 := Aside0.mk A360
       clear A360
       by_cases c37 : t571 = true
       ·as_aux_lemma =>
         subst c37
         have H1 : (if t562 = t566 then ((laws_likeInts.f k t561 t565).bind fun t572 => (if t572 = true then ((impl_AreWires.f k t521 t522 t523).bind fun t573 => (laws_FnWires.j0 k t521 t522 t523 t524 t529 t530 t545 t546 t553 t554 t555 t556 t561 t562 (t573 != (t550 == 0)))) else (laws_FnWires.j0 k t521 t522 t523 t524 t529 t530 t545 t546 t553 t554 t555 t556 t561 t562 true))) else (laws_FnWires.j0 k t521 t522 t523 t524 t529 t530 t545 t546 t553 t554 t555 t556 t561 t562 true)) = some r := by rw [if_pos rfl] at H; exact H
         clear H
         have H := H1
         clear H1
         by_cases c38 : t562 = t566
         case neg =>
          rw [if_neg c38] at H
          have c38b0 : (t562 == t566) = false := beq_eq_false_iff_ne.mpr c38
          have c38b1 : (t562 != t566) = true := bne_iff_ne.mpr c38
          exact absurd ((laws_FnWires.j0_true H).trans hT) (by decide)
         rw [if_pos c38] at H
         have c38b0 : (t562 == t566) = true := beq_iff_eq.mpr c38
         have c38b1 : (t562 != t566) = false := bne_eq_false_iff_eq.mpr c38
         clear c38
         replace H := Option.bind_eq_some_iff.mp H
         obtain ⟨t572, A390, H⟩ := H
         replace H : (if t572 = true then ((impl_AreWires.f k t521 t522 t523).bind fun t573 => (laws_FnWires.j0 k t521 t522 t523 t524 t529 t530 t545 t546 t553 t554 t555 t556 t561 t562 (t573 != (t550 == 0)))) else (laws_FnWires.j0 k t521 t522 t523 t524 t529 t530 t545 t546 t553 t554 t555 t556 t561 t562 true)) = some r := H
         have A39 := Aside0.mk A390
         clear A390
         by_cases c40 : t572 = true
         ·subst c40
          have H1 : ((impl_AreWires.f k t521 t522 t523).bind fun t573 => (laws_FnWires.j0 k t521 t522 t523 t524 t529 t530 t545 t546 t553 t554 t555 t556 t561 t562 (t573 != (t550 == 0)))) = some r := by rw [if_pos rfl] at H; exact H
          clear H
          have H := H1
          clear H1
          replace H := Option.bind_eq_some_iff.mp H
          obtain ⟨t573, A410, H⟩ := H
          replace H : (laws_FnWires.j0 k t521 t522 t523 t524 t529 t530 t545 t546 t553 t554 t555 t556 t561 t562 (t573 != (t550 == 0))) = some r := H
          have A41 := Aside0.mk A410
          clear A410
          have H' := Aside0.mk H
          clear H
          obtain ⟨Ao42, co42, eo42⟩ := Kd.R_slice HO532.out
          subst eo42
          obtain ⟨Ao43, co43, eo43⟩ := Kd.R_slice HO536.out
          subst eo43
          go_wp2_with (first | (go_at_call 67; (with_reducible refine (laws_likeWires.calls k _ _ t529 _ _ t533 true _ ?side1 ?side2 ?side3 ?side4 A30.out).mono ?_); (case side1 => exact r8_ HO532.out); (case side2 => exact (Kd.R_reads' HO532.out).2.1); (case side3 => exact r8_ HO536.out); (case side4 => exact (Kd.R_reads' HO536.out).2.1); rintro e w' ⟨rfl, ⟨nd, rfl⟩⟩; obtain ⟨Ao44, co44, eo44⟩ := Kd.R_slice HO540.out; subst eo44; obtain ⟨Ao45, co45, eo45⟩ := Kd.R_slice HO544.out; subst eo45) | (go_at_call 67; (with_reducible refine (laws_likeWires.calls k _ _ t537 _ _ t541 true _ ?side1 ?side2 ?side3 ?side4 A33.out).mono ?_); (case side1 => exact r8_ HO540.out); (case side2 => exact (Kd.R_reads' HO540.out).2.1); (case side3 => exact r8_ HO544.out); (case side4 => exact (Kd.R_reads' HO544.out).2.1); rintro e w' ⟨rfl, ⟨nd, rfl⟩⟩; obtain ⟨Ao46, co46, eo46⟩ := Kd.R_slice HO548.out; subst eo46; obtain ⟨Ao47, co47, eo47⟩ := Kd.R_slice HO552.out; subst eo47) | (go_at_call 56; (with_reducible refine (laws_likeInts.calls k _ _ t545 _ _ t549 true _ ?side1 ?side2 ?side3 ?side4 A36.out).mono ?_); (case side1 => exact r8_ HO548.out); (case side2 => exact (Kd.R_reads' HO548.out).2.1); (case side3 => exact r8_ HO552.out); (case side4 => exact (Kd.R_reads' HO552.out).2.1); rintro e w' ⟨rfl, ⟨nd, rfl⟩⟩; obtain ⟨Ao48, co48, eo48⟩ := Kd.R_slice HO564.out; subst eo48; obtain ⟨Ao49, co49, eo49⟩ := Kd.R_slice HO568.out; subst eo49) | (go_at_call 56; (with_reducible refine (laws_likeInts.calls k _ _ t561 _ _ t565 true _ ?side1 ?side2 ?side3 ?side4 A39.out).mono ?_); (case side1 => exact r8_ HO564.out); (case side2 => exact (Kd.R_reads' HO564.out).2.1); (case side3 => exact r8_ HO568.out); (case side4 => exact (Kd.R_reads' HO568.out).2.1); rintro e w' ⟨rfl, ⟨nd, rfl⟩⟩) | (go_at_call 68; (with_reducible refine (impl_AreWires.calls k _ _ t521 t522 _ _ t523 t573 _ ?side1 ?side2 ?side3 ?side4 A41.out).mono ?_); (case side1 => exact r8_ HO526.out); (case side2 => exact (Kd.R_reads' HO526.out).2.1); (case side3 => exact r8_ HO528.out); (case side4 => exact (Kd.R_reads' HO528.out).2.1); rintro e w50 ⟨rfl, hb⟩; have n0_ := Aside0.mk (Kd.R_below (rk_ HO526.out) hb); have n1_ := Aside0.mk (Kd.R_below (rk_ HO528.out) hb); have n2_ := Aside0.mk (Kd.R_below (rk_ HO532.out) hb); have n3_ := Aside0.mk (Kd.R_below (rk_ HO536.out) hb); have n4_ := Aside0.mk (Kd.R_below (rk_ HO540.out) hb); have n5_ := Aside0.mk (Kd.R_below (rk_ HO544.out) hb); have n6_ := Aside0.mk (Kd.R_below (rk_ HO548.out) hb); have n7_ := Aside0.mk (Kd.R_below (rk_ HO552.out) hb); have n8_ := Aside0.mk (Kd.R_below (rk_ HO558.out) hb); have n9_ := Aside0.mk (Kd.R_below (rk_ HO560.out) hb); have n10_ := Aside0.mk (Kd.R_below (rk_ HO564.out) hb); have n11_ := Aside0.mk (Kd.R_below (rk_ HO568.out) hb); have n12_ := Aside0.mk (below_step (bl_ HB.out) hb); clear HO526; clear HO528; clear HO532; clear HO536; clear HO540; clear HO544; clear HO548; clear HO552; clear HO558; clear HO560; clear HO564; clear HO568; clear HB; have HO526 := n0_; have HO528 := n1_; have HO532 := n2_; have HO536 := n3_; have HO540 := n4_; have HO544 := n5_; have HO548 := n6_; have HO552 := n7_; have HO558 := n8_; have HO560 := n9_; have HO564 := n10_; have HO568 := n11_; have HB := n12_; clear n0_ n1_ n2_ n3_ n4_ n5_ n6_ n7_ n8_ n9_ n10_ n11_ n12_; (try clear hb); (try clear hb2); (try clear hk); (try clear hi)))
          go_meet
          case rel => exact ⟨_, ((t573 != (t550 == 0))), (by first | rfl | (simp; done) | (simp [*]; done)), H', ⟨by first | omega | exact Nat.le_refl _⟩, ⟨rk_ (Kd.R_mono HO526.out (fun _ hk => hk.2))⟩, ⟨rk_ (Kd.R_mono HO528.out (fun _ hk => ⟨hk.1.1.1.1.2, hk.2⟩))⟩, ⟨rk_ (Kd.R_mono HO532.out (fun _ hk => ⟨hk.1.1.1.1.2, hk.2⟩))⟩, ⟨rk_ (Kd.R_mono HO548.out (fun _ hk => hk.1.2))⟩, ⟨rk_ (Kd.R_mono HO558.out (fun _ hk => hk.2))⟩, ⟨rk_ (Kd.R_mono HO560.out (fun _ hk => ⟨hk.1.1.1.1.2, hk.1.1.1.2⟩))⟩, ⟨rk_ (Kd.R_mono HO564.out (fun _ hk => hk.1.1.2))⟩, ⟨bl_ HB.out⟩⟩
         ·replace c40 := Bool.eq_false_iff.mpr c40
          subst c40
          have H1 : (laws_FnWires.j0 k t521 t522 t523 t524 t529 t530 t545 t546 t553 t554 t555 t556 t561 t562 true) = some r := by rw [if_neg (show ¬ (false = true) by decide)] at H; exact H
          clear H
          have H := H1
          clear H1
          exact absurd ((laws_FnWires.j0_true H).trans hT) (by decide)
       ·replace c37 := Bool.eq_false_iff.mpr c37
        subst c37
        have H1 : (laws_FnWires.j0 k t521 t522 t523 t524 t529 t530 t545 t546 t553 t554 t555 t556 t561 t562 true) = some r := by rw [if_neg (show ¬ (false = true) by decide)] at H; exact H
        clear H
        have H := H1
        clear H1
        exact absurd ((laws_FnWires.j0_true H).trans hT) (by decide)
      ·replace c34 := Bool.eq_false_iff.mpr c34
       subst c34
       have H1 : (laws_FnWires.j0 k t521 t522 t523 t524 t529 t530 t545 t546 t553 t554 t555 t556 t561 t562 true) = some r := by rw [if_neg (show ¬ (false = true) by decide)] at H; exact H
       clear H
       have H := H1
       clear H1
       exact absurd ((laws_FnWires.j0_true H).trans hT) (by decide)
     ·replace c31 := Bool.eq_false_iff.mpr c31
      subst c31
      have H1 : (laws_FnWires.j0 k t521 t522 t523 t524 t529 t530 t545 t546 t553 t554 t555 t556 t561 t562 true) = some r := by rw [if_neg (show ¬ (false = true) by decide)] at H; exact H
      clear H
      have H := H1
      clear H1
      exact absurd ((laws_FnWires.j0_true H).trans hT) (by decide)
   case rest =>
    as_aux_lemma =>
     clear HC14
     try clear c1
     try clear c2
     try clear p2
     try clear c3
     try clear c4
     try clear c5
     try clear c6
     try clear c9
     try clear c12
     try clear c15
     try clear c29
     try clear c29b0
     try clear c29b1
     try clear c31
     try clear c32
     try clear c32b0
     try clear c32b1
     try clear c34
     try clear c35
     try clear c35b0
     try clear c35b1
     try clear c37
     try clear c38
     try clear c38b0
     try clear c38b1
     try clear c40
     try clear c47
     try clear c59
     try clear c60
     try clear c61
     try clear c62
     try clear c63
     try clear c64
     try clear c65
     try clear c66
     obtain ⟨kq, x160_13, rfl, HA, HJ13, HO_3, HO_5, HO_7, HO_15, HO_19, HO_21, HO_23, HB⟩ := hcut
     cases kq with
     | zero => exact absurd HA.out (by simp [laws_FnWires.j0])
     | succ kj13 =>
      have H := HA.out
      clear HA
      simp only [laws_FnWires.j0] at H
      by_cases c83 : x160_13 = true
      case pos =>
       subst c83
       have H1 : (some false) = some r := by rw [if_pos rfl] at H; exact H
       clear H
       have H := H1
       clear H1
       exact absurd ((Option.some.inj H).trans hT) (by decide)
      replace c83 := Bool.eq_false_iff.mpr c83
      subst c83
      have H1 : (if t546 = 0 then (laws_FnWires.j1 kj13 t521 t522 t523 t524 t529 t530 t545 t553 t554 t555 t556 t561 t562 ((wrap64 ((t545.length : Int) + (t523.length : Int))) != t522)) else (laws_FnWires.j1 kj13 t521 t522 t523 t524 t529 t530 t545 t553 t554 t555 t556 t561 t562 false)) = some r := by rw [if_neg (show ¬ (false = true) by decide)] at H; exact H
      clear H
      have H := H1
      clear H1
      have HC84 := Aside0.mk H
      clear H
      go_upto_region 15 with (fail)
      go_cut [171] (fun v171 wc => ∃ (kq : Nat) (x171_83 : Bool), v171 = .bool x171_83 ∧ Aside0 (laws_FnWires.j1 kq t521 t522 t523 t524 t529 t530 t545 t553 t554 t555 t556 t561 t562 x171_83 = some r) ∧ Aside0 (kq ≤ kj13) ∧ Aside0 (Kd.R k98 98 wc w.heap.size (fun k_ => some k_ ≠ ((.slice Ao25 t553.length co25) : Value).ownBlock) (.slice Ao16 t521.length co16) t521) ∧ Aside0 (Kd.R k103 103 wc w.heap.size (fun k_ => some k_ ≠ (v531 : Value).ownBlock ∧ some k_ ≠ ((.slice Ao26 t555.length co26) : Value).ownBlock) (.slice Ao17 t523.length co17) t523) ∧ Aside0 (Kd.R k103 103 wc w.heap.size (fun k_ => some k_ ≠ ((.slice Ao17 t523.length co17) : Value).ownBlock ∧ some k_ ≠ ((.slice Ao26 t555.length co26) : Value).ownBlock) v531 t529) ∧ Aside0 (Kd.R (Kd.int .i64) 2 wc w.heap.size (fun k_ => some k_ ≠ (v563 : Value).ownBlock) v547 t545) ∧ Aside0 (Kd.R k98 98 wc w.heap.size (fun k_ => some k_ ≠ ((.slice Ao16 t521.length co16) : Value).ownBlock) (.slice Ao25 t553.length co25) t553) ∧ Aside0 (Kd.R k103 103 wc w.heap.size (fun k_ => some k_ ≠ ((.slice Ao17 t523.length co17) : Value).ownBlock ∧ some k_ ≠ (v531 : Value).ownBlock) (.slice Ao26 t555.length co26) t555) ∧ Aside0 (Kd.R (Kd.int .i64) 2 wc w.heap.size (fun k_ => some k_ ≠ (v547 : Value).ownBlock) v563 t561) ∧ Aside0 (Below w.heap.size w wc))
      case first =>
       have H := HC84.out
       clear HC84
       by_cases c85 : t546 = 0
       ·rw [if_pos c85] at H
        have c85b0 : (t546 == 0) = true := beq_iff_eq.mpr c85
        have c85b1 : (t546 != 0) = false := bne_eq_false_iff_eq.mpr c85
        clear c85
        (first | rw [c85b0] | (simp only [i64_w, i32_w]; rw [c85b0]) | skip)
        have H' := Aside0.mk H
        clear H
        obtain ⟨Ao86, co86, eo86⟩ := Kd.R_slice HO_15.out
        subst eo86
        go_wp2
        go_meet
        case rel => exact ⟨_, (((wrap64 ((t545.length : Int) + (t523.length : Int))) != t522)), (by first | rfl | (simp; done) | (simp [*]; done)), H', ⟨by have := HJ13.out; first | omega | exact Nat.le_refl _⟩, ⟨rk_ HO_3.out⟩, ⟨rk_ HO_5.out⟩, ⟨rk_ HO_7.out⟩, ⟨rk_ HO_15.out⟩, ⟨rk_ HO_19.out⟩, ⟨rk_ HO_21.out⟩, ⟨rk_ HO_23.out⟩, ⟨bl_ HB.out⟩⟩
       ·rw [if_neg c85] at H
        have c85b0 : (t546 == 0) = false := beq_eq_false_iff_ne.mpr c85
        have c85b1 : (t546 != 0) = true := bne_iff_ne.mpr c85
        (first | rw [c85b0] | (simp only [i64_w, i32_w]; rw [c85b0]) | skip)
        have H' := Aside0.mk H
        clear H
        go_wp2
        go_meet
        case rel => exact ⟨_, (false), (by first | rfl | (simp; done) | (simp [*]; done)), H', ⟨by have := HJ13.out; first | omega | exact Nat.le_refl _⟩, ⟨rk_ HO_3.out⟩, ⟨rk_ HO_5.out⟩, ⟨rk_ HO_7.out⟩, ⟨rk_ HO_15.out⟩, ⟨rk_ HO_19.out⟩, ⟨rk_ HO_21.out⟩, ⟨rk_ HO_23.out⟩, ⟨bl_ HB.out⟩⟩
      case rest =>
       as_aux_lemma =>
        clear HC84
        try clear c1
        try clear c2
        try clear p2
        try clear c3
        try clear c4
        try clear c5
        try clear c6
        try clear p6
        try clear c8
        try clear c9
        try clear c12
        try clear c15
        try clear c29
        try clear c29b0
        try clear c29b1
        try clear c31
        try clear c32
        try clear c32b0
        try clear c32b1
        try clear c34
        try clear c35
        try clear c35b0
        try clear c35b1
        try clear c37
        try clear c38
        try clear c38b0
        try clear c38b1
        try clear c40
        try clear c47
        try clear c59
        try clear c60
        try clear c61
        try clear c62
        try clear c63
        try clear c64
        try clear p64
        try clear c65
        try clear c66
        try clear c83
        try clear c85
        try clear c85b0
        try clear c85b1
        try clear p2
        obtain ⟨kq, x171_83, rfl, HA, HJ83, HO_3, HO_5, HO_7, HO_15, HO_19, HO_21, HO_23, HB⟩ := hcut
        cases kq with
        | zero => exact absurd HA.out (by simp [laws_FnWires.j1])
        | succ kj83 =>
         have H := HA.out
         clear HA
         simp only [laws_FnWires.j1] at H
         by_cases c87 : x171_83 = true
         case pos =>
          subst c87
          have H1 : (some false) = some r := by rw [if_pos rfl] at H; exact H
          clear H
          have H := H1
          clear H1
          exact absurd ((Option.some.inj H).trans hT) (by decide)
         replace c87 := Bool.eq_false_iff.mpr c87
         subst c87
         have H1 : (laws_FnWires.l0 kj83 t521 t522 t523 t524 t529 t530 t545 t553 t554 t555 t556 t561 t562 0) = some r := by rw [if_neg (show ¬ (false = true) by decide)] at H; exact H
         clear H
         have H := H1
         clear H1
         have H' := Aside0.mk H
         clear H
         go_wp2
         go_loopg [27] kj83 (fun kq v27 w' => ∃ (x27_3 : Int), v27 = .int .i64 x27_3 ∧ Aside0 (laws_FnWires.l0 kq t521 t522 t523 t524 t529 t530 t545 t553 t554 t555 t556 t561 t562 x27_3 = some r) ∧ Aside0 (kq ≤ kj83) ∧ Aside0 (Kd.R k98 98 w' w.heap.size (fun k_ => some k_ ≠ ((.slice Ao25 t553.length co25) : Value).ownBlock) (.slice Ao16 t521.length co16) t521) ∧ Aside0 (Kd.R k103 103 w' w.heap.size (fun k_ => some k_ ≠ (v531 : Value).ownBlock ∧ some k_ ≠ ((.slice Ao26 t555.length co26) : Value).ownBlock) (.slice Ao17 t523.length co17) t523) ∧ Aside0 (Kd.R k103 103 w' w.heap.size (fun k_ => some k_ ≠ ((.slice Ao17 t523.length co17) : Value).ownBlock ∧ some k_ ≠ ((.slice Ao26 t555.length co26) : Value).ownBlock) v531 t529) ∧ Aside0 (Kd.R (Kd.int .i64) 2 w' w.heap.size (fun k_ => some k_ ≠ (v563 : Value).ownBlock) v547 t545) ∧ Aside0 (Kd.R k98 98 w' w.heap.size (fun k_ => some k_ ≠ ((.slice Ao16 t521.length co16) : Value).ownBlock) (.slice Ao25 t553.length co25) t553) ∧ Aside0 (Kd.R k103 103 w' w.heap.size (fun k_ => some k_ ≠ ((.slice Ao17 t523.length co17) : Value).ownBlock ∧ some k_ ≠ (v531 : Value).ownBlock) (.slice Ao26 t555.length co26) t555) ∧ Aside0 (Kd.R (Kd.int .i64) 2 w' w.heap.size (fun k_ => some k_ ≠ (v547 : Value).ownBlock) v563 t561) ∧ Aside0 (Below w.heap.size w w'))
         case atStart => exact ⟨(0), (by first | rfl | (simp; done) | (simp [*]; done)), H', ⟨Nat.le_refl _⟩, ⟨rk_ HO_3.out⟩, ⟨rk_ HO_5.out⟩, ⟨rk_ HO_7.out⟩, ⟨rk_ HO_15.out⟩, ⟨rk_ HO_19.out⟩, ⟨rk_ HO_21.out⟩, ⟨rk_ HO_23.out⟩, ⟨bl_ HB.out⟩⟩
         case round =>
          clear H'
          try clear c1
          try clear c2
          try clear p2
          try clear c3
          try clear c4
          try clear c5
          try clear c6
          try clear p6
          try clear c8
          try clear c9
          try clear c12
          try clear c15
          try clear c29
          try clear c29b0
          try clear c29b1
          try clear c31
          try clear c32
          try clear c32b0
          try clear c32b1
          try clear c34
          try clear c35
          try clear c35b0
          try clear c35b1
          try clear c37
          try clear c38
          try clear c38b0
          try clear c38b1
          try clear c40
          try clear c47
          try clear c59
          try clear c60
          try clear c61
          try clear c62
          try clear c63
          try clear c64
          try clear p64
          try clear c65
          try clear c66
          try clear c83
          try clear c85
          try clear c85b0
          try clear c85b1
          try clear c87
          try clear p2
          try clear p6
          try clear p64
          obtain ⟨x27_3, rfl, HA, HK3, HO_3, HO_5, HO_7, HO_15, HO_19, HO_21, HO_23, HB⟩ := hrel
          cases gk with
          | zero => exact absurd HA.out (by simp [laws_FnWires.l0])
          | succ k3 =>
           have H := HA.out
           clear HA
           simp only [laws_FnWires.l0] at H
           have HC88 := Aside0.mk H
           clear H
           go_upto_region 18 with (fail)
           go_cut [179] (fun v179 wc => ∃ (kq : Nat) (x179_87 : Bool), v179 = .bool x179_87 ∧ Aside0 (laws_FnWires.j3 kq t521 t522 t523 t524 t529 t530 t545 t553 t554 t555 t556 t561 t562 x27_3 x179_87 = some r) ∧ Aside0 (kq ≤ k3) ∧ Aside0 (Kd.R k98 98 wc w.heap.size (fun k_ => some k_ ≠ ((.slice Ao25 t553.length co25) : Value).ownBlock) (.slice Ao16 t521.length co16) t521) ∧ Aside0 (Kd.R k103 103 wc w.heap.size (fun k_ => some k_ ≠ (v531 : Value).ownBlock ∧ some k_ ≠ ((.slice Ao26 t555.length co26) : Value).ownBlock) (.slice Ao17 t523.length co17) t523) ∧ Aside0 (Kd.R k103 103 wc w.heap.size (fun k_ => some k_ ≠ ((.slice Ao17 t523.length co17) : Value).ownBlock ∧ some k_ ≠ ((.slice Ao26 t555.length co26) : Value).ownBlock) v531 t529) ∧ Aside0 (Kd.R (Kd.int .i64) 2 wc w.heap.size (fun k_ => some k_ ≠ (v563 : Value).ownBlock) v547 t545) ∧ Aside0 (Kd.R k98 98 wc w.heap.size (fun k_ => some k_ ≠ ((.slice Ao16 t521.length co16) : Value).ownBlock) (.slice Ao25 t553.length co25) t553) ∧ Aside0 (Kd.R k103 103 wc w.heap.size (fun k_ => some k_ ≠ ((.slice Ao17 t523.length co17) : Value).ownBlock ∧ some k_ ≠ (v531 : Value).ownBlock) (.slice Ao26 t555.length co26) t555) ∧ Aside0 (Kd.R (Kd.int .i64) 2 wc w.heap.size (fun k_ => some k_ ≠ (v547 : Value).ownBlock) v563 t561) ∧ Aside0 (Below w.heap.size w wc))
           case first =>
            have H := HC88.out
            clear HC88
            by_cases c89 : t562 = 0
            ·rw [if_pos c89] at H
             have c89b0 : (t562 == 0) = true := beq_iff_eq.mpr c89
             have c89b1 : (t562 != 0) = false := bne_eq_false_iff_eq.mpr c89
             clear c89
             (first | rw [c89b0] | (simp only [i64_w, i32_w]; rw [c89b0]) | skip)
             have H' := Aside0.mk H
             clear H
             obtain ⟨Ao90, co90, eo90⟩ := Kd.R_slice HO_23.out
             subst eo90
             go_wp2
             go_meet
             case rel => exact ⟨_, (decide (x27_3 < (t561.length : Int))), (by first | rfl | (simp; done) | (simp [*]; done)), H', ⟨by have := HJ13.out; have := HJ83.out; have := HK3.out; first | omega | exact Nat.le_refl _⟩, ⟨rk_ HO_3.out⟩, ⟨rk_ HO_5.out⟩, ⟨rk_ HO_7.out⟩, ⟨rk_ HO_15.out⟩, ⟨rk_ HO_19.out⟩, ⟨rk_ HO_21.out⟩, ⟨rk_ HO_23.out⟩, ⟨bl_ HB.out⟩⟩
            ·rw [if_neg c89] at H
             have c89b0 : (t562 == 0) = false := beq_eq_false_iff_ne.mpr c89
             have c89b1 : (t562 != 0) = true := bne_iff_ne.mpr c89
             (first | rw [c89b0] | (simp only [i64_w, i32_w]; rw [c89b0]) | skip)
             have H' := Aside0.mk H
             clear H
             go_wp2
             go_meet
             case rel => exact ⟨_, (false), (by first | rfl | (simp; done) | (simp [*]; done)), H', ⟨by have := HJ13.out; have := HJ83.out; have := HK3.out; first | omega | exact Nat.le_refl _⟩, ⟨rk_ HO_3.out⟩, ⟨rk_ HO_5.out⟩, ⟨rk_ HO_7.out⟩, ⟨rk_ HO_15.out⟩, ⟨rk_ HO_19.out⟩, ⟨rk_ HO_21.out⟩, ⟨rk_ HO_23.out⟩, ⟨bl_ HB.out⟩⟩
           case rest =>
            as_aux_lemma =>
             clear HC88
             try clear c1
             try clear c2
             try clear p2
             try clear c3
             try clear c4
             try clear c5
             try clear c6
             try clear p6
             try clear c8
             try clear c9
             try clear c12
             try clear c15
             try clear c29
             try clear c29b0
             try clear c29b1
             try clear c31
             try clear c32
             try clear c32b0
             try clear c32b1
             try clear c34
             try clear c35
             try clear c35b0
             try clear c35b1
             try clear c37
             try clear c38
             try clear c38b0
             try clear c38b1
             try clear c40
             try clear c47
             try clear c59
             try clear c60
             try clear c61
             try clear c62
             try clear c63
             try clear c64
             try clear p64
             try clear c65
             try clear c66
             try clear c83
             try clear c85
             try clear c85b0
             try clear c85b1
             try clear c87
             try clear c89
             try clear c89b0
             try clear c89b1
             try clear p2
             try clear p6
             try clear p64
             obtain ⟨kq, x179_87, rfl, HA, HJ87, HO_3, HO_5, HO_7, HO_15, HO_19, HO_21, HO_23, HB⟩ := hcut
             cases kq with
             | zero => exact absurd HA.out (by simp [laws_FnWires.j3])
             | succ kj87 =>
              have H := HA.out
              clear HA
              simp only [laws_FnWires.j3] at H
              by_cases c91 : x179_87 = true
              ·as_aux_lemma =>
                subst c91
                have H1 : (if 0 ≤ x27_3 then (if x27_3 < (t561.length : Int) then ((impl_CueAt.f kj87 t553 t554 t555 t556 (rd t561 x27_3)).bind fun bt575 => (if bt575.2 = 4 then (laws_FnWires.l0 kj87 t521 t522 t523 t524 t529 t530 t545 t553 t554 t555 t556 t561 t562 (wrap64 (x27_3 + 1))) else (some false))) else (none)) else (none)) = some r := by rw [if_pos rfl] at H; exact H
                clear H
                have H := H1
                clear H1
                by_cases c92 : 0 ≤ x27_3
                case neg =>
                 rw [if_neg c92] at H
                 exact absurd H (by simp)
                rw [if_pos c92] at H
                have c92b0 : decide (0 ≤ x27_3) = true := decide_eq_true c92
                clear c92
                by_cases c93 : x27_3 < (t561.length : Int)
                case neg =>
                 rw [if_neg c93] at H
                 exact absurd H (by simp)
                rw [if_pos c93] at H
                have c93b0 : decide (x27_3 < (t561.length : Int)) = true := decide_eq_true c93
                clear c93
                replace H := Option.bind_eq_some_iff.mp H
                obtain ⟨⟨t575, t576⟩, A940, H⟩ := H
                replace H : (if t576 = 4 then (laws_FnWires.l0 kj87 t521 t522 t523 t524 t529 t530 t545 t553 t554 t555 t556 t561 t562 (wrap64 (x27_3 + 1))) else (some false)) = some r := H
                have A94 := Aside0.mk A940
                clear A940
                by_cases c95 : t576 = 4
                case neg =>
                 rw [if_neg c95] at H
                 have c95b0 : (t576 == 4) = false := beq_eq_false_iff_ne.mpr c95
                 have c95b1 : (t576 != 4) = true := bne_iff_ne.mpr c95
                 exact absurd ((Option.some.inj H).trans hT) (by decide)
                rw [if_pos c95] at H
                have c95b0 : (t576 == 4) = true := beq_iff_eq.mpr c95
                have c95b1 : (t576 != 4) = false := bne_eq_false_iff_eq.mpr c95
                clear c95
                have H' := Aside0.mk H
                clear H
                obtain ⟨Ao96, co96, eo96⟩ := Kd.R_slice HO_23.out
                subst eo96
                have p574 : 0 ≤ (x27_3 : Int) := od_
                have q574 : x27_3 < (t561.length : Int) := od_
                obtain ⟨ad574, e574, hx574_0⟩ := Kd.at_int (Kd.R_reads' HO_23.out).2.2 x27_3 p574 q574
                cases e574
                replace p574 := eq_true p574
                replace q574 := eq_true q574
                go_wp2_with (first | ((with_reducible refine gate_callee (f := 69) rfl ?_); refine goesL_ (some 191) rfl rfl Try.func69 (by kernel_rfl) rfl #[.slice Ao25 t553.length co25, .int .i64 t554, .slice Ao26 t555.length co26, .int .i64 t556, .int .i64 (rd t561 x27_3)] rfl ag_ ?_; (with_reducible refine (impl_CueAt.calls kj87 _ _ t553 t554 _ _ t555 t556 (rd t561 x27_3) t575 t576 _ ?side1 ?side2 ?side3 ?side4 A94.out).mono ?_); (case side1 => exact r8_ HO_19.out); (case side2 => exact (Kd.R_reads' HO_19.out).2.1); (case side3 => exact r8_ HO_21.out); (case side4 => exact (Kd.R_reads' HO_21.out).2.1); rintro e w97 ⟨rfl, hb⟩; refine ⟨_, rfl, ?_⟩; have n0_ := Aside0.mk (Kd.R_below (rk_ HO_3.out) hb); have n1_ := Aside0.mk (Kd.R_below (rk_ HO_5.out) hb); have n2_ := Aside0.mk (Kd.R_below (rk_ HO_7.out) hb); have n3_ := Aside0.mk (Kd.R_below (rk_ HO_15.out) hb); have n4_ := Aside0.mk (Kd.R_below (rk_ HO_19.out) hb); have n5_ := Aside0.mk (Kd.R_below (rk_ HO_21.out) hb); have n6_ := Aside0.mk (Kd.R_below (rk_ HO_23.out) hb); have n7_ := Aside0.mk (below_step (bl_ HB.out) hb); clear HO_3; clear HO_5; clear HO_7; clear HO_15; clear HO_19; clear HO_21; clear HO_23; clear HB; have HO_3 := n0_; have HO_5 := n1_; have HO_7 := n2_; have HO_15 := n3_; have HO_19 := n4_; have HO_21 := n5_; have HO_23 := n6_; have HB := n7_; clear n0_ n1_ n2_ n3_ n4_ n5_ n6_ n7_; (try clear hb); (try clear hb2); (try clear hk); (try clear hi)))
                go_roundg kj87
                case measure => have := HJ13.out; have := HJ83.out; have := HK3.out; have := HJ87.out; omega
                case rel => exact ⟨(wrap64 (x27_3 + 1)), (by first | rfl | (simp; done) | (simp [*]; done)), H', ⟨by have := HJ13.out; have := HJ83.out; have := HK3.out; have := HJ87.out; omega⟩, ⟨rk_ HO_3.out⟩, ⟨rk_ HO_5.out⟩, ⟨rk_ HO_7.out⟩, ⟨rk_ HO_15.out⟩, ⟨rk_ HO_19.out⟩, ⟨rk_ HO_21.out⟩, ⟨rk_ HO_23.out⟩, ⟨bl_ HB.out⟩⟩
              ·as_aux_lemma =>
                replace c91 := Bool.eq_false_iff.mpr c91
                subst c91
                have H1 : (if t530 = 0 then ((impl_CutWire.f kj87 t521 t522 t529 t524).bind fun bt577 => (if bt577.2 = 0 then ((laws_likeWires.f kj87 bt577.1 t523).bind fun t581 => (if t581 = true then ((impl_AreWires.f kj87 t521 t522 t529).bind fun t582 => (if t582 = true then ((laws_hasInt.f kj87 t545 t524).bind fun t583 => (some t583)) else (some false))) else (some false))) else (some false))) else (some true)) = some r := by rw [if_neg (show ¬ (false = true) by decide)] at H; exact H
                clear H
                have H := H1
                clear H1
                by_cases c100 : t530 = 0
                ·rw [if_pos c100] at H
                 have c100b0 : (t530 == 0) = true := beq_iff_eq.mpr c100
                 have c100b1 : (t530 != 0) = false := bne_eq_false_iff_eq.mpr c100
                 clear c100
                 replace H := Option.bind_eq_some_iff.mp H
                 obtain ⟨⟨t577, t578⟩, A1010, H⟩ := H
                 replace H : (if t578 = 0 then ((laws_likeWires.f kj87 t577 t523).bind fun t581 => (if t581 = true then ((impl_AreWires.f kj87 t521 t522 t529).bind fun t582 => (if t582 = true then ((laws_hasInt.f kj87 t545 t524).bind fun t583 => (some t583)) else (some false))) else (some false))) else (some false)) = some r := H
                 have A101 := Aside0.mk A1010
                 clear A1010
                 by_cases c102 : t578 = 0
                 case neg =>
                  rw [if_neg c102] at H
                  have c102b0 : (t578 == 0) = false := beq_eq_false_iff_ne.mpr c102
                  have c102b1 : (t578 != 0) = true := bne_iff_ne.mpr c102
                  exact absurd ((Option.some.inj H).trans hT) (by decide)
                 rw [if_pos c102] at H
                 have c102b0 : (t578 == 0) = true := beq_iff_eq.mpr c102
                 have c102b1 : (t578 != 0) = false := bne_eq_false_iff_eq.mpr c102
                 clear c102
                 replace H := Option.bind_eq_some_iff.mp H
                 obtain ⟨t581, A1030, H⟩ := H
                 replace H : (if t581 = true then ((impl_AreWires.f kj87 t521 t522 t529).bind fun t582 => (if t582 = true then ((laws_hasInt.f kj87 t545 t524).bind fun t583 => (some t583)) else (some false))) else (some false)) = some r := H
                 have A103 := Aside0.mk A1030
                 clear A1030
                 by_cases c104 : t581 = true
                 ·subst c104
                  have H1 : ((impl_AreWires.f kj87 t521 t522 t529).bind fun t582 => (if t582 = true then ((laws_hasInt.f kj87 t545 t524).bind fun t583 => (some t583)) else (some false))) = some r := by rw [if_pos rfl] at H; exact H
                  clear H
                  have H := H1
                  clear H1
                  replace H := Option.bind_eq_some_iff.mp H
                  obtain ⟨t582, A1050, H⟩ := H
                  replace H : (if t582 = true then ((laws_hasInt.f kj87 t545 t524).bind fun t583 => (some t583)) else (some false)) = some r := H
                  have A105 := Aside0.mk A1050
                  clear A1050
                  by_cases c106 : t582 = true
                  ·subst c106
                   have H1 : ((laws_hasInt.f kj87 t545 t524).bind fun t583 => (some t583)) = some r := by rw [if_pos rfl] at H; exact H
                   clear H
                   have H := H1
                   clear H1
                   replace H := Option.bind_eq_some_iff.mp H
                   obtain ⟨t583, A1070, H⟩ := H
                   replace H : (some t583) = some r := H
                   have A107 := Aside0.mk A1070
                   clear A1070
                   obtain rfl := Option.some.inj H
                   obtain ⟨Ao108, co108, eo108⟩ := Kd.R_slice HO_7.out
                   subst eo108
                   go_wp2_with (first | ((with_reducible refine gate_callee (f := 60) rfl ?_); refine goesL_ (some 203) rfl rfl Try.func60 (by kernel_rfl) rfl #[.slice Ao16 t521.length co16, .int .i64 t522, .slice Ao108 t529.length co108, .int .i64 t524] rfl ag_ ?_; (with_reducible refine (impl_CutWire.calls kj87 _ _ t521 t522 _ _ t529 t524 t577 t578 _ ?side1 ?side2 ?side3 ?side4 A101.out).mono ?_); (case side1 => exact r8_ HO_3.out); (case side2 => exact (Kd.R_reads' HO_3.out).2.1); (case side3 => exact r8_ HO_7.out); (case side4 => exact (Kd.R_reads' HO_7.out).2.1); rintro e w109 ⟨v579, rfl, ho0, hb⟩; refine ⟨_, rfl, ?_⟩; have n0_ := Aside0.mk (Kd.R_below (rk_ HO_3.out) hb); have n1_ := Aside0.mk (Kd.R_elder' (rk_ HO_5.out) (Kd.R_base ho0) hb); have n2_ := Aside0.mk (Kd.R_elder' (rk_ HO_7.out) (Kd.R_base ho0) hb); have n3_ := Aside0.mk (Kd.R_below (rk_ HO_15.out) hb); have n4_ := Aside0.mk (Kd.R_below (rk_ HO_19.out) hb); have n5_ := Aside0.mk (Kd.R_elder' (rk_ HO_21.out) (Kd.R_base ho0) hb); have n6_ := Aside0.mk (Kd.R_below (rk_ HO_23.out) hb); have n7_ := Aside0.mk (Kd.R_lower (Kd.R_new' (Kd.R_new' (Kd.R_new' ho0 (Kd.R_lt (rk_ HO_5.out))) (Kd.R_lt (rk_ HO_7.out))) (Kd.R_lt (rk_ HO_21.out))) (below_size (bl_ HB.out))); have n8_ := Aside0.mk (below_step (bl_ HB.out) hb); clear HO_3; clear HO_5; clear HO_7; clear HO_15; clear HO_19; clear HO_21; clear HO_23; clear HB; have HO_3 := n0_; have HO_5 := n1_; have HO_7 := n2_; have HO_15 := n3_; have HO_19 := n4_; have HO_21 := n5_; have HO_23 := n6_; have HO580 := n7_; have HB := n8_; clear n0_ n1_ n2_ n3_ n4_ n5_ n6_ n7_ n8_; (try clear hb); (try clear hb2); (try clear hk); (try clear hi); (try clear ho0); obtain ⟨Ao110, co110, eo110⟩ := Kd.R_slice HO580.out; subst eo110) | (go_at_call 67; (with_reducible refine (laws_likeWires.calls kj87 _ _ t577 _ _ t523 true _ ?side1 ?side2 ?side3 ?side4 A103.out).mono ?_); (case side1 => exact r8_ HO580.out); (case side2 => exact (Kd.R_reads' HO580.out).2.1); (case side3 => exact r8_ HO_5.out); (case side4 => exact (Kd.R_reads' HO_5.out).2.1); rintro e w' ⟨rfl, ⟨nd, rfl⟩⟩) | (go_at_call 68; (with_reducible refine (impl_AreWires.calls kj87 _ _ t521 t522 _ _ t529 true _ ?side1 ?side2 ?side3 ?side4 A105.out).mono ?_); (case side1 => exact r8_ HO_3.out); (case side2 => exact (Kd.R_reads' HO_3.out).2.1); (case side3 => exact r8_ HO_7.out); (case side4 => exact (Kd.R_reads' HO_7.out).2.1); rintro e w111 ⟨rfl, hb⟩; have n0_ := Aside0.mk (Kd.R_below (rk_ HO_3.out) hb); have n1_ := Aside0.mk (Kd.R_below (rk_ HO_5.out) hb); have n2_ := Aside0.mk (Kd.R_below (rk_ HO_7.out) hb); have n3_ := Aside0.mk (Kd.R_below (rk_ HO_15.out) hb); have n4_ := Aside0.mk (Kd.R_below (rk_ HO_19.out) hb); have n5_ := Aside0.mk (Kd.R_below (rk_ HO_21.out) hb); have n6_ := Aside0.mk (Kd.R_below (rk_ HO_23.out) hb); have n7_ := Aside0.mk (Kd.R_below (rk_ HO580.out) hb); have n8_ := Aside0.mk (below_step (bl_ HB.out) hb); clear HO_3; clear HO_5; clear HO_7; clear HO_15; clear HO_19; clear HO_21; clear HO_23; clear HO580; clear HB; have HO_3 := n0_; have HO_5 := n1_; have HO_7 := n2_; have HO_15 := n3_; have HO_19 := n4_; have HO_21 := n5_; have HO_23 := n6_; have HO580 := n7_; have HB := n8_; clear n0_ n1_ n2_ n3_ n4_ n5_ n6_ n7_ n8_; (try clear hb); (try clear hb2); (try clear hk); (try clear hi); obtain ⟨Ao112, co112, eo112⟩ := Kd.R_slice HO_15.out; subst eo112) | (go_at_call 58; (with_reducible refine (laws_hasInt.calls kj87 _ _ t545 t524 t583 _ ?side1 ?side2 A107.out).mono ?_); (case side1 => exact r8_ HO_15.out); (case side2 => exact (Kd.R_reads' HO_15.out).2.1); rintro e w' ⟨rfl, ⟨nd, rfl⟩⟩))
                   go_ret
                   exact ⟨by first | rfl | (simp [errW_none, errW_some] <;> rfl) | (simp [*, errW_none, errW_some] <;> rfl), bl_ HB.out⟩
                  ·replace c106 := Bool.eq_false_iff.mpr c106
                   subst c106
                   have H1 : (some false) = some r := by rw [if_neg (show ¬ (false = true) by decide)] at H; exact H
                   clear H
                   have H := H1
                   clear H1
                   exact absurd ((Option.some.inj H).trans hT) (by decide)
                 ·replace c104 := Bool.eq_false_iff.mpr c104
                  subst c104
                  have H1 : (some false) = some r := by rw [if_neg (show ¬ (false = true) by decide)] at H; exact H
                  clear H
                  have H := H1
                  clear H1
                  exact absurd ((Option.some.inj H).trans hT) (by decide)
                ·rw [if_neg c100] at H
                 have c100b0 : (t530 == 0) = false := beq_eq_false_iff_ne.mpr c100
                 have c100b1 : (t530 != 0) = true := bne_iff_ne.mpr c100
                 obtain rfl := Option.some.inj H
                 go_wp2
                 go_ret
                 exact ⟨by first | rfl | (simp [errW_none, errW_some] <;> rfl) | (simp [*, errW_none, errW_some] <;> rfl), bl_ HB.out⟩
/-- THE ONE PURE STATEMENT of laws_FnWires: yours. -/
def laws_FnWires.Pure : Prop := ∀ (l0 : List Int), l0.length ≤ maxLen → l0.length * 1 ≤ 140737488351232 → (∀ x ∈ l0, (Lit.int .u8 x).wf = true) → ∃ k, laws_FnWires.f k l0 = some true
theorem laws_FnWires.walk (P : laws_FnWires.Pure) (a0 : Option Addr) (len0 cap0 : Nat) (z0 : List Int) (w : World) (w0 : (a0 = none ∧ len0 = 0 ∧ cap0 = 0 ∧ z0 = []) ∨ ∃ x, a0 = some x ∧ len0 ≤ cap0 ∧ cap0 ≤ maxLen ∧ z0.length = cap0 ∧ (∀ i, i < z0.length → w.cell? (x.add i) = some (.int .u8 (z0.getD i 0))) ∧ ∀ n ∈ z0, (Lit.int .u8 n).wf = true) (y0 : len0 * 1 ≤ 140737488351232) :
  Calls Try.prog 9 #[.slice a0 len0 cap0] w fun e w' => e = .returned (.bool true) ∧ Below w.heap.size w w' := by
 obtain ⟨l0, rfl, hr0, hm0, hw0, hc0⟩ := ReadsInt.ofRowC w0
 obtain ⟨k, h⟩ := P l0 hm0 y0 hw0
 refine (laws_FnWires.calls k _ _ l0 true w (Kd.C_of_reads (d := (0 : Int)) (h1 := fun _ => rfl) hr0) hc0 h rfl).mono ?_
 rintro e w' ⟨rfl, hd⟩
 exact ⟨rfl, hd⟩
end Go.Proofs.Ytalcbcelalbhiaa.PFnWires
