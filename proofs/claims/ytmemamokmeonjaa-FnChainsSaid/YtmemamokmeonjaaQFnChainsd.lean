/- Functions that FnChains reaches, with their walks: taken and turned by a program of this session out of the print's text. No condition but what each contract says. -/
import Derived.Test.YtmemamokmeonjaaPFnChainsx0
import Derived.Test.YtmemamokmeonjaaQFnChainsa
import Derived.Test.YtmemamokmeonjaaQFnChainsc
namespace Go.Proofs.Ytmemamokmeonjaa.PFnChains
open Go.RowKit Go.Proofs.YtmemamokmeonjaaW.PrintWords Go.Proofs.YtmemamokmeonjaaW.PrintLast Go.Proofs.YtmemamokmeonjaaW.PrintMore
attribute [local go_sem] max2_int min2_int max_two min_two max_three min_three max_four min_four   -- for this text's walks alone
set_option linter.unusedVariables false
set_option linter.unusedSimpArgs false

section
attribute [local go_sem high] eqA176
/-! ### laws_likeRows: function 81 -/
def laws_likeRows.l0 : Nat → List (List Int) → List (List Int) → Int → Option (Bool)
  | 0, _, _, _ => none
  | k + 1, x0, x1, x5 => if x5 < (x0.length : Int) then (if 0 ≤ x5 then (if x5 < (x1.length : Int) then ((laws_likeInts.f k (rd_L3 x0 x5) (rd_L3 x1 x5)).bind fun t264 => (if t264 = true then (laws_likeRows.l0 k x0 x1 (wrap64 (x5 + 1))) else (some false))) else (none)) else (none)) else (some true)
def laws_likeRows.f (k : Nat) (l0 : List (List Int)) (l1 : List (List Int)) : Option (Bool) := if (l0.length : Int) = (l1.length : Int) then (laws_likeRows.l0 k l0 l1 0) else (some false)
theorem laws_likeRows.mono_l : ∀ k, (∀ y0 y1 y2, LeO (laws_likeRows.l0 k y0 y1 y2) (laws_likeRows.l0 (k + 1) y0 y1 y2))
  | 0 => fun _ _ _ r h => by simp [laws_likeRows.l0] at h
  | k + 1 => by
    have ih0 := laws_likeRows.mono_l k
    · intro y0 y1 y2
      unfold laws_likeRows.l0
      repeat' first
      | (with_reducible exact ih0 _ _ _)
      | (with_reducible exact laws_likeInts.mono _ _ _)
      | (with_reducible exact LeO.refl _)
      | (with_reducible exact LeO.none _)
      | (with_reducible refine LeO.ite ?_ ?_)
      | (with_reducible refine LeO.bind ?_ (fun _ => ?_))
      | exact ih0 _ _ _
      | exact laws_likeInts.mono _ _ _
      | exact LeO.none _
      | refine LeO.ite ?_ ?_
      | refine LeO.bind ?_ (fun _ => ?_)
theorem laws_likeRows.mono : ∀ a0 a1 k, LeO (laws_likeRows.f k a0 a1) (laws_likeRows.f (k + 1) a0 a1) := by
  intro a0 a1 k
  have ih0 := laws_likeRows.mono_l k
  unfold laws_likeRows.f
  repeat' first
      | (with_reducible exact ih0 _ _ _)
      | (with_reducible exact laws_likeInts.mono _ _ _)
      | (with_reducible exact LeO.refl _)
      | (with_reducible exact LeO.none _)
      | (with_reducible refine LeO.ite ?_ ?_)
      | (with_reducible refine LeO.bind ?_ (fun _ => ?_))
      | exact ih0 _ _ _
      | exact laws_likeInts.mono _ _ _
      | exact LeO.none _
      | refine LeO.ite ?_ ?_
      | refine LeO.bind ?_ (fun _ => ?_)
set_option maxHeartbeats 8000000 in
set_option maxRecDepth 100000 in
theorem laws_likeRows.calls (k : Nat) (A0 : Option Addr) (c0 : Nat) (l0 : List (List Int)) (A1 : Option Addr) (c1 : Nat) (l1 : List (List Int)) (r : Bool) (w : World) (hr0 : Kd.C (Kd.slice 2 (Kd.int .i64)) w A0 l0.length l0) (hc0 : l0.length ≤ c0) (hr1 : Kd.C (Kd.slice 2 (Kd.int .i64)) w A1 l1.length l1) (hc1 : l1.length ≤ c1) (h : laws_likeRows.f k l0 l1 = some r) :
    Calls Try.prog 81 #[.slice A0 l0.length c0, .slice A1 l1.length c1] w fun e w' => e = .returned (.bool r) ∧ Drawn0 w w' := by
  have HR0 := Aside0.mk hr0
  have HC0 := Aside0.mk hc0
  clear hr0 hc0
  have HR1 := Aside0.mk hr1
  have HC1 := Aside0.mk hc1
  clear hr1 hc1
  have H : (if (l0.length : Int) = (l1.length : Int) then (laws_likeRows.l0 k l0 l1 0) else (some false)) = some r := h
  clear h
  by_cases c3 : (l0.length : Int) = (l1.length : Int)
  · rw [if_pos c3] at H
    have c3b0 : ((l0.length : Int) == (l1.length : Int)) = true := beq_iff_eq.mpr c3
    have c3b1 : ((l0.length : Int) != (l1.length : Int)) = false := bne_eq_false_iff_eq.mpr c3
    have c3b2 : (l0.length == l1.length) = true := by first | simpa using c3 | (simp at c3 ⊢; omega)
    clear c3
    have H' := Aside0.mk H
    clear H
    go_enter Try.func81, Try.ntmps81
    go_wp2
    repeat (go_quiet (fail); try go_wp2)
    go_loopg [5] k (fun kq v5 w' => ∃ (x5_1 : Int), v5 = .int .i64 x5_1 ∧ Aside0 (laws_likeRows.l0 kq l0 l1 x5_1 = some r) ∧ Aside0 (kq ≤ k) ∧ Drawn0 w w')
    case atStart => exact ⟨(0), (by first | rfl | (simp; done) | (simp [*]; done)), H', ⟨Nat.le_refl _⟩, by repeat (first | exact Drawn0.refl _ | apply Drawn0.step)⟩
    case round =>
      clear H'
      try clear c1
      try clear p2
      try clear c3
      try clear c3b0
      try clear c3b1
      try clear c3b2
      obtain ⟨x5_1, rfl, HA, HK1, ⟨m1, rfl⟩⟩ := hrel
      cases gk with
      | zero => exact absurd HA.out (by simp [laws_likeRows.l0])
      | succ k1 =>
        have H := HA.out
        clear HA
        simp only [laws_likeRows.l0] at H
        by_cases c4 : x5_1 < (l0.length : Int)
        · rw [if_pos c4] at H
          have c4b0 : decide (x5_1 < (l0.length : Int)) = true := decide_eq_true c4
          clear c4
          by_cases c5 : 0 ≤ x5_1
          · rw [if_pos c5] at H
            have c5b0 : decide (0 ≤ x5_1) = true := decide_eq_true c5
            clear c5
            by_cases c6 : x5_1 < (l1.length : Int)
            · rw [if_pos c6] at H
              have c6b0 : decide (x5_1 < (l1.length : Int)) = true := decide_eq_true c6
              clear c6
              replace H := Option.bind_eq_some_iff.mp H
              obtain ⟨t264, A70, H⟩ := H
              replace H : (if t264 = true then (laws_likeRows.l0 k1 l0 l1 (wrap64 (x5_1 + 1))) else (some false)) = some r := H
              have A7 := Aside0.mk A70
              clear A70
              by_cases c8 : t264 = true
              · subst c8
                have H1 : (laws_likeRows.l0 k1 l0 l1 (wrap64 (x5_1 + 1))) = some r := by rw [if_pos rfl] at H; exact H
                clear H
                have H := H1
                clear H1
                have H' := Aside0.mk H
                clear H
                have p262 : 0 ≤ (x5_1 : Int) := of_decide_eq_true (by first | (with_reducible assumption) | assumption)
                have q262 : x5_1 < (l0.length : Int) := of_decide_eq_true (by first | (with_reducible assumption) | assumption)
                obtain ⟨ad262, A262_0, c262_0, e262, hx262_0, hl262_0, hi262_0⟩ := at_L3 HR0.out x5_1 p262 q262
                cases e262
                have HR262_0 := Aside0.mk hi262_0
                have HC262_0 := Aside0.mk hl262_0
                clear hi262_0 hl262_0
                replace p262 := eq_true p262
                replace q262 := eq_true q262
                have p263 : 0 ≤ (x5_1 : Int) := of_decide_eq_true (by first | (with_reducible assumption) | assumption)
                have q263 : x5_1 < (l1.length : Int) := of_decide_eq_true (by first | (with_reducible assumption) | assumption)
                obtain ⟨ad263, A263_0, c263_0, e263, hx263_0, hl263_0, hi263_0⟩ := at_L3 HR1.out x5_1 p263 q263
                cases e263
                have HR263_0 := Aside0.mk hi263_0
                have HC263_0 := Aside0.mk hl263_0
                clear hi263_0 hl263_0
                replace p263 := eq_true p263
                replace q263 := eq_true q263
                go_wp2_with (first | (go_at_call 42; (with_reducible refine (laws_likeInts.calls k1 _ _ (rd_L3 l0 x5_1) _ _ (rd_L3 l1 x5_1) true _ ?side1 ?side2 ?side3 ?side4 A7.out).mono ?_); (case side1 => repeat (first | exact HR262_0.out | (with_reducible refine Kd.C_alloc ?_ _) | (with_reducible refine Kd.C_drewN ?_ _) | (with_reducible refine Kd.C_drew ?_))); (case side2 => exact HC262_0.out); (case side3 => repeat (first | exact HR263_0.out | (with_reducible refine Kd.C_alloc ?_ _) | (with_reducible refine Kd.C_drewN ?_ _) | (with_reducible refine Kd.C_drew ?_))); (case side4 => exact HC263_0.out); rintro e w' ⟨rfl, ⟨nd, rfl⟩⟩; (try first | exact ⟨rfl, _, World.drewN_drewN _ _ _⟩ | exact ⟨rfl, _, Eq.trans (World.drewN_drewN _ _ _) (congrArg (World.drewN _) (Nat.add_assoc _ _ _))⟩)))
                repeat (go_quiet (first | (go_at_call 42; (with_reducible refine (laws_likeInts.calls k1 _ _ (rd_L3 l0 x5_1) _ _ (rd_L3 l1 x5_1) true _ ?side1 ?side2 ?side3 ?side4 A7.out).mono ?_); (case side1 => repeat (first | exact HR262_0.out | (with_reducible refine Kd.C_alloc ?_ _) | (with_reducible refine Kd.C_drewN ?_ _) | (with_reducible refine Kd.C_drew ?_))); (case side2 => exact HC262_0.out); (case side3 => repeat (first | exact HR263_0.out | (with_reducible refine Kd.C_alloc ?_ _) | (with_reducible refine Kd.C_drewN ?_ _) | (with_reducible refine Kd.C_drew ?_))); (case side4 => exact HC263_0.out); rintro e w' ⟨rfl, ⟨nd, rfl⟩⟩; (try first | exact ⟨rfl, _, World.drewN_drewN _ _ _⟩ | exact ⟨rfl, _, Eq.trans (World.drewN_drewN _ _ _) (congrArg (World.drewN _) (Nat.add_assoc _ _ _))⟩))); try go_wp2_with (first | (go_at_call 42; (with_reducible refine (laws_likeInts.calls k1 _ _ (rd_L3 l0 x5_1) _ _ (rd_L3 l1 x5_1) true _ ?side1 ?side2 ?side3 ?side4 A7.out).mono ?_); (case side1 => repeat (first | exact HR262_0.out | (with_reducible refine Kd.C_alloc ?_ _) | (with_reducible refine Kd.C_drewN ?_ _) | (with_reducible refine Kd.C_drew ?_))); (case side2 => exact HC262_0.out); (case side3 => repeat (first | exact HR263_0.out | (with_reducible refine Kd.C_alloc ?_ _) | (with_reducible refine Kd.C_drewN ?_ _) | (with_reducible refine Kd.C_drew ?_))); (case side4 => exact HC263_0.out); rintro e w' ⟨rfl, ⟨nd, rfl⟩⟩; (try first | exact ⟨rfl, _, World.drewN_drewN _ _ _⟩ | exact ⟨rfl, _, Eq.trans (World.drewN_drewN _ _ _) (congrArg (World.drewN _) (Nat.add_assoc _ _ _))⟩))))
                go_roundg k1
                case measure => have := HK1.out; omega
                case rel => exact ⟨(wrap64 (x5_1 + 1)), (by first | rfl | (simp; done) | (simp [*]; done)), H', ⟨by have := HK1.out; omega⟩, by repeat (first | exact Drawn0.refl _ | apply Drawn0.step)⟩
              · replace c8 := Bool.eq_false_iff.mpr c8
                subst c8
                have H1 : (some false) = some r := by rw [if_neg (show ¬ (false = true) by decide)] at H; exact H
                clear H
                have H := H1
                clear H1
                obtain rfl := Option.some.inj H
                have p262 : 0 ≤ (x5_1 : Int) := of_decide_eq_true (by first | (with_reducible assumption) | assumption)
                have q262 : x5_1 < (l0.length : Int) := of_decide_eq_true (by first | (with_reducible assumption) | assumption)
                obtain ⟨ad262, A262_0, c262_0, e262, hx262_0, hl262_0, hi262_0⟩ := at_L3 HR0.out x5_1 p262 q262
                cases e262
                have HR262_0 := Aside0.mk hi262_0
                have HC262_0 := Aside0.mk hl262_0
                clear hi262_0 hl262_0
                replace p262 := eq_true p262
                replace q262 := eq_true q262
                have p263 : 0 ≤ (x5_1 : Int) := of_decide_eq_true (by first | (with_reducible assumption) | assumption)
                have q263 : x5_1 < (l1.length : Int) := of_decide_eq_true (by first | (with_reducible assumption) | assumption)
                obtain ⟨ad263, A263_0, c263_0, e263, hx263_0, hl263_0, hi263_0⟩ := at_L3 HR1.out x5_1 p263 q263
                cases e263
                have HR263_0 := Aside0.mk hi263_0
                have HC263_0 := Aside0.mk hl263_0
                clear hi263_0 hl263_0
                replace p263 := eq_true p263
                replace q263 := eq_true q263
                go_wp2_with (first | (go_at_call 42; (with_reducible refine (laws_likeInts.calls k1 _ _ (rd_L3 l0 x5_1) _ _ (rd_L3 l1 x5_1) false _ ?side1 ?side2 ?side3 ?side4 A7.out).mono ?_); (case side1 => repeat (first | exact HR262_0.out | (with_reducible refine Kd.C_alloc ?_ _) | (with_reducible refine Kd.C_drewN ?_ _) | (with_reducible refine Kd.C_drew ?_))); (case side2 => exact HC262_0.out); (case side3 => repeat (first | exact HR263_0.out | (with_reducible refine Kd.C_alloc ?_ _) | (with_reducible refine Kd.C_drewN ?_ _) | (with_reducible refine Kd.C_drew ?_))); (case side4 => exact HC263_0.out); rintro e w' ⟨rfl, ⟨nd, rfl⟩⟩; (try first | exact ⟨rfl, _, World.drewN_drewN _ _ _⟩ | exact ⟨rfl, _, Eq.trans (World.drewN_drewN _ _ _) (congrArg (World.drewN _) (Nat.add_assoc _ _ _))⟩)))
                repeat (go_quiet (first | (go_at_call 42; (with_reducible refine (laws_likeInts.calls k1 _ _ (rd_L3 l0 x5_1) _ _ (rd_L3 l1 x5_1) false _ ?side1 ?side2 ?side3 ?side4 A7.out).mono ?_); (case side1 => repeat (first | exact HR262_0.out | (with_reducible refine Kd.C_alloc ?_ _) | (with_reducible refine Kd.C_drewN ?_ _) | (with_reducible refine Kd.C_drew ?_))); (case side2 => exact HC262_0.out); (case side3 => repeat (first | exact HR263_0.out | (with_reducible refine Kd.C_alloc ?_ _) | (with_reducible refine Kd.C_drewN ?_ _) | (with_reducible refine Kd.C_drew ?_))); (case side4 => exact HC263_0.out); rintro e w' ⟨rfl, ⟨nd, rfl⟩⟩; (try first | exact ⟨rfl, _, World.drewN_drewN _ _ _⟩ | exact ⟨rfl, _, Eq.trans (World.drewN_drewN _ _ _) (congrArg (World.drewN _) (Nat.add_assoc _ _ _))⟩))); try go_wp2_with (first | (go_at_call 42; (with_reducible refine (laws_likeInts.calls k1 _ _ (rd_L3 l0 x5_1) _ _ (rd_L3 l1 x5_1) false _ ?side1 ?side2 ?side3 ?side4 A7.out).mono ?_); (case side1 => repeat (first | exact HR262_0.out | (with_reducible refine Kd.C_alloc ?_ _) | (with_reducible refine Kd.C_drewN ?_ _) | (with_reducible refine Kd.C_drew ?_))); (case side2 => exact HC262_0.out); (case side3 => repeat (first | exact HR263_0.out | (with_reducible refine Kd.C_alloc ?_ _) | (with_reducible refine Kd.C_drewN ?_ _) | (with_reducible refine Kd.C_drew ?_))); (case side4 => exact HC263_0.out); rintro e w' ⟨rfl, ⟨nd, rfl⟩⟩; (try first | exact ⟨rfl, _, World.drewN_drewN _ _ _⟩ | exact ⟨rfl, _, Eq.trans (World.drewN_drewN _ _ _) (congrArg (World.drewN _) (Nat.add_assoc _ _ _))⟩))))
                go_ret
                exact ⟨by first | rfl | (simp; done) | (simp [*]; done), by repeat (first | exact Drawn0.refl _ | apply Drawn0.step)⟩
            · rw [if_neg c6] at H
              exact absurd H (by simp)
          · rw [if_neg c5] at H
            exact absurd H (by simp)
        · rw [if_neg c4] at H
          have c4b0 : decide (x5_1 < (l0.length : Int)) = false := decide_eq_false c4
          clear c4
          obtain rfl := Option.some.inj H
          go_wp2
          repeat (go_quiet (fail); try go_wp2)
          go_ret
          exact ⟨by first | rfl | (simp; done) | (simp [*]; done), by repeat (first | exact Drawn0.refl _ | apply Drawn0.step)⟩
  · rw [if_neg c3] at H
    have c3b0 : ((l0.length : Int) == (l1.length : Int)) = false := beq_eq_false_iff_ne.mpr c3
    have c3b1 : ((l0.length : Int) != (l1.length : Int)) = true := bne_iff_ne.mpr c3
    have c3b2 : (l0.length == l1.length) = false := by first | simpa using c3 | (simp at c3 ⊢; omega)
    obtain rfl := Option.some.inj H
    go_enter Try.func81, Try.ntmps81
    go_wp2
    repeat (go_quiet (fail); try go_wp2)
    go_ret
    exact ⟨by first | rfl | (simp; done) | (simp [*]; done), by repeat (first | exact Drawn0.refl _ | apply Drawn0.step)⟩


end

section
attribute [local go_sem high] eqA176
/-! ### laws_likeLinks: function 82 -/
def laws_likeLinks.l0 : Nat → List (S176) → List (S176) → Int → Option (Bool)
  | 0, _, _, _ => none
  | k + 1, x0, x1, x5 => if x5 < (x0.length : Int) then (if 0 ≤ x5 then (if x5 < (x1.length : Int) then (if (!(((rd_T176 x0 x5).f0) == ((rd_T176 x1 x5).f0)) || (!(((rd_T176 x0 x5).f1) == ((rd_T176 x1 x5).f1)))) = true then (some false) else (laws_likeLinks.l0 k x0 x1 (wrap64 (x5 + 1)))) else (none)) else (none)) else (some true)
def laws_likeLinks.f (k : Nat) (l0 : List (S176)) (l1 : List (S176)) : Option (Bool) := if (l0.length : Int) = (l1.length : Int) then (laws_likeLinks.l0 k l0 l1 0) else (some false)
theorem laws_likeLinks.mono_l : ∀ k, (∀ y0 y1 y2, LeO (laws_likeLinks.l0 k y0 y1 y2) (laws_likeLinks.l0 (k + 1) y0 y1 y2))
  | 0 => fun _ _ _ r h => by simp [laws_likeLinks.l0] at h
  | k + 1 => by
    have ih0 := laws_likeLinks.mono_l k
    · intro y0 y1 y2
      unfold laws_likeLinks.l0
      repeat' first
      | (with_reducible exact ih0 _ _ _)
      | (with_reducible exact LeO.refl _)
      | (with_reducible exact LeO.none _)
      | (with_reducible refine LeO.ite ?_ ?_)
      | (with_reducible refine LeO.bind ?_ (fun _ => ?_))
      | exact ih0 _ _ _
      | exact LeO.none _
      | refine LeO.ite ?_ ?_
      | refine LeO.bind ?_ (fun _ => ?_)
theorem laws_likeLinks.mono : ∀ a0 a1 k, LeO (laws_likeLinks.f k a0 a1) (laws_likeLinks.f (k + 1) a0 a1) := by
  intro a0 a1 k
  have ih0 := laws_likeLinks.mono_l k
  unfold laws_likeLinks.f
  repeat' first
      | (with_reducible exact ih0 _ _ _)
      | (with_reducible exact LeO.refl _)
      | (with_reducible exact LeO.none _)
      | (with_reducible refine LeO.ite ?_ ?_)
      | (with_reducible refine LeO.bind ?_ (fun _ => ?_))
      | exact ih0 _ _ _
      | exact LeO.none _
      | refine LeO.ite ?_ ?_
      | refine LeO.bind ?_ (fun _ => ?_)
set_option maxHeartbeats 8000000 in
set_option maxRecDepth 100000 in
theorem laws_likeLinks.calls (k : Nat) (A0 : Option Addr) (c0 : Nat) (l0 : List (S176)) (A1 : Option Addr) (c1 : Nat) (l1 : List (S176)) (r : Bool) (w : World) (hr0 : Kd.C k176 w A0 l0.length l0) (hc0 : l0.length ≤ c0) (hr1 : Kd.C k176 w A1 l1.length l1) (hc1 : l1.length ≤ c1) (h : laws_likeLinks.f k l0 l1 = some r) :
    Calls Try.prog 82 #[.slice A0 l0.length c0, .slice A1 l1.length c1] w fun e w' => e = .returned (.bool r) ∧ Drawn0 w w' := by
  have hu176 := Try.underlying176
  have HR0 := Aside0.mk hr0
  have HC0 := Aside0.mk hc0
  clear hr0 hc0
  have HR1 := Aside0.mk hr1
  have HC1 := Aside0.mk hc1
  clear hr1 hc1
  have H : (if (l0.length : Int) = (l1.length : Int) then (laws_likeLinks.l0 k l0 l1 0) else (some false)) = some r := h
  clear h
  by_cases c3 : (l0.length : Int) = (l1.length : Int)
  · rw [if_pos c3] at H
    have c3b0 : ((l0.length : Int) == (l1.length : Int)) = true := beq_iff_eq.mpr c3
    have c3b1 : ((l0.length : Int) != (l1.length : Int)) = false := bne_eq_false_iff_eq.mpr c3
    have c3b2 : (l0.length == l1.length) = true := by first | simpa using c3 | (simp at c3 ⊢; omega)
    clear c3
    have H' := Aside0.mk H
    clear H
    go_enter Try.func82, Try.ntmps82
    go_wp2
    repeat (go_quiet (fail); try go_wp2)
    go_loopg [5] k (fun kq v5 w' => ∃ (x5_1 : Int), v5 = .int .i64 x5_1 ∧ Aside0 (laws_likeLinks.l0 kq l0 l1 x5_1 = some r) ∧ Aside0 (kq ≤ k) ∧ Drawn0 w w')
    case atStart => exact ⟨(0), (by first | rfl | (simp; done) | (simp [*]; done)), H', ⟨Nat.le_refl _⟩, by repeat (first | exact Drawn0.refl _ | apply Drawn0.step)⟩
    case round =>
      clear H'
      try clear c1
      try clear p2
      try clear c3
      try clear c3b0
      try clear c3b1
      try clear c3b2
      obtain ⟨x5_1, rfl, HA, HK1, ⟨m1, rfl⟩⟩ := hrel
      cases gk with
      | zero => exact absurd HA.out (by simp [laws_likeLinks.l0])
      | succ k1 =>
        have H := HA.out
        clear HA
        simp only [laws_likeLinks.l0] at H
        by_cases c4 : x5_1 < (l0.length : Int)
        · rw [if_pos c4] at H
          have c4b0 : decide (x5_1 < (l0.length : Int)) = true := decide_eq_true c4
          clear c4
          by_cases c5 : 0 ≤ x5_1
          · rw [if_pos c5] at H
            have c5b0 : decide (0 ≤ x5_1) = true := decide_eq_true c5
            clear c5
            by_cases c6 : x5_1 < (l1.length : Int)
            · rw [if_pos c6] at H
              have c6b0 : decide (x5_1 < (l1.length : Int)) = true := decide_eq_true c6
              clear c6
              by_cases c7 : (!(((rd_T176 l0 x5_1).f0) == ((rd_T176 l1 x5_1).f0)) || (!(((rd_T176 l0 x5_1).f1) == ((rd_T176 l1 x5_1).f1)))) = true
              · rw [if_pos c7] at H
                have c7b0 : (!(((rd_T176 l0 x5_1).f0) == ((rd_T176 l1 x5_1).f0)) || (!(((rd_T176 l0 x5_1).f1) == ((rd_T176 l1 x5_1).f1)))) = true := c7
                clear c7
                obtain rfl := Option.some.inj H
                have p265 : 0 ≤ (x5_1 : Int) := of_decide_eq_true (by first | (with_reducible assumption) | assumption)
                have q265 : x5_1 < (l0.length : Int) := of_decide_eq_true (by first | (with_reducible assumption) | assumption)
                obtain ⟨ad265, e265, hx265_0, hx265_1⟩ := at_T176 HR0.out x5_1 p265 q265
                cases e265
                replace p265 := eq_true p265
                replace q265 := eq_true q265
                have p266 : 0 ≤ (x5_1 : Int) := of_decide_eq_true (by first | (with_reducible assumption) | assumption)
                have q266 : x5_1 < (l1.length : Int) := of_decide_eq_true (by first | (with_reducible assumption) | assumption)
                obtain ⟨ad266, e266, hx266_0, hx266_1⟩ := at_T176 HR1.out x5_1 p266 q266
                cases e266
                replace p266 := eq_true p266
                replace q266 := eq_true q266
                go_wp2
                repeat (go_quiet (fail); try go_wp2)
                go_ret
                exact ⟨by first | rfl | (simp; done) | (simp [*]; done), by repeat (first | exact Drawn0.refl _ | apply Drawn0.step)⟩
              · rw [if_neg c7] at H
                have c7b0 : (!(((rd_T176 l0 x5_1).f0) == ((rd_T176 l1 x5_1).f0)) || (!(((rd_T176 l0 x5_1).f1) == ((rd_T176 l1 x5_1).f1)))) = false := by simpa using c7
                clear c7
                have H' := Aside0.mk H
                clear H
                have p265 : 0 ≤ (x5_1 : Int) := of_decide_eq_true (by first | (with_reducible assumption) | assumption)
                have q265 : x5_1 < (l0.length : Int) := of_decide_eq_true (by first | (with_reducible assumption) | assumption)
                obtain ⟨ad265, e265, hx265_0, hx265_1⟩ := at_T176 HR0.out x5_1 p265 q265
                cases e265
                replace p265 := eq_true p265
                replace q265 := eq_true q265
                have p266 : 0 ≤ (x5_1 : Int) := of_decide_eq_true (by first | (with_reducible assumption) | assumption)
                have q266 : x5_1 < (l1.length : Int) := of_decide_eq_true (by first | (with_reducible assumption) | assumption)
                obtain ⟨ad266, e266, hx266_0, hx266_1⟩ := at_T176 HR1.out x5_1 p266 q266
                cases e266
                replace p266 := eq_true p266
                replace q266 := eq_true q266
                go_wp2
                repeat (go_quiet (fail); try go_wp2)
                go_roundg k1
                case measure => have := HK1.out; omega
                case rel => exact ⟨(wrap64 (x5_1 + 1)), (by first | rfl | (simp; done) | (simp [*]; done)), H', ⟨by have := HK1.out; omega⟩, by repeat (first | exact Drawn0.refl _ | apply Drawn0.step)⟩
            · rw [if_neg c6] at H
              exact absurd H (by simp)
          · rw [if_neg c5] at H
            exact absurd H (by simp)
        · rw [if_neg c4] at H
          have c4b0 : decide (x5_1 < (l0.length : Int)) = false := decide_eq_false c4
          clear c4
          obtain rfl := Option.some.inj H
          go_wp2
          repeat (go_quiet (fail); try go_wp2)
          go_ret
          exact ⟨by first | rfl | (simp; done) | (simp [*]; done), by repeat (first | exact Drawn0.refl _ | apply Drawn0.step)⟩
  · rw [if_neg c3] at H
    have c3b0 : ((l0.length : Int) == (l1.length : Int)) = false := beq_eq_false_iff_ne.mpr c3
    have c3b1 : ((l0.length : Int) != (l1.length : Int)) = true := bne_iff_ne.mpr c3
    have c3b2 : (l0.length == l1.length) = false := by first | simpa using c3 | (simp at c3 ⊢; omega)
    obtain rfl := Option.some.inj H
    go_enter Try.func82, Try.ntmps82
    go_wp2
    repeat (go_quiet (fail); try go_wp2)
    go_ret
    exact ⟨by first | rfl | (simp; done) | (simp [*]; done), by repeat (first | exact Drawn0.refl _ | apply Drawn0.step)⟩


end

/-! ### laws_FnChains: function 13 -/
mutual
def laws_FnChains.j0 : Nat → List (S176) → Int → Int → Int → Int → Int → List (List Int) → List (List Int) → List (S176) → List (S176) → List (S176) → Int → Bool → Option (Bool)
  | 0, _, _, _, _, _, _, _, _, _, _, _, _, _ => none
  | k + 1, x3, x4, x5, x6, x7, x8, x12, x14, x16, x17, x18, x19, x114 => if x114 = true then (some false) else (if x19 = 0 then ((impl_IsChain.f k x18).bind fun t304 => (if t304 = true then (laws_FnChains.j1 k x3 x4 x5 x6 x7 x8 x12 x14 ((x18.length : Int) != (wrap64 ((x16.length : Int) + (x17.length : Int))))) else (laws_FnChains.j1 k x3 x4 x5 x6 x7 x8 x12 x14 true))) else (laws_FnChains.j1 k x3 x4 x5 x6 x7 x8 x12 x14 false))
def laws_FnChains.j1 : Nat → List (S176) → Int → Int → Int → Int → Int → List (List Int) → List (List Int) → Bool → Option (Bool)
  | 0, _, _, _, _, _, _, _, _, _ => none
  | k + 1, x3, x4, x5, x6, x7, x8, x12, x14, x131 => if x131 = true then (some false) else (if x8 = 0 then (if 0 ≤ x5 then (if x5 < (x12.length : Int) then (if 0 < ((rd_L3 x12 x5).length : Int) then (if 0 ≤ x4 then (if x4 < (x14.length : Int) then (if 0 < ((rd_L3 x14 x4).length : Int) then (if x6 = (wrap64 ((rd (rd_L3 x12 x5) 0) - (rd (rd_L3 x14 x4) 0))) then (if 1 < ((rd_L3 x12 x5).length : Int) then (if 1 < ((rd_L3 x14 x4).length : Int) then (if x7 = (wrap64 ((rd (rd_L3 x12 x5) 1) - (rd (rd_L3 x14 x4) 1))) then (if x6 ≤ x7 then (some ((x12.length : Int) == (wrap64 ((x3.length : Int) + 1)))) else (some false)) else (some false)) else (none)) else (none)) else (some false)) else (none)) else (none)) else (none)) else (none)) else (none)) else (none)) else (some true))
end
def laws_FnChains.f (k : Nat) (l0 : List Int) : Option (Bool) := (laws_big.f l0).bind fun t267 => (if t267 = true then (some true) else ((spec_DrawGapBetween.f k l0).bind fun bt268 => ((impl_GapBetween.f k bt268.1 bt268.2.1 bt268.2.2).bind fun bt273 => ((spec_GapBetween.f k bt268.1 bt268.2.1 bt268.2.2).bind fun bt276 => ((impl_ChainTimes.f k bt268.1).bind fun bt279 => ((spec_ChainTimes.f k bt268.1).bind fun bt283 => ((spec_DrawJoinChains.f k l0).bind fun bt287 => ((impl_JoinChains.f k bt287.1 bt287.2).bind fun bt293 => ((spec_JoinChains.f k bt287.1 bt287.2).bind fun bt297 => (if bt273.2.2 = bt276.2.2 then (if bt273.1 = bt276.1 then (if bt273.2.1 = bt276.2.1 then (if bt279.2 = bt283.2 then ((laws_likeRows.f k bt279.1 bt283.1).bind fun t301 => (if t301 = true then (if bt293.2 = bt297.2 then ((laws_likeLinks.f k bt293.1 bt297.1).bind fun t302 => (if t302 = true then ((impl_IsChain.f k bt268.1).bind fun t303 => (laws_FnChains.j0 k bt268.1 bt268.2.1 bt268.2.2 bt273.1 bt273.2.1 bt273.2.2 bt279.1 bt283.1 bt287.1 bt287.2 bt293.1 bt293.2 (t303 != (bt283.2 == 0)))) else (laws_FnChains.j0 k bt268.1 bt268.2.1 bt268.2.2 bt273.1 bt273.2.1 bt273.2.2 bt279.1 bt283.1 bt287.1 bt287.2 bt293.1 bt293.2 true))) else (laws_FnChains.j0 k bt268.1 bt268.2.1 bt268.2.2 bt273.1 bt273.2.1 bt273.2.2 bt279.1 bt283.1 bt287.1 bt287.2 bt293.1 bt293.2 true)) else (laws_FnChains.j0 k bt268.1 bt268.2.1 bt268.2.2 bt273.1 bt273.2.1 bt273.2.2 bt279.1 bt283.1 bt287.1 bt287.2 bt293.1 bt293.2 true))) else (laws_FnChains.j0 k bt268.1 bt268.2.1 bt268.2.2 bt273.1 bt273.2.1 bt273.2.2 bt279.1 bt283.1 bt287.1 bt287.2 bt293.1 bt293.2 true)) else (laws_FnChains.j0 k bt268.1 bt268.2.1 bt268.2.2 bt273.1 bt273.2.1 bt273.2.2 bt279.1 bt283.1 bt287.1 bt287.2 bt293.1 bt293.2 true)) else (laws_FnChains.j0 k bt268.1 bt268.2.1 bt268.2.2 bt273.1 bt273.2.1 bt273.2.2 bt279.1 bt283.1 bt287.1 bt287.2 bt293.1 bt293.2 true)) else (laws_FnChains.j0 k bt268.1 bt268.2.1 bt268.2.2 bt273.1 bt273.2.1 bt273.2.2 bt279.1 bt283.1 bt287.1 bt287.2 bt293.1 bt293.2 true)))))))))))
theorem laws_FnChains.mono_l : ∀ k, (∀ y0 y1 y2 y3 y4 y5 y6 y7 y8 y9 y10 y11 y12, LeO (laws_FnChains.j0 k y0 y1 y2 y3 y4 y5 y6 y7 y8 y9 y10 y11 y12) (laws_FnChains.j0 (k + 1) y0 y1 y2 y3 y4 y5 y6 y7 y8 y9 y10 y11 y12)) ∧ (∀ y0 y1 y2 y3 y4 y5 y6 y7 y8, LeO (laws_FnChains.j1 k y0 y1 y2 y3 y4 y5 y6 y7 y8) (laws_FnChains.j1 (k + 1) y0 y1 y2 y3 y4 y5 y6 y7 y8))
  | 0 => ⟨fun _ _ _ _ _ _ _ _ _ _ _ _ _ r h => by simp [laws_FnChains.j0] at h, fun _ _ _ _ _ _ _ _ _ r h => by simp [laws_FnChains.j1] at h⟩
  | k + 1 => by
    obtain ⟨ih0, ih1⟩ := laws_FnChains.mono_l k
    refine ⟨?_, ?_⟩
    · intro y0 y1 y2 y3 y4 y5 y6 y7 y8 y9 y10 y11 y12
      unfold laws_FnChains.j0
      repeat' first
      | (with_reducible exact ih0 _ _ _ _ _ _ _ _ _ _ _ _ _)
      | (with_reducible exact ih1 _ _ _ _ _ _ _ _ _)
      | (with_reducible exact impl_ChainTimes.mono _ _)
      | (with_reducible exact impl_GapBetween.mono _ _ _ _)
      | (with_reducible exact impl_IsChain.mono _ _)
      | (with_reducible exact impl_JoinChains.mono _ _ _)
      | (with_reducible exact laws_likeLinks.mono _ _ _)
      | (with_reducible exact laws_likeRows.mono _ _ _)
      | (with_reducible exact spec_ChainTimes.mono _ _)
      | (with_reducible exact spec_DrawGapBetween.mono _ _)
      | (with_reducible exact spec_DrawJoinChains.mono _ _)
      | (with_reducible exact spec_GapBetween.mono _ _ _ _)
      | (with_reducible exact spec_JoinChains.mono _ _ _)
      | (with_reducible exact LeO.refl _)
      | (with_reducible exact LeO.none _)
      | (with_reducible refine LeO.ite ?_ ?_)
      | (with_reducible refine LeO.bind ?_ (fun _ => ?_))
      | exact ih0 _ _ _ _ _ _ _ _ _ _ _ _ _
      | exact ih1 _ _ _ _ _ _ _ _ _
      | exact impl_ChainTimes.mono _ _
      | exact impl_GapBetween.mono _ _ _ _
      | exact impl_IsChain.mono _ _
      | exact impl_JoinChains.mono _ _ _
      | exact laws_likeLinks.mono _ _ _
      | exact laws_likeRows.mono _ _ _
      | exact spec_ChainTimes.mono _ _
      | exact spec_DrawGapBetween.mono _ _
      | exact spec_DrawJoinChains.mono _ _
      | exact spec_GapBetween.mono _ _ _ _
      | exact spec_JoinChains.mono _ _ _
      | exact LeO.none _
      | refine LeO.ite ?_ ?_
      | refine LeO.bind ?_ (fun _ => ?_)
    · intro y0 y1 y2 y3 y4 y5 y6 y7 y8
      unfold laws_FnChains.j1
      repeat' first
      | (with_reducible exact ih0 _ _ _ _ _ _ _ _ _ _ _ _ _)
      | (with_reducible exact ih1 _ _ _ _ _ _ _ _ _)
      | (with_reducible exact impl_ChainTimes.mono _ _)
      | (with_reducible exact impl_GapBetween.mono _ _ _ _)
      | (with_reducible exact impl_IsChain.mono _ _)
      | (with_reducible exact impl_JoinChains.mono _ _ _)
      | (with_reducible exact laws_likeLinks.mono _ _ _)
      | (with_reducible exact laws_likeRows.mono _ _ _)
      | (with_reducible exact spec_ChainTimes.mono _ _)
      | (with_reducible exact spec_DrawGapBetween.mono _ _)
      | (with_reducible exact spec_DrawJoinChains.mono _ _)
      | (with_reducible exact spec_GapBetween.mono _ _ _ _)
      | (with_reducible exact spec_JoinChains.mono _ _ _)
      | (with_reducible exact LeO.refl _)
      | (with_reducible exact LeO.none _)
      | (with_reducible refine LeO.ite ?_ ?_)
      | (with_reducible refine LeO.bind ?_ (fun _ => ?_))
      | exact ih0 _ _ _ _ _ _ _ _ _ _ _ _ _
      | exact ih1 _ _ _ _ _ _ _ _ _
      | exact impl_ChainTimes.mono _ _
      | exact impl_GapBetween.mono _ _ _ _
      | exact impl_IsChain.mono _ _
      | exact impl_JoinChains.mono _ _ _
      | exact laws_likeLinks.mono _ _ _
      | exact laws_likeRows.mono _ _ _
      | exact spec_ChainTimes.mono _ _
      | exact spec_DrawGapBetween.mono _ _
      | exact spec_DrawJoinChains.mono _ _
      | exact spec_GapBetween.mono _ _ _ _
      | exact spec_JoinChains.mono _ _ _
      | exact LeO.none _
      | refine LeO.ite ?_ ?_
      | refine LeO.bind ?_ (fun _ => ?_)
theorem laws_FnChains.mono : ∀ a0 k, LeO (laws_FnChains.f k a0) (laws_FnChains.f (k + 1) a0) := by
  intro a0 k
  obtain ⟨ih0, ih1⟩ := laws_FnChains.mono_l k
  unfold laws_FnChains.f
  repeat' first
      | (with_reducible exact ih0 _ _ _ _ _ _ _ _ _ _ _ _ _)
      | (with_reducible exact ih1 _ _ _ _ _ _ _ _ _)
      | (with_reducible exact impl_ChainTimes.mono _ _)
      | (with_reducible exact impl_GapBetween.mono _ _ _ _)
      | (with_reducible exact impl_IsChain.mono _ _)
      | (with_reducible exact impl_JoinChains.mono _ _ _)
      | (with_reducible exact laws_likeLinks.mono _ _ _)
      | (with_reducible exact laws_likeRows.mono _ _ _)
      | (with_reducible exact spec_ChainTimes.mono _ _)
      | (with_reducible exact spec_DrawGapBetween.mono _ _)
      | (with_reducible exact spec_DrawJoinChains.mono _ _)
      | (with_reducible exact spec_GapBetween.mono _ _ _ _)
      | (with_reducible exact spec_JoinChains.mono _ _ _)
      | (with_reducible exact LeO.refl _)
      | (with_reducible exact LeO.none _)
      | (with_reducible refine LeO.ite ?_ ?_)
      | (with_reducible refine LeO.bind ?_ (fun _ => ?_))
      | exact ih0 _ _ _ _ _ _ _ _ _ _ _ _ _
      | exact ih1 _ _ _ _ _ _ _ _ _
      | exact impl_ChainTimes.mono _ _
      | exact impl_GapBetween.mono _ _ _ _
      | exact impl_IsChain.mono _ _
      | exact impl_JoinChains.mono _ _ _
      | exact laws_likeLinks.mono _ _ _
      | exact laws_likeRows.mono _ _ _
      | exact spec_ChainTimes.mono _ _
      | exact spec_DrawGapBetween.mono _ _
      | exact spec_DrawJoinChains.mono _ _
      | exact spec_GapBetween.mono _ _ _ _
      | exact spec_JoinChains.mono _ _ _
      | exact LeO.none _
      | refine LeO.ite ?_ ?_
      | refine LeO.bind ?_ (fun _ => ?_)
set_option maxHeartbeats 8000000 in
set_option maxRecDepth 100000 in
theorem laws_FnChains.calls (k : Nat) (A0 : Option Addr) (c0 : Nat) (l0 : List Int) (r : Bool) (w : World) (hr0 : Kd.C (Kd.int .u8) w A0 l0.length l0) (hc0 : l0.length ≤ c0) (h : laws_FnChains.f k l0 = some r) :
    Calls Try.prog 13 #[.slice A0 l0.length c0] w fun e w' => e = .returned (.bool r) ∧ Below w.heap.size w w' := by
  have HR0 := Aside0.mk hr0
  have HC0 := Aside0.mk hc0
  clear hr0 hc0
  have HB := Aside0.mk (Below.refl w.heap.size w)
  have H : ((laws_big.f l0).bind fun t267 => (if t267 = true then (some true) else ((spec_DrawGapBetween.f k l0).bind fun bt268 => ((impl_GapBetween.f k bt268.1 bt268.2.1 bt268.2.2).bind fun bt273 => ((spec_GapBetween.f k bt268.1 bt268.2.1 bt268.2.2).bind fun bt276 => ((impl_ChainTimes.f k bt268.1).bind fun bt279 => ((spec_ChainTimes.f k bt268.1).bind fun bt283 => ((spec_DrawJoinChains.f k l0).bind fun bt287 => ((impl_JoinChains.f k bt287.1 bt287.2).bind fun bt293 => ((spec_JoinChains.f k bt287.1 bt287.2).bind fun bt297 => (if bt273.2.2 = bt276.2.2 then (if bt273.1 = bt276.1 then (if bt273.2.1 = bt276.2.1 then (if bt279.2 = bt283.2 then ((laws_likeRows.f k bt279.1 bt283.1).bind fun t301 => (if t301 = true then (if bt293.2 = bt297.2 then ((laws_likeLinks.f k bt293.1 bt297.1).bind fun t302 => (if t302 = true then ((impl_IsChain.f k bt268.1).bind fun t303 => (laws_FnChains.j0 k bt268.1 bt268.2.1 bt268.2.2 bt273.1 bt273.2.1 bt273.2.2 bt279.1 bt283.1 bt287.1 bt287.2 bt293.1 bt293.2 (t303 != (bt283.2 == 0)))) else (laws_FnChains.j0 k bt268.1 bt268.2.1 bt268.2.2 bt273.1 bt273.2.1 bt273.2.2 bt279.1 bt283.1 bt287.1 bt287.2 bt293.1 bt293.2 true))) else (laws_FnChains.j0 k bt268.1 bt268.2.1 bt268.2.2 bt273.1 bt273.2.1 bt273.2.2 bt279.1 bt283.1 bt287.1 bt287.2 bt293.1 bt293.2 true)) else (laws_FnChains.j0 k bt268.1 bt268.2.1 bt268.2.2 bt273.1 bt273.2.1 bt273.2.2 bt279.1 bt283.1 bt287.1 bt287.2 bt293.1 bt293.2 true))) else (laws_FnChains.j0 k bt268.1 bt268.2.1 bt268.2.2 bt273.1 bt273.2.1 bt273.2.2 bt279.1 bt283.1 bt287.1 bt287.2 bt293.1 bt293.2 true)) else (laws_FnChains.j0 k bt268.1 bt268.2.1 bt268.2.2 bt273.1 bt273.2.1 bt273.2.2 bt279.1 bt283.1 bt287.1 bt287.2 bt293.1 bt293.2 true)) else (laws_FnChains.j0 k bt268.1 bt268.2.1 bt268.2.2 bt273.1 bt273.2.1 bt273.2.2 bt279.1 bt283.1 bt287.1 bt287.2 bt293.1 bt293.2 true)) else (laws_FnChains.j0 k bt268.1 bt268.2.1 bt268.2.2 bt273.1 bt273.2.1 bt273.2.2 bt279.1 bt283.1 bt287.1 bt287.2 bt293.1 bt293.2 true)))))))))))) = some r := h
  clear h
  replace H := Option.bind_eq_some_iff.mp H
  obtain ⟨t267, A20, H⟩ := H
  replace H : (if t267 = true then (some true) else ((spec_DrawGapBetween.f k l0).bind fun bt268 => ((impl_GapBetween.f k bt268.1 bt268.2.1 bt268.2.2).bind fun bt273 => ((spec_GapBetween.f k bt268.1 bt268.2.1 bt268.2.2).bind fun bt276 => ((impl_ChainTimes.f k bt268.1).bind fun bt279 => ((spec_ChainTimes.f k bt268.1).bind fun bt283 => ((spec_DrawJoinChains.f k l0).bind fun bt287 => ((impl_JoinChains.f k bt287.1 bt287.2).bind fun bt293 => ((spec_JoinChains.f k bt287.1 bt287.2).bind fun bt297 => (if bt273.2.2 = bt276.2.2 then (if bt273.1 = bt276.1 then (if bt273.2.1 = bt276.2.1 then (if bt279.2 = bt283.2 then ((laws_likeRows.f k bt279.1 bt283.1).bind fun t301 => (if t301 = true then (if bt293.2 = bt297.2 then ((laws_likeLinks.f k bt293.1 bt297.1).bind fun t302 => (if t302 = true then ((impl_IsChain.f k bt268.1).bind fun t303 => (laws_FnChains.j0 k bt268.1 bt268.2.1 bt268.2.2 bt273.1 bt273.2.1 bt273.2.2 bt279.1 bt283.1 bt287.1 bt287.2 bt293.1 bt293.2 (t303 != (bt283.2 == 0)))) else (laws_FnChains.j0 k bt268.1 bt268.2.1 bt268.2.2 bt273.1 bt273.2.1 bt273.2.2 bt279.1 bt283.1 bt287.1 bt287.2 bt293.1 bt293.2 true))) else (laws_FnChains.j0 k bt268.1 bt268.2.1 bt268.2.2 bt273.1 bt273.2.1 bt273.2.2 bt279.1 bt283.1 bt287.1 bt287.2 bt293.1 bt293.2 true)) else (laws_FnChains.j0 k bt268.1 bt268.2.1 bt268.2.2 bt273.1 bt273.2.1 bt273.2.2 bt279.1 bt283.1 bt287.1 bt287.2 bt293.1 bt293.2 true))) else (laws_FnChains.j0 k bt268.1 bt268.2.1 bt268.2.2 bt273.1 bt273.2.1 bt273.2.2 bt279.1 bt283.1 bt287.1 bt287.2 bt293.1 bt293.2 true)) else (laws_FnChains.j0 k bt268.1 bt268.2.1 bt268.2.2 bt273.1 bt273.2.1 bt273.2.2 bt279.1 bt283.1 bt287.1 bt287.2 bt293.1 bt293.2 true)) else (laws_FnChains.j0 k bt268.1 bt268.2.1 bt268.2.2 bt273.1 bt273.2.1 bt273.2.2 bt279.1 bt283.1 bt287.1 bt287.2 bt293.1 bt293.2 true)) else (laws_FnChains.j0 k bt268.1 bt268.2.1 bt268.2.2 bt273.1 bt273.2.1 bt273.2.2 bt279.1 bt283.1 bt287.1 bt287.2 bt293.1 bt293.2 true))))))))))) = some r := H
  have A2 := Aside0.mk A20
  clear A20
  by_cases c3 : t267 = true
  · subst c3
    have H1 : (some true) = some r := by rw [if_pos rfl] at H; exact H
    clear H
    have H := H1
    clear H1
    obtain rfl := Option.some.inj H
    go_enter Try.func13, Try.ntmps13
    go_wp2_with (first | (go_at_call 31; (with_reducible refine (laws_big.calls _ _ l0 true _ ?side1 ?side2 A2.out).mono ?_); (case side1 => repeat (first | exact HR0.out | (with_reducible refine Kd.C_alloc ?_ _) | (with_reducible refine Kd.C_drewN ?_ _) | (with_reducible refine Kd.C_drew ?_))); (case side2 => exact HC0.out); rintro e w' ⟨rfl, ⟨nd, rfl⟩⟩; (try first | exact ⟨rfl, _, World.drewN_drewN _ _ _⟩ | exact ⟨rfl, _, Eq.trans (World.drewN_drewN _ _ _) (congrArg (World.drewN _) (Nat.add_assoc _ _ _))⟩)))
    repeat (go_quiet (first | (go_at_call 31; (with_reducible refine (laws_big.calls _ _ l0 true _ ?side1 ?side2 A2.out).mono ?_); (case side1 => repeat (first | exact HR0.out | (with_reducible refine Kd.C_alloc ?_ _) | (with_reducible refine Kd.C_drewN ?_ _) | (with_reducible refine Kd.C_drew ?_))); (case side2 => exact HC0.out); rintro e w' ⟨rfl, ⟨nd, rfl⟩⟩; (try first | exact ⟨rfl, _, World.drewN_drewN _ _ _⟩ | exact ⟨rfl, _, Eq.trans (World.drewN_drewN _ _ _) (congrArg (World.drewN _) (Nat.add_assoc _ _ _))⟩))); try go_wp2_with (first | (go_at_call 31; (with_reducible refine (laws_big.calls _ _ l0 true _ ?side1 ?side2 A2.out).mono ?_); (case side1 => repeat (first | exact HR0.out | (with_reducible refine Kd.C_alloc ?_ _) | (with_reducible refine Kd.C_drewN ?_ _) | (with_reducible refine Kd.C_drew ?_))); (case side2 => exact HC0.out); rintro e w' ⟨rfl, ⟨nd, rfl⟩⟩; (try first | exact ⟨rfl, _, World.drewN_drewN _ _ _⟩ | exact ⟨rfl, _, Eq.trans (World.drewN_drewN _ _ _) (congrArg (World.drewN _) (Nat.add_assoc _ _ _))⟩))))
    go_ret
    exact ⟨by first | rfl | (simp [errW_none, errW_some] <;> rfl) | (simp [*, errW_none, errW_some] <;> rfl), by repeat (first | (with_reducible first | exact HB.out | apply below_alloc | apply pw_below_drewN | apply below_drew1) | exact HB.out)⟩
  · replace c3 := Bool.eq_false_iff.mpr c3
    subst c3
    have H1 : ((spec_DrawGapBetween.f k l0).bind fun bt268 => ((impl_GapBetween.f k bt268.1 bt268.2.1 bt268.2.2).bind fun bt273 => ((spec_GapBetween.f k bt268.1 bt268.2.1 bt268.2.2).bind fun bt276 => ((impl_ChainTimes.f k bt268.1).bind fun bt279 => ((spec_ChainTimes.f k bt268.1).bind fun bt283 => ((spec_DrawJoinChains.f k l0).bind fun bt287 => ((impl_JoinChains.f k bt287.1 bt287.2).bind fun bt293 => ((spec_JoinChains.f k bt287.1 bt287.2).bind fun bt297 => (if bt273.2.2 = bt276.2.2 then (if bt273.1 = bt276.1 then (if bt273.2.1 = bt276.2.1 then (if bt279.2 = bt283.2 then ((laws_likeRows.f k bt279.1 bt283.1).bind fun t301 => (if t301 = true then (if bt293.2 = bt297.2 then ((laws_likeLinks.f k bt293.1 bt297.1).bind fun t302 => (if t302 = true then ((impl_IsChain.f k bt268.1).bind fun t303 => (laws_FnChains.j0 k bt268.1 bt268.2.1 bt268.2.2 bt273.1 bt273.2.1 bt273.2.2 bt279.1 bt283.1 bt287.1 bt287.2 bt293.1 bt293.2 (t303 != (bt283.2 == 0)))) else (laws_FnChains.j0 k bt268.1 bt268.2.1 bt268.2.2 bt273.1 bt273.2.1 bt273.2.2 bt279.1 bt283.1 bt287.1 bt287.2 bt293.1 bt293.2 true))) else (laws_FnChains.j0 k bt268.1 bt268.2.1 bt268.2.2 bt273.1 bt273.2.1 bt273.2.2 bt279.1 bt283.1 bt287.1 bt287.2 bt293.1 bt293.2 true)) else (laws_FnChains.j0 k bt268.1 bt268.2.1 bt268.2.2 bt273.1 bt273.2.1 bt273.2.2 bt279.1 bt283.1 bt287.1 bt287.2 bt293.1 bt293.2 true))) else (laws_FnChains.j0 k bt268.1 bt268.2.1 bt268.2.2 bt273.1 bt273.2.1 bt273.2.2 bt279.1 bt283.1 bt287.1 bt287.2 bt293.1 bt293.2 true)) else (laws_FnChains.j0 k bt268.1 bt268.2.1 bt268.2.2 bt273.1 bt273.2.1 bt273.2.2 bt279.1 bt283.1 bt287.1 bt287.2 bt293.1 bt293.2 true)) else (laws_FnChains.j0 k bt268.1 bt268.2.1 bt268.2.2 bt273.1 bt273.2.1 bt273.2.2 bt279.1 bt283.1 bt287.1 bt287.2 bt293.1 bt293.2 true)) else (laws_FnChains.j0 k bt268.1 bt268.2.1 bt268.2.2 bt273.1 bt273.2.1 bt273.2.2 bt279.1 bt283.1 bt287.1 bt287.2 bt293.1 bt293.2 true)))))))))) = some r := by rw [if_neg (show ¬ (false = true) by decide)] at H; exact H
    clear H
    have H := H1
    clear H1
    replace H := Option.bind_eq_some_iff.mp H
    obtain ⟨⟨t268, t269, t270⟩, A40, H⟩ := H
    replace H : ((impl_GapBetween.f k t268 t269 t270).bind fun bt273 => ((spec_GapBetween.f k t268 t269 t270).bind fun bt276 => ((impl_ChainTimes.f k t268).bind fun bt279 => ((spec_ChainTimes.f k t268).bind fun bt283 => ((spec_DrawJoinChains.f k l0).bind fun bt287 => ((impl_JoinChains.f k bt287.1 bt287.2).bind fun bt293 => ((spec_JoinChains.f k bt287.1 bt287.2).bind fun bt297 => (if bt273.2.2 = bt276.2.2 then (if bt273.1 = bt276.1 then (if bt273.2.1 = bt276.2.1 then (if bt279.2 = bt283.2 then ((laws_likeRows.f k bt279.1 bt283.1).bind fun t301 => (if t301 = true then (if bt293.2 = bt297.2 then ((laws_likeLinks.f k bt293.1 bt297.1).bind fun t302 => (if t302 = true then ((impl_IsChain.f k t268).bind fun t303 => (laws_FnChains.j0 k t268 t269 t270 bt273.1 bt273.2.1 bt273.2.2 bt279.1 bt283.1 bt287.1 bt287.2 bt293.1 bt293.2 (t303 != (bt283.2 == 0)))) else (laws_FnChains.j0 k t268 t269 t270 bt273.1 bt273.2.1 bt273.2.2 bt279.1 bt283.1 bt287.1 bt287.2 bt293.1 bt293.2 true))) else (laws_FnChains.j0 k t268 t269 t270 bt273.1 bt273.2.1 bt273.2.2 bt279.1 bt283.1 bt287.1 bt287.2 bt293.1 bt293.2 true)) else (laws_FnChains.j0 k t268 t269 t270 bt273.1 bt273.2.1 bt273.2.2 bt279.1 bt283.1 bt287.1 bt287.2 bt293.1 bt293.2 true))) else (laws_FnChains.j0 k t268 t269 t270 bt273.1 bt273.2.1 bt273.2.2 bt279.1 bt283.1 bt287.1 bt287.2 bt293.1 bt293.2 true)) else (laws_FnChains.j0 k t268 t269 t270 bt273.1 bt273.2.1 bt273.2.2 bt279.1 bt283.1 bt287.1 bt287.2 bt293.1 bt293.2 true)) else (laws_FnChains.j0 k t268 t269 t270 bt273.1 bt273.2.1 bt273.2.2 bt279.1 bt283.1 bt287.1 bt287.2 bt293.1 bt293.2 true)) else (laws_FnChains.j0 k t268 t269 t270 bt273.1 bt273.2.1 bt273.2.2 bt279.1 bt283.1 bt287.1 bt287.2 bt293.1 bt293.2 true))))))))) = some r := H
    have A4 := Aside0.mk A40
    clear A40
    replace H := Option.bind_eq_some_iff.mp H
    obtain ⟨⟨t273, t274, t275⟩, A50, H⟩ := H
    replace H : ((spec_GapBetween.f k t268 t269 t270).bind fun bt276 => ((impl_ChainTimes.f k t268).bind fun bt279 => ((spec_ChainTimes.f k t268).bind fun bt283 => ((spec_DrawJoinChains.f k l0).bind fun bt287 => ((impl_JoinChains.f k bt287.1 bt287.2).bind fun bt293 => ((spec_JoinChains.f k bt287.1 bt287.2).bind fun bt297 => (if t275 = bt276.2.2 then (if t273 = bt276.1 then (if t274 = bt276.2.1 then (if bt279.2 = bt283.2 then ((laws_likeRows.f k bt279.1 bt283.1).bind fun t301 => (if t301 = true then (if bt293.2 = bt297.2 then ((laws_likeLinks.f k bt293.1 bt297.1).bind fun t302 => (if t302 = true then ((impl_IsChain.f k t268).bind fun t303 => (laws_FnChains.j0 k t268 t269 t270 t273 t274 t275 bt279.1 bt283.1 bt287.1 bt287.2 bt293.1 bt293.2 (t303 != (bt283.2 == 0)))) else (laws_FnChains.j0 k t268 t269 t270 t273 t274 t275 bt279.1 bt283.1 bt287.1 bt287.2 bt293.1 bt293.2 true))) else (laws_FnChains.j0 k t268 t269 t270 t273 t274 t275 bt279.1 bt283.1 bt287.1 bt287.2 bt293.1 bt293.2 true)) else (laws_FnChains.j0 k t268 t269 t270 t273 t274 t275 bt279.1 bt283.1 bt287.1 bt287.2 bt293.1 bt293.2 true))) else (laws_FnChains.j0 k t268 t269 t270 t273 t274 t275 bt279.1 bt283.1 bt287.1 bt287.2 bt293.1 bt293.2 true)) else (laws_FnChains.j0 k t268 t269 t270 t273 t274 t275 bt279.1 bt283.1 bt287.1 bt287.2 bt293.1 bt293.2 true)) else (laws_FnChains.j0 k t268 t269 t270 t273 t274 t275 bt279.1 bt283.1 bt287.1 bt287.2 bt293.1 bt293.2 true)) else (laws_FnChains.j0 k t268 t269 t270 t273 t274 t275 bt279.1 bt283.1 bt287.1 bt287.2 bt293.1 bt293.2 true)))))))) = some r := H
    have A5 := Aside0.mk A50
    clear A50
    replace H := Option.bind_eq_some_iff.mp H
    obtain ⟨⟨t276, t277, t278⟩, A60, H⟩ := H
    replace H : ((impl_ChainTimes.f k t268).bind fun bt279 => ((spec_ChainTimes.f k t268).bind fun bt283 => ((spec_DrawJoinChains.f k l0).bind fun bt287 => ((impl_JoinChains.f k bt287.1 bt287.2).bind fun bt293 => ((spec_JoinChains.f k bt287.1 bt287.2).bind fun bt297 => (if t275 = t278 then (if t273 = t276 then (if t274 = t277 then (if bt279.2 = bt283.2 then ((laws_likeRows.f k bt279.1 bt283.1).bind fun t301 => (if t301 = true then (if bt293.2 = bt297.2 then ((laws_likeLinks.f k bt293.1 bt297.1).bind fun t302 => (if t302 = true then ((impl_IsChain.f k t268).bind fun t303 => (laws_FnChains.j0 k t268 t269 t270 t273 t274 t275 bt279.1 bt283.1 bt287.1 bt287.2 bt293.1 bt293.2 (t303 != (bt283.2 == 0)))) else (laws_FnChains.j0 k t268 t269 t270 t273 t274 t275 bt279.1 bt283.1 bt287.1 bt287.2 bt293.1 bt293.2 true))) else (laws_FnChains.j0 k t268 t269 t270 t273 t274 t275 bt279.1 bt283.1 bt287.1 bt287.2 bt293.1 bt293.2 true)) else (laws_FnChains.j0 k t268 t269 t270 t273 t274 t275 bt279.1 bt283.1 bt287.1 bt287.2 bt293.1 bt293.2 true))) else (laws_FnChains.j0 k t268 t269 t270 t273 t274 t275 bt279.1 bt283.1 bt287.1 bt287.2 bt293.1 bt293.2 true)) else (laws_FnChains.j0 k t268 t269 t270 t273 t274 t275 bt279.1 bt283.1 bt287.1 bt287.2 bt293.1 bt293.2 true)) else (laws_FnChains.j0 k t268 t269 t270 t273 t274 t275 bt279.1 bt283.1 bt287.1 bt287.2 bt293.1 bt293.2 true)) else (laws_FnChains.j0 k t268 t269 t270 t273 t274 t275 bt279.1 bt283.1 bt287.1 bt287.2 bt293.1 bt293.2 true))))))) = some r := H
    have A6 := Aside0.mk A60
    clear A60
    replace H := Option.bind_eq_some_iff.mp H
    obtain ⟨⟨t279, t280⟩, A70, H⟩ := H
    replace H : ((spec_ChainTimes.f k t268).bind fun bt283 => ((spec_DrawJoinChains.f k l0).bind fun bt287 => ((impl_JoinChains.f k bt287.1 bt287.2).bind fun bt293 => ((spec_JoinChains.f k bt287.1 bt287.2).bind fun bt297 => (if t275 = t278 then (if t273 = t276 then (if t274 = t277 then (if t280 = bt283.2 then ((laws_likeRows.f k t279 bt283.1).bind fun t301 => (if t301 = true then (if bt293.2 = bt297.2 then ((laws_likeLinks.f k bt293.1 bt297.1).bind fun t302 => (if t302 = true then ((impl_IsChain.f k t268).bind fun t303 => (laws_FnChains.j0 k t268 t269 t270 t273 t274 t275 t279 bt283.1 bt287.1 bt287.2 bt293.1 bt293.2 (t303 != (bt283.2 == 0)))) else (laws_FnChains.j0 k t268 t269 t270 t273 t274 t275 t279 bt283.1 bt287.1 bt287.2 bt293.1 bt293.2 true))) else (laws_FnChains.j0 k t268 t269 t270 t273 t274 t275 t279 bt283.1 bt287.1 bt287.2 bt293.1 bt293.2 true)) else (laws_FnChains.j0 k t268 t269 t270 t273 t274 t275 t279 bt283.1 bt287.1 bt287.2 bt293.1 bt293.2 true))) else (laws_FnChains.j0 k t268 t269 t270 t273 t274 t275 t279 bt283.1 bt287.1 bt287.2 bt293.1 bt293.2 true)) else (laws_FnChains.j0 k t268 t269 t270 t273 t274 t275 t279 bt283.1 bt287.1 bt287.2 bt293.1 bt293.2 true)) else (laws_FnChains.j0 k t268 t269 t270 t273 t274 t275 t279 bt283.1 bt287.1 bt287.2 bt293.1 bt293.2 true)) else (laws_FnChains.j0 k t268 t269 t270 t273 t274 t275 t279 bt283.1 bt287.1 bt287.2 bt293.1 bt293.2 true)))))) = some r := H
    have A7 := Aside0.mk A70
    clear A70
    replace H := Option.bind_eq_some_iff.mp H
    obtain ⟨⟨t283, t284⟩, A80, H⟩ := H
    replace H : ((spec_DrawJoinChains.f k l0).bind fun bt287 => ((impl_JoinChains.f k bt287.1 bt287.2).bind fun bt293 => ((spec_JoinChains.f k bt287.1 bt287.2).bind fun bt297 => (if t275 = t278 then (if t273 = t276 then (if t274 = t277 then (if t280 = t284 then ((laws_likeRows.f k t279 t283).bind fun t301 => (if t301 = true then (if bt293.2 = bt297.2 then ((laws_likeLinks.f k bt293.1 bt297.1).bind fun t302 => (if t302 = true then ((impl_IsChain.f k t268).bind fun t303 => (laws_FnChains.j0 k t268 t269 t270 t273 t274 t275 t279 t283 bt287.1 bt287.2 bt293.1 bt293.2 (t303 != (t284 == 0)))) else (laws_FnChains.j0 k t268 t269 t270 t273 t274 t275 t279 t283 bt287.1 bt287.2 bt293.1 bt293.2 true))) else (laws_FnChains.j0 k t268 t269 t270 t273 t274 t275 t279 t283 bt287.1 bt287.2 bt293.1 bt293.2 true)) else (laws_FnChains.j0 k t268 t269 t270 t273 t274 t275 t279 t283 bt287.1 bt287.2 bt293.1 bt293.2 true))) else (laws_FnChains.j0 k t268 t269 t270 t273 t274 t275 t279 t283 bt287.1 bt287.2 bt293.1 bt293.2 true)) else (laws_FnChains.j0 k t268 t269 t270 t273 t274 t275 t279 t283 bt287.1 bt287.2 bt293.1 bt293.2 true)) else (laws_FnChains.j0 k t268 t269 t270 t273 t274 t275 t279 t283 bt287.1 bt287.2 bt293.1 bt293.2 true)) else (laws_FnChains.j0 k t268 t269 t270 t273 t274 t275 t279 t283 bt287.1 bt287.2 bt293.1 bt293.2 true))))) = some r := H
    have A8 := Aside0.mk A80
    clear A80
    replace H := Option.bind_eq_some_iff.mp H
    obtain ⟨⟨t287, t288⟩, A90, H⟩ := H
    replace H : ((impl_JoinChains.f k t287 t288).bind fun bt293 => ((spec_JoinChains.f k t287 t288).bind fun bt297 => (if t275 = t278 then (if t273 = t276 then (if t274 = t277 then (if t280 = t284 then ((laws_likeRows.f k t279 t283).bind fun t301 => (if t301 = true then (if bt293.2 = bt297.2 then ((laws_likeLinks.f k bt293.1 bt297.1).bind fun t302 => (if t302 = true then ((impl_IsChain.f k t268).bind fun t303 => (laws_FnChains.j0 k t268 t269 t270 t273 t274 t275 t279 t283 t287 t288 bt293.1 bt293.2 (t303 != (t284 == 0)))) else (laws_FnChains.j0 k t268 t269 t270 t273 t274 t275 t279 t283 t287 t288 bt293.1 bt293.2 true))) else (laws_FnChains.j0 k t268 t269 t270 t273 t274 t275 t279 t283 t287 t288 bt293.1 bt293.2 true)) else (laws_FnChains.j0 k t268 t269 t270 t273 t274 t275 t279 t283 t287 t288 bt293.1 bt293.2 true))) else (laws_FnChains.j0 k t268 t269 t270 t273 t274 t275 t279 t283 t287 t288 bt293.1 bt293.2 true)) else (laws_FnChains.j0 k t268 t269 t270 t273 t274 t275 t279 t283 t287 t288 bt293.1 bt293.2 true)) else (laws_FnChains.j0 k t268 t269 t270 t273 t274 t275 t279 t283 t287 t288 bt293.1 bt293.2 true)) else (laws_FnChains.j0 k t268 t269 t270 t273 t274 t275 t279 t283 t287 t288 bt293.1 bt293.2 true)))) = some r := H
    have A9 := Aside0.mk A90
    clear A90
    replace H := Option.bind_eq_some_iff.mp H
    obtain ⟨⟨t293, t294⟩, A100, H⟩ := H
    replace H : ((spec_JoinChains.f k t287 t288).bind fun bt297 => (if t275 = t278 then (if t273 = t276 then (if t274 = t277 then (if t280 = t284 then ((laws_likeRows.f k t279 t283).bind fun t301 => (if t301 = true then (if t294 = bt297.2 then ((laws_likeLinks.f k t293 bt297.1).bind fun t302 => (if t302 = true then ((impl_IsChain.f k t268).bind fun t303 => (laws_FnChains.j0 k t268 t269 t270 t273 t274 t275 t279 t283 t287 t288 t293 t294 (t303 != (t284 == 0)))) else (laws_FnChains.j0 k t268 t269 t270 t273 t274 t275 t279 t283 t287 t288 t293 t294 true))) else (laws_FnChains.j0 k t268 t269 t270 t273 t274 t275 t279 t283 t287 t288 t293 t294 true)) else (laws_FnChains.j0 k t268 t269 t270 t273 t274 t275 t279 t283 t287 t288 t293 t294 true))) else (laws_FnChains.j0 k t268 t269 t270 t273 t274 t275 t279 t283 t287 t288 t293 t294 true)) else (laws_FnChains.j0 k t268 t269 t270 t273 t274 t275 t279 t283 t287 t288 t293 t294 true)) else (laws_FnChains.j0 k t268 t269 t270 t273 t274 t275 t279 t283 t287 t288 t293 t294 true)) else (laws_FnChains.j0 k t268 t269 t270 t273 t274 t275 t279 t283 t287 t288 t293 t294 true))) = some r := H
    have A10 := Aside0.mk A100
    clear A100
    replace H := Option.bind_eq_some_iff.mp H
    obtain ⟨⟨t297, t298⟩, A110, H⟩ := H
    replace H : (if t275 = t278 then (if t273 = t276 then (if t274 = t277 then (if t280 = t284 then ((laws_likeRows.f k t279 t283).bind fun t301 => (if t301 = true then (if t294 = t298 then ((laws_likeLinks.f k t293 t297).bind fun t302 => (if t302 = true then ((impl_IsChain.f k t268).bind fun t303 => (laws_FnChains.j0 k t268 t269 t270 t273 t274 t275 t279 t283 t287 t288 t293 t294 (t303 != (t284 == 0)))) else (laws_FnChains.j0 k t268 t269 t270 t273 t274 t275 t279 t283 t287 t288 t293 t294 true))) else (laws_FnChains.j0 k t268 t269 t270 t273 t274 t275 t279 t283 t287 t288 t293 t294 true)) else (laws_FnChains.j0 k t268 t269 t270 t273 t274 t275 t279 t283 t287 t288 t293 t294 true))) else (laws_FnChains.j0 k t268 t269 t270 t273 t274 t275 t279 t283 t287 t288 t293 t294 true)) else (laws_FnChains.j0 k t268 t269 t270 t273 t274 t275 t279 t283 t287 t288 t293 t294 true)) else (laws_FnChains.j0 k t268 t269 t270 t273 t274 t275 t279 t283 t287 t288 t293 t294 true)) else (laws_FnChains.j0 k t268 t269 t270 t273 t274 t275 t279 t283 t287 t288 t293 t294 true)) = some r := H
    have A11 := Aside0.mk A110
    clear A110
    have HC12 := Aside0.mk H
    clear H
    go_enter Try.func13, Try.ntmps13
    go_upto_region 11 with (first | (go_at_call 31; (with_reducible refine (laws_big.calls _ _ l0 false _ ?side1 ?side2 A2.out).mono ?_); (case side1 => repeat (first | exact HR0.out | (with_reducible refine Kd.C_alloc ?_ _) | (with_reducible refine Kd.C_drewN ?_ _) | (with_reducible refine Kd.C_drew ?_))); (case side2 => exact HC0.out); rintro e w' ⟨rfl, ⟨nd, rfl⟩⟩; (try first | exact ⟨rfl, _, World.drewN_drewN _ _ _⟩ | exact ⟨rfl, _, Eq.trans (World.drewN_drewN _ _ _) (congrArg (World.drewN _) (Nat.add_assoc _ _ _))⟩)) | (go_at_call 75; (with_reducible refine (spec_DrawGapBetween.calls k _ _ l0 t268 t269 t270 _ ?side1 ?side2 A4.out).mono ?_); (case side1 => repeat (first | exact HR0.out | (with_reducible refine Kd.C_alloc ?_ _) | (with_reducible refine Kd.C_drewN ?_ _) | (with_reducible refine Kd.C_drew ?_))); (case side2 => exact HC0.out); rintro e w13 ⟨v271, rfl, ho0, hb⟩; have n0_ := Aside0.mk (Kd.R_lower ho0 (below_size (by repeat (first | (with_reducible first | exact HB.out | apply below_alloc | apply pw_below_drewN | apply below_drew1) | exact HB.out)))); have n1_ := Aside0.mk (below_step (by repeat (first | (with_reducible first | exact HB.out | apply below_alloc | apply pw_below_drewN | apply below_drew1) | exact HB.out)) hb); clear HB; have HO272 := n0_; have HB := n1_; clear n0_ n1_; (try clear hb); (try clear hb2); (try clear hk); (try clear hi); (try clear ho0); obtain ⟨Ao14, co14, eo14⟩ := Kd.R_slice HO272.out; subst eo14) | (go_at_call 76; (with_reducible refine (impl_GapBetween.calls k _ _ t268 t269 t270 t273 t274 t275 _ ?side1 ?side2 A5.out).mono ?_); (case side1 => repeat (first | exact (Kd.R_reads' HO272.out).2.2 | (with_reducible refine Kd.C_alloc ?_ _) | (with_reducible refine Kd.C_drewN ?_ _) | (with_reducible refine Kd.C_drew ?_))); (case side2 => exact (Kd.R_reads' HO272.out).2.1); rintro e w15 ⟨rfl, hb⟩; have n0_ := Aside0.mk (Kd.R_below (by (with_reducible repeat (first | apply Kd.R_alloc | apply Kd.R_drewN | apply Kd.R_drew)); exact HO272.out) hb); have n1_ := Aside0.mk (below_step (by repeat (first | (with_reducible first | exact HB.out | apply below_alloc | apply pw_below_drewN | apply below_drew1) | exact HB.out)) hb); clear HO272; clear HB; have HO272 := n0_; have HB := n1_; clear n0_ n1_; (try clear hb); (try clear hb2); (try clear hk); (try clear hi)) | (go_at_call 77; (with_reducible refine (spec_GapBetween.calls k _ _ t268 t269 t270 t276 t277 t278 _ ?side1 ?side2 A6.out).mono ?_); (case side1 => repeat (first | exact (Kd.R_reads' HO272.out).2.2 | (with_reducible refine Kd.C_alloc ?_ _) | (with_reducible refine Kd.C_drewN ?_ _) | (with_reducible refine Kd.C_drew ?_))); (case side2 => exact (Kd.R_reads' HO272.out).2.1); rintro e w' ⟨rfl, ⟨nd, rfl⟩⟩; (try first | exact ⟨rfl, _, World.drewN_drewN _ _ _⟩ | exact ⟨rfl, _, Eq.trans (World.drewN_drewN _ _ _) (congrArg (World.drewN _) (Nat.add_assoc _ _ _))⟩)) | (go_at_call 69; (with_reducible refine (impl_ChainTimes.calls k _ _ t268 t279 t280 _ ?side1 ?side2 A7.out).mono ?_); (case side1 => repeat (first | exact (Kd.R_reads' HO272.out).2.2 | (with_reducible refine Kd.C_alloc ?_ _) | (with_reducible refine Kd.C_drewN ?_ _) | (with_reducible refine Kd.C_drew ?_))); (case side2 => exact (Kd.R_reads' HO272.out).2.1); rintro e w16 ⟨v281, rfl, ho0, hb⟩; have n0_ := Aside0.mk (Kd.R_below (by (with_reducible repeat (first | apply Kd.R_alloc | apply Kd.R_drewN | apply Kd.R_drew)); exact HO272.out) hb); have n1_ := Aside0.mk (Kd.S_lower ho0 (below_size (by repeat (first | (with_reducible first | exact HB.out | apply below_alloc | apply pw_below_drewN | apply below_drew1) | exact HB.out)))); have n2_ := Aside0.mk (below_step (by repeat (first | (with_reducible first | exact HB.out | apply below_alloc | apply pw_below_drewN | apply below_drew1) | exact HB.out)) hb); clear HO272; clear HB; have HO272 := n0_; have HO282 := n1_; have HB := n2_; clear n0_ n1_ n2_; (try clear hb); (try clear hb2); (try clear hk); (try clear hi); (try clear ho0)) | (go_at_call 67; (with_reducible refine (spec_ChainTimes.calls k _ _ t268 t283 t284 _ ?side1 ?side2 A8.out).mono ?_); (case side1 => repeat (first | exact (Kd.R_reads' HO272.out).2.2 | (with_reducible refine Kd.C_alloc ?_ _) | (with_reducible refine Kd.C_drewN ?_ _) | (with_reducible refine Kd.C_drew ?_))); (case side2 => exact (Kd.R_reads' HO272.out).2.1); rintro e w17 ⟨v285, rfl, ho0, hb⟩; have n0_ := Aside0.mk (Kd.R_below (by (with_reducible repeat (first | apply Kd.R_alloc | apply Kd.R_drewN | apply Kd.R_drew)); exact HO272.out) hb); have n1_ := Aside0.mk (Kd.S_elder' (by (with_reducible repeat (first | apply Kd.S_alloc | apply Kd.S_drewN | apply Kd.S_drew)); exact HO282.out) (Kd.S_base ho0) hb); have n2_ := Aside0.mk (Kd.S_lower (Kd.S_new' ho0 (Kd.S_lt (by (with_reducible repeat (first | apply Kd.S_alloc | apply Kd.S_drewN | apply Kd.S_drew)); exact HO282.out))) (below_size (by repeat (first | (with_reducible first | exact HB.out | apply below_alloc | apply pw_below_drewN | apply below_drew1) | exact HB.out)))); have n3_ := Aside0.mk (below_step (by repeat (first | (with_reducible first | exact HB.out | apply below_alloc | apply pw_below_drewN | apply below_drew1) | exact HB.out)) hb); clear HO272; clear HO282; clear HB; have HO272 := n0_; have HO282 := n1_; have HO286 := n2_; have HB := n3_; clear n0_ n1_ n2_ n3_; (try clear hb); (try clear hb2); (try clear hk); (try clear hi); (try clear ho0)) | (go_at_call 78; (with_reducible refine (spec_DrawJoinChains.calls k _ _ l0 t287 t288 _ ?side1 ?side2 A9.out).mono ?_); (case side1 => repeat (first | exact (Kd.C_below HR0.out HB.out) | (with_reducible refine Kd.C_alloc ?_ _) | (with_reducible refine Kd.C_drewN ?_ _) | (with_reducible refine Kd.C_drew ?_))); (case side2 => exact HC0.out); rintro e w18 ⟨v289, v291, rfl, ho0, ho1, hb⟩; have n0_ := Aside0.mk (Kd.R_mono (Kd.R_told (Kd.R_told (Kd.R_old (by (with_reducible repeat (first | apply Kd.R_alloc | apply Kd.R_drewN | apply Kd.R_drew)); exact HO272.out) hb) (Kd.R_base ho0)) (Kd.R_base ho1)) (fun _ h_ => h_.1)); have n1_ := Aside0.mk (Kd.S_below (by (with_reducible repeat (first | apply Kd.S_alloc | apply Kd.S_drewN | apply Kd.S_drew)); exact HO282.out) hb); have n2_ := Aside0.mk (Kd.S_below (by (with_reducible repeat (first | apply Kd.S_alloc | apply Kd.S_drewN | apply Kd.S_drew)); exact HO286.out) hb); have n3_ := Aside0.mk (Kd.R_lower (Kd.R_new' ho0 (Kd.R_lt (by (with_reducible repeat (first | apply Kd.R_alloc | apply Kd.R_drewN | apply Kd.R_drew)); exact HO272.out))) (below_size (by repeat (first | (with_reducible first | exact HB.out | apply below_alloc | apply pw_below_drewN | apply below_drew1) | exact HB.out)))); have n4_ := Aside0.mk (Kd.R_lower (Kd.R_new' ho1 (Kd.R_lt (by (with_reducible repeat (first | apply Kd.R_alloc | apply Kd.R_drewN | apply Kd.R_drew)); exact HO272.out))) (below_size (by repeat (first | (with_reducible first | exact HB.out | apply below_alloc | apply pw_below_drewN | apply below_drew1) | exact HB.out)))); have n5_ := Aside0.mk (below_step (by repeat (first | (with_reducible first | exact HB.out | apply below_alloc | apply pw_below_drewN | apply below_drew1) | exact HB.out)) hb); clear HO272; clear HO282; clear HO286; clear HB; have HO272 := n0_; have HO282 := n1_; have HO286 := n2_; have HO290 := n3_; have HO292 := n4_; have HB := n5_; clear n0_ n1_ n2_ n3_ n4_ n5_; (try clear hb); (try clear hb2); (try clear hk); (try clear hi); (try clear ho0); (try clear ho1); obtain ⟨Ao19, co19, eo19⟩ := Kd.R_slice HO290.out; subst eo19; obtain ⟨Ao20, co20, eo20⟩ := Kd.R_slice HO292.out; subst eo20) | (go_at_call 79; (with_reducible refine (impl_JoinChains.calls k _ _ t287 _ _ t288 t293 t294 _ ?side1 ?side2 ?side3 ?side4 A10.out).mono ?_); (case side1 => repeat (first | exact (Kd.R_reads' HO290.out).2.2 | (with_reducible refine Kd.C_alloc ?_ _) | (with_reducible refine Kd.C_drewN ?_ _) | (with_reducible refine Kd.C_drew ?_))); (case side2 => exact (Kd.R_reads' HO290.out).2.1); (case side3 => repeat (first | exact (Kd.R_reads' HO292.out).2.2 | (with_reducible refine Kd.C_alloc ?_ _) | (with_reducible refine Kd.C_drewN ?_ _) | (with_reducible refine Kd.C_drew ?_))); (case side4 => exact (Kd.R_reads' HO292.out).2.1); rintro e w21 ⟨v295, rfl, ho0, hb⟩; have n0_ := Aside0.mk (Kd.R_elder' (by (with_reducible repeat (first | apply Kd.R_alloc | apply Kd.R_drewN | apply Kd.R_drew)); exact HO272.out) (Kd.R_base ho0) hb); have n1_ := Aside0.mk (Kd.S_below (by (with_reducible repeat (first | apply Kd.S_alloc | apply Kd.S_drewN | apply Kd.S_drew)); exact HO282.out) hb); have n2_ := Aside0.mk (Kd.S_below (by (with_reducible repeat (first | apply Kd.S_alloc | apply Kd.S_drewN | apply Kd.S_drew)); exact HO286.out) hb); have n3_ := Aside0.mk (Kd.R_elder' (by (with_reducible repeat (first | apply Kd.R_alloc | apply Kd.R_drewN | apply Kd.R_drew)); exact HO290.out) (Kd.R_base ho0) hb); have n4_ := Aside0.mk (Kd.R_elder' (by (with_reducible repeat (first | apply Kd.R_alloc | apply Kd.R_drewN | apply Kd.R_drew)); exact HO292.out) (Kd.R_base ho0) hb); have n5_ := Aside0.mk (Kd.R_lower (Kd.R_new' (Kd.R_new' (Kd.R_new' ho0 (Kd.R_lt (by (with_reducible repeat (first | apply Kd.R_alloc | apply Kd.R_drewN | apply Kd.R_drew)); exact HO272.out))) (Kd.R_lt (by (with_reducible repeat (first | apply Kd.R_alloc | apply Kd.R_drewN | apply Kd.R_drew)); exact HO290.out))) (Kd.R_lt (by (with_reducible repeat (first | apply Kd.R_alloc | apply Kd.R_drewN | apply Kd.R_drew)); exact HO292.out))) (below_size (by repeat (first | (with_reducible first | exact HB.out | apply below_alloc | apply pw_below_drewN | apply below_drew1) | exact HB.out)))); have n6_ := Aside0.mk (below_step (by repeat (first | (with_reducible first | exact HB.out | apply below_alloc | apply pw_below_drewN | apply below_drew1) | exact HB.out)) hb); clear HO272; clear HO282; clear HO286; clear HO290; clear HO292; clear HB; have HO272 := n0_; have HO282 := n1_; have HO286 := n2_; have HO290 := n3_; have HO292 := n4_; have HO296 := n5_; have HB := n6_; clear n0_ n1_ n2_ n3_ n4_ n5_ n6_; (try clear hb); (try clear hb2); (try clear hk); (try clear hi); (try clear ho0)) | (go_at_call 80; (with_reducible refine (spec_JoinChains.calls k _ _ t287 _ _ t288 t297 t298 _ ?side1 ?side2 ?side3 ?side4 A11.out).mono ?_); (case side1 => repeat (first | exact (Kd.R_reads' HO290.out).2.2 | (with_reducible refine Kd.C_alloc ?_ _) | (with_reducible refine Kd.C_drewN ?_ _) | (with_reducible refine Kd.C_drew ?_))); (case side2 => exact (Kd.R_reads' HO290.out).2.1); (case side3 => repeat (first | exact (Kd.R_reads' HO292.out).2.2 | (with_reducible refine Kd.C_alloc ?_ _) | (with_reducible refine Kd.C_drewN ?_ _) | (with_reducible refine Kd.C_drew ?_))); (case side4 => exact (Kd.R_reads' HO292.out).2.1); rintro e w22 ⟨v299, rfl, ho0, hb⟩; have n0_ := Aside0.mk (Kd.R_elder' (by (with_reducible repeat (first | apply Kd.R_alloc | apply Kd.R_drewN | apply Kd.R_drew)); exact HO272.out) (Kd.R_base ho0) hb); have n1_ := Aside0.mk (Kd.S_below (by (with_reducible repeat (first | apply Kd.S_alloc | apply Kd.S_drewN | apply Kd.S_drew)); exact HO282.out) hb); have n2_ := Aside0.mk (Kd.S_below (by (with_reducible repeat (first | apply Kd.S_alloc | apply Kd.S_drewN | apply Kd.S_drew)); exact HO286.out) hb); have n3_ := Aside0.mk (Kd.R_elder' (by (with_reducible repeat (first | apply Kd.R_alloc | apply Kd.R_drewN | apply Kd.R_drew)); exact HO290.out) (Kd.R_base ho0) hb); have n4_ := Aside0.mk (Kd.R_elder' (by (with_reducible repeat (first | apply Kd.R_alloc | apply Kd.R_drewN | apply Kd.R_drew)); exact HO292.out) (Kd.R_base ho0) hb); have n5_ := Aside0.mk (Kd.R_elder' (by (with_reducible repeat (first | apply Kd.R_alloc | apply Kd.R_drewN | apply Kd.R_drew)); exact HO296.out) (Kd.R_base ho0) hb); have n6_ := Aside0.mk (Kd.R_lower (Kd.R_new' (Kd.R_new' (Kd.R_new' (Kd.R_new' ho0 (Kd.R_lt (by (with_reducible repeat (first | apply Kd.R_alloc | apply Kd.R_drewN | apply Kd.R_drew)); exact HO272.out))) (Kd.R_lt (by (with_reducible repeat (first | apply Kd.R_alloc | apply Kd.R_drewN | apply Kd.R_drew)); exact HO290.out))) (Kd.R_lt (by (with_reducible repeat (first | apply Kd.R_alloc | apply Kd.R_drewN | apply Kd.R_drew)); exact HO292.out))) (Kd.R_lt (by (with_reducible repeat (first | apply Kd.R_alloc | apply Kd.R_drewN | apply Kd.R_drew)); exact HO296.out))) (below_size (by repeat (first | (with_reducible first | exact HB.out | apply below_alloc | apply pw_below_drewN | apply below_drew1) | exact HB.out)))); have n7_ := Aside0.mk (below_step (by repeat (first | (with_reducible first | exact HB.out | apply below_alloc | apply pw_below_drewN | apply below_drew1) | exact HB.out)) hb); clear HO272; clear HO282; clear HO286; clear HO290; clear HO292; clear HO296; clear HB; have HO272 := n0_; have HO282 := n1_; have HO286 := n2_; have HO290 := n3_; have HO292 := n4_; have HO296 := n5_; have HO300 := n6_; have HB := n7_; clear n0_ n1_ n2_ n3_ n4_ n5_ n6_ n7_; (try clear hb); (try clear hb2); (try clear hk); (try clear hi); (try clear ho0)))
    repeat (go_quiet (first | (go_at_call 31; (with_reducible refine (laws_big.calls _ _ l0 false _ ?side1 ?side2 A2.out).mono ?_); (case side1 => repeat (first | exact HR0.out | (with_reducible refine Kd.C_alloc ?_ _) | (with_reducible refine Kd.C_drewN ?_ _) | (with_reducible refine Kd.C_drew ?_))); (case side2 => exact HC0.out); rintro e w' ⟨rfl, ⟨nd, rfl⟩⟩; (try first | exact ⟨rfl, _, World.drewN_drewN _ _ _⟩ | exact ⟨rfl, _, Eq.trans (World.drewN_drewN _ _ _) (congrArg (World.drewN _) (Nat.add_assoc _ _ _))⟩)) | (go_at_call 75; (with_reducible refine (spec_DrawGapBetween.calls k _ _ l0 t268 t269 t270 _ ?side1 ?side2 A4.out).mono ?_); (case side1 => repeat (first | exact HR0.out | (with_reducible refine Kd.C_alloc ?_ _) | (with_reducible refine Kd.C_drewN ?_ _) | (with_reducible refine Kd.C_drew ?_))); (case side2 => exact HC0.out); rintro e w13 ⟨v271, rfl, ho0, hb⟩; have n0_ := Aside0.mk (Kd.R_lower ho0 (below_size (by repeat (first | (with_reducible first | exact HB.out | apply below_alloc | apply pw_below_drewN | apply below_drew1) | exact HB.out)))); have n1_ := Aside0.mk (below_step (by repeat (first | (with_reducible first | exact HB.out | apply below_alloc | apply pw_below_drewN | apply below_drew1) | exact HB.out)) hb); clear HB; have HO272 := n0_; have HB := n1_; clear n0_ n1_; (try clear hb); (try clear hb2); (try clear hk); (try clear hi); (try clear ho0); obtain ⟨Ao14, co14, eo14⟩ := Kd.R_slice HO272.out; subst eo14) | (go_at_call 76; (with_reducible refine (impl_GapBetween.calls k _ _ t268 t269 t270 t273 t274 t275 _ ?side1 ?side2 A5.out).mono ?_); (case side1 => repeat (first | exact (Kd.R_reads' HO272.out).2.2 | (with_reducible refine Kd.C_alloc ?_ _) | (with_reducible refine Kd.C_drewN ?_ _) | (with_reducible refine Kd.C_drew ?_))); (case side2 => exact (Kd.R_reads' HO272.out).2.1); rintro e w15 ⟨rfl, hb⟩; have n0_ := Aside0.mk (Kd.R_below (by (with_reducible repeat (first | apply Kd.R_alloc | apply Kd.R_drewN | apply Kd.R_drew)); exact HO272.out) hb); have n1_ := Aside0.mk (below_step (by repeat (first | (with_reducible first | exact HB.out | apply below_alloc | apply pw_below_drewN | apply below_drew1) | exact HB.out)) hb); clear HO272; clear HB; have HO272 := n0_; have HB := n1_; clear n0_ n1_; (try clear hb); (try clear hb2); (try clear hk); (try clear hi)) | (go_at_call 77; (with_reducible refine (spec_GapBetween.calls k _ _ t268 t269 t270 t276 t277 t278 _ ?side1 ?side2 A6.out).mono ?_); (case side1 => repeat (first | exact (Kd.R_reads' HO272.out).2.2 | (with_reducible refine Kd.C_alloc ?_ _) | (with_reducible refine Kd.C_drewN ?_ _) | (with_reducible refine Kd.C_drew ?_))); (case side2 => exact (Kd.R_reads' HO272.out).2.1); rintro e w' ⟨rfl, ⟨nd, rfl⟩⟩; (try first | exact ⟨rfl, _, World.drewN_drewN _ _ _⟩ | exact ⟨rfl, _, Eq.trans (World.drewN_drewN _ _ _) (congrArg (World.drewN _) (Nat.add_assoc _ _ _))⟩)) | (go_at_call 69; (with_reducible refine (impl_ChainTimes.calls k _ _ t268 t279 t280 _ ?side1 ?side2 A7.out).mono ?_); (case side1 => repeat (first | exact (Kd.R_reads' HO272.out).2.2 | (with_reducible refine Kd.C_alloc ?_ _) | (with_reducible refine Kd.C_drewN ?_ _) | (with_reducible refine Kd.C_drew ?_))); (case side2 => exact (Kd.R_reads' HO272.out).2.1); rintro e w16 ⟨v281, rfl, ho0, hb⟩; have n0_ := Aside0.mk (Kd.R_below (by (with_reducible repeat (first | apply Kd.R_alloc | apply Kd.R_drewN | apply Kd.R_drew)); exact HO272.out) hb); have n1_ := Aside0.mk (Kd.S_lower ho0 (below_size (by repeat (first | (with_reducible first | exact HB.out | apply below_alloc | apply pw_below_drewN | apply below_drew1) | exact HB.out)))); have n2_ := Aside0.mk (below_step (by repeat (first | (with_reducible first | exact HB.out | apply below_alloc | apply pw_below_drewN | apply below_drew1) | exact HB.out)) hb); clear HO272; clear HB; have HO272 := n0_; have HO282 := n1_; have HB := n2_; clear n0_ n1_ n2_; (try clear hb); (try clear hb2); (try clear hk); (try clear hi); (try clear ho0)) | (go_at_call 67; (with_reducible refine (spec_ChainTimes.calls k _ _ t268 t283 t284 _ ?side1 ?side2 A8.out).mono ?_); (case side1 => repeat (first | exact (Kd.R_reads' HO272.out).2.2 | (with_reducible refine Kd.C_alloc ?_ _) | (with_reducible refine Kd.C_drewN ?_ _) | (with_reducible refine Kd.C_drew ?_))); (case side2 => exact (Kd.R_reads' HO272.out).2.1); rintro e w17 ⟨v285, rfl, ho0, hb⟩; have n0_ := Aside0.mk (Kd.R_below (by (with_reducible repeat (first | apply Kd.R_alloc | apply Kd.R_drewN | apply Kd.R_drew)); exact HO272.out) hb); have n1_ := Aside0.mk (Kd.S_elder' (by (with_reducible repeat (first | apply Kd.S_alloc | apply Kd.S_drewN | apply Kd.S_drew)); exact HO282.out) (Kd.S_base ho0) hb); have n2_ := Aside0.mk (Kd.S_lower (Kd.S_new' ho0 (Kd.S_lt (by (with_reducible repeat (first | apply Kd.S_alloc | apply Kd.S_drewN | apply Kd.S_drew)); exact HO282.out))) (below_size (by repeat (first | (with_reducible first | exact HB.out | apply below_alloc | apply pw_below_drewN | apply below_drew1) | exact HB.out)))); have n3_ := Aside0.mk (below_step (by repeat (first | (with_reducible first | exact HB.out | apply below_alloc | apply pw_below_drewN | apply below_drew1) | exact HB.out)) hb); clear HO272; clear HO282; clear HB; have HO272 := n0_; have HO282 := n1_; have HO286 := n2_; have HB := n3_; clear n0_ n1_ n2_ n3_; (try clear hb); (try clear hb2); (try clear hk); (try clear hi); (try clear ho0)) | (go_at_call 78; (with_reducible refine (spec_DrawJoinChains.calls k _ _ l0 t287 t288 _ ?side1 ?side2 A9.out).mono ?_); (case side1 => repeat (first | exact (Kd.C_below HR0.out HB.out) | (with_reducible refine Kd.C_alloc ?_ _) | (with_reducible refine Kd.C_drewN ?_ _) | (with_reducible refine Kd.C_drew ?_))); (case side2 => exact HC0.out); rintro e w18 ⟨v289, v291, rfl, ho0, ho1, hb⟩; have n0_ := Aside0.mk (Kd.R_mono (Kd.R_told (Kd.R_told (Kd.R_old (by (with_reducible repeat (first | apply Kd.R_alloc | apply Kd.R_drewN | apply Kd.R_drew)); exact HO272.out) hb) (Kd.R_base ho0)) (Kd.R_base ho1)) (fun _ h_ => h_.1)); have n1_ := Aside0.mk (Kd.S_below (by (with_reducible repeat (first | apply Kd.S_alloc | apply Kd.S_drewN | apply Kd.S_drew)); exact HO282.out) hb); have n2_ := Aside0.mk (Kd.S_below (by (with_reducible repeat (first | apply Kd.S_alloc | apply Kd.S_drewN | apply Kd.S_drew)); exact HO286.out) hb); have n3_ := Aside0.mk (Kd.R_lower (Kd.R_new' ho0 (Kd.R_lt (by (with_reducible repeat (first | apply Kd.R_alloc | apply Kd.R_drewN | apply Kd.R_drew)); exact HO272.out))) (below_size (by repeat (first | (with_reducible first | exact HB.out | apply below_alloc | apply pw_below_drewN | apply below_drew1) | exact HB.out)))); have n4_ := Aside0.mk (Kd.R_lower (Kd.R_new' ho1 (Kd.R_lt (by (with_reducible repeat (first | apply Kd.R_alloc | apply Kd.R_drewN | apply Kd.R_drew)); exact HO272.out))) (below_size (by repeat (first | (with_reducible first | exact HB.out | apply below_alloc | apply pw_below_drewN | apply below_drew1) | exact HB.out)))); have n5_ := Aside0.mk (below_step (by repeat (first | (with_reducible first | exact HB.out | apply below_alloc | apply pw_below_drewN | apply below_drew1) | exact HB.out)) hb); clear HO272; clear HO282; clear HO286; clear HB; have HO272 := n0_; have HO282 := n1_; have HO286 := n2_; have HO290 := n3_; have HO292 := n4_; have HB := n5_; clear n0_ n1_ n2_ n3_ n4_ n5_; (try clear hb); (try clear hb2); (try clear hk); (try clear hi); (try clear ho0); (try clear ho1); obtain ⟨Ao19, co19, eo19⟩ := Kd.R_slice HO290.out; subst eo19; obtain ⟨Ao20, co20, eo20⟩ := Kd.R_slice HO292.out; subst eo20) | (go_at_call 79; (with_reducible refine (impl_JoinChains.calls k _ _ t287 _ _ t288 t293 t294 _ ?side1 ?side2 ?side3 ?side4 A10.out).mono ?_); (case side1 => repeat (first | exact (Kd.R_reads' HO290.out).2.2 | (with_reducible refine Kd.C_alloc ?_ _) | (with_reducible refine Kd.C_drewN ?_ _) | (with_reducible refine Kd.C_drew ?_))); (case side2 => exact (Kd.R_reads' HO290.out).2.1); (case side3 => repeat (first | exact (Kd.R_reads' HO292.out).2.2 | (with_reducible refine Kd.C_alloc ?_ _) | (with_reducible refine Kd.C_drewN ?_ _) | (with_reducible refine Kd.C_drew ?_))); (case side4 => exact (Kd.R_reads' HO292.out).2.1); rintro e w21 ⟨v295, rfl, ho0, hb⟩; have n0_ := Aside0.mk (Kd.R_elder' (by (with_reducible repeat (first | apply Kd.R_alloc | apply Kd.R_drewN | apply Kd.R_drew)); exact HO272.out) (Kd.R_base ho0) hb); have n1_ := Aside0.mk (Kd.S_below (by (with_reducible repeat (first | apply Kd.S_alloc | apply Kd.S_drewN | apply Kd.S_drew)); exact HO282.out) hb); have n2_ := Aside0.mk (Kd.S_below (by (with_reducible repeat (first | apply Kd.S_alloc | apply Kd.S_drewN | apply Kd.S_drew)); exact HO286.out) hb); have n3_ := Aside0.mk (Kd.R_elder' (by (with_reducible repeat (first | apply Kd.R_alloc | apply Kd.R_drewN | apply Kd.R_drew)); exact HO290.out) (Kd.R_base ho0) hb); have n4_ := Aside0.mk (Kd.R_elder' (by (with_reducible repeat (first | apply Kd.R_alloc | apply Kd.R_drewN | apply Kd.R_drew)); exact HO292.out) (Kd.R_base ho0) hb); have n5_ := Aside0.mk (Kd.R_lower (Kd.R_new' (Kd.R_new' (Kd.R_new' ho0 (Kd.R_lt (by (with_reducible repeat (first | apply Kd.R_alloc | apply Kd.R_drewN | apply Kd.R_drew)); exact HO272.out))) (Kd.R_lt (by (with_reducible repeat (first | apply Kd.R_alloc | apply Kd.R_drewN | apply Kd.R_drew)); exact HO290.out))) (Kd.R_lt (by (with_reducible repeat (first | apply Kd.R_alloc | apply Kd.R_drewN | apply Kd.R_drew)); exact HO292.out))) (below_size (by repeat (first | (with_reducible first | exact HB.out | apply below_alloc | apply pw_below_drewN | apply below_drew1) | exact HB.out)))); have n6_ := Aside0.mk (below_step (by repeat (first | (with_reducible first | exact HB.out | apply below_alloc | apply pw_below_drewN | apply below_drew1) | exact HB.out)) hb); clear HO272; clear HO282; clear HO286; clear HO290; clear HO292; clear HB; have HO272 := n0_; have HO282 := n1_; have HO286 := n2_; have HO290 := n3_; have HO292 := n4_; have HO296 := n5_; have HB := n6_; clear n0_ n1_ n2_ n3_ n4_ n5_ n6_; (try clear hb); (try clear hb2); (try clear hk); (try clear hi); (try clear ho0)) | (go_at_call 80; (with_reducible refine (spec_JoinChains.calls k _ _ t287 _ _ t288 t297 t298 _ ?side1 ?side2 ?side3 ?side4 A11.out).mono ?_); (case side1 => repeat (first | exact (Kd.R_reads' HO290.out).2.2 | (with_reducible refine Kd.C_alloc ?_ _) | (with_reducible refine Kd.C_drewN ?_ _) | (with_reducible refine Kd.C_drew ?_))); (case side2 => exact (Kd.R_reads' HO290.out).2.1); (case side3 => repeat (first | exact (Kd.R_reads' HO292.out).2.2 | (with_reducible refine Kd.C_alloc ?_ _) | (with_reducible refine Kd.C_drewN ?_ _) | (with_reducible refine Kd.C_drew ?_))); (case side4 => exact (Kd.R_reads' HO292.out).2.1); rintro e w22 ⟨v299, rfl, ho0, hb⟩; have n0_ := Aside0.mk (Kd.R_elder' (by (with_reducible repeat (first | apply Kd.R_alloc | apply Kd.R_drewN | apply Kd.R_drew)); exact HO272.out) (Kd.R_base ho0) hb); have n1_ := Aside0.mk (Kd.S_below (by (with_reducible repeat (first | apply Kd.S_alloc | apply Kd.S_drewN | apply Kd.S_drew)); exact HO282.out) hb); have n2_ := Aside0.mk (Kd.S_below (by (with_reducible repeat (first | apply Kd.S_alloc | apply Kd.S_drewN | apply Kd.S_drew)); exact HO286.out) hb); have n3_ := Aside0.mk (Kd.R_elder' (by (with_reducible repeat (first | apply Kd.R_alloc | apply Kd.R_drewN | apply Kd.R_drew)); exact HO290.out) (Kd.R_base ho0) hb); have n4_ := Aside0.mk (Kd.R_elder' (by (with_reducible repeat (first | apply Kd.R_alloc | apply Kd.R_drewN | apply Kd.R_drew)); exact HO292.out) (Kd.R_base ho0) hb); have n5_ := Aside0.mk (Kd.R_elder' (by (with_reducible repeat (first | apply Kd.R_alloc | apply Kd.R_drewN | apply Kd.R_drew)); exact HO296.out) (Kd.R_base ho0) hb); have n6_ := Aside0.mk (Kd.R_lower (Kd.R_new' (Kd.R_new' (Kd.R_new' (Kd.R_new' ho0 (Kd.R_lt (by (with_reducible repeat (first | apply Kd.R_alloc | apply Kd.R_drewN | apply Kd.R_drew)); exact HO272.out))) (Kd.R_lt (by (with_reducible repeat (first | apply Kd.R_alloc | apply Kd.R_drewN | apply Kd.R_drew)); exact HO290.out))) (Kd.R_lt (by (with_reducible repeat (first | apply Kd.R_alloc | apply Kd.R_drewN | apply Kd.R_drew)); exact HO292.out))) (Kd.R_lt (by (with_reducible repeat (first | apply Kd.R_alloc | apply Kd.R_drewN | apply Kd.R_drew)); exact HO296.out))) (below_size (by repeat (first | (with_reducible first | exact HB.out | apply below_alloc | apply pw_below_drewN | apply below_drew1) | exact HB.out)))); have n7_ := Aside0.mk (below_step (by repeat (first | (with_reducible first | exact HB.out | apply below_alloc | apply pw_below_drewN | apply below_drew1) | exact HB.out)) hb); clear HO272; clear HO282; clear HO286; clear HO290; clear HO292; clear HO296; clear HB; have HO272 := n0_; have HO282 := n1_; have HO286 := n2_; have HO290 := n3_; have HO292 := n4_; have HO296 := n5_; have HO300 := n6_; have HB := n7_; clear n0_ n1_ n2_ n3_ n4_ n5_ n6_ n7_; (try clear hb); (try clear hb2); (try clear hk); (try clear hi); (try clear ho0))); go_upto_region 11 with (first | (go_at_call 31; (with_reducible refine (laws_big.calls _ _ l0 false _ ?side1 ?side2 A2.out).mono ?_); (case side1 => repeat (first | exact HR0.out | (with_reducible refine Kd.C_alloc ?_ _) | (with_reducible refine Kd.C_drewN ?_ _) | (with_reducible refine Kd.C_drew ?_))); (case side2 => exact HC0.out); rintro e w' ⟨rfl, ⟨nd, rfl⟩⟩; (try first | exact ⟨rfl, _, World.drewN_drewN _ _ _⟩ | exact ⟨rfl, _, Eq.trans (World.drewN_drewN _ _ _) (congrArg (World.drewN _) (Nat.add_assoc _ _ _))⟩)) | (go_at_call 75; (with_reducible refine (spec_DrawGapBetween.calls k _ _ l0 t268 t269 t270 _ ?side1 ?side2 A4.out).mono ?_); (case side1 => repeat (first | exact HR0.out | (with_reducible refine Kd.C_alloc ?_ _) | (with_reducible refine Kd.C_drewN ?_ _) | (with_reducible refine Kd.C_drew ?_))); (case side2 => exact HC0.out); rintro e w13 ⟨v271, rfl, ho0, hb⟩; have n0_ := Aside0.mk (Kd.R_lower ho0 (below_size (by repeat (first | (with_reducible first | exact HB.out | apply below_alloc | apply pw_below_drewN | apply below_drew1) | exact HB.out)))); have n1_ := Aside0.mk (below_step (by repeat (first | (with_reducible first | exact HB.out | apply below_alloc | apply pw_below_drewN | apply below_drew1) | exact HB.out)) hb); clear HB; have HO272 := n0_; have HB := n1_; clear n0_ n1_; (try clear hb); (try clear hb2); (try clear hk); (try clear hi); (try clear ho0); obtain ⟨Ao14, co14, eo14⟩ := Kd.R_slice HO272.out; subst eo14) | (go_at_call 76; (with_reducible refine (impl_GapBetween.calls k _ _ t268 t269 t270 t273 t274 t275 _ ?side1 ?side2 A5.out).mono ?_); (case side1 => repeat (first | exact (Kd.R_reads' HO272.out).2.2 | (with_reducible refine Kd.C_alloc ?_ _) | (with_reducible refine Kd.C_drewN ?_ _) | (with_reducible refine Kd.C_drew ?_))); (case side2 => exact (Kd.R_reads' HO272.out).2.1); rintro e w15 ⟨rfl, hb⟩; have n0_ := Aside0.mk (Kd.R_below (by (with_reducible repeat (first | apply Kd.R_alloc | apply Kd.R_drewN | apply Kd.R_drew)); exact HO272.out) hb); have n1_ := Aside0.mk (below_step (by repeat (first | (with_reducible first | exact HB.out | apply below_alloc | apply pw_below_drewN | apply below_drew1) | exact HB.out)) hb); clear HO272; clear HB; have HO272 := n0_; have HB := n1_; clear n0_ n1_; (try clear hb); (try clear hb2); (try clear hk); (try clear hi)) | (go_at_call 77; (with_reducible refine (spec_GapBetween.calls k _ _ t268 t269 t270 t276 t277 t278 _ ?side1 ?side2 A6.out).mono ?_); (case side1 => repeat (first | exact (Kd.R_reads' HO272.out).2.2 | (with_reducible refine Kd.C_alloc ?_ _) | (with_reducible refine Kd.C_drewN ?_ _) | (with_reducible refine Kd.C_drew ?_))); (case side2 => exact (Kd.R_reads' HO272.out).2.1); rintro e w' ⟨rfl, ⟨nd, rfl⟩⟩; (try first | exact ⟨rfl, _, World.drewN_drewN _ _ _⟩ | exact ⟨rfl, _, Eq.trans (World.drewN_drewN _ _ _) (congrArg (World.drewN _) (Nat.add_assoc _ _ _))⟩)) | (go_at_call 69; (with_reducible refine (impl_ChainTimes.calls k _ _ t268 t279 t280 _ ?side1 ?side2 A7.out).mono ?_); (case side1 => repeat (first | exact (Kd.R_reads' HO272.out).2.2 | (with_reducible refine Kd.C_alloc ?_ _) | (with_reducible refine Kd.C_drewN ?_ _) | (with_reducible refine Kd.C_drew ?_))); (case side2 => exact (Kd.R_reads' HO272.out).2.1); rintro e w16 ⟨v281, rfl, ho0, hb⟩; have n0_ := Aside0.mk (Kd.R_below (by (with_reducible repeat (first | apply Kd.R_alloc | apply Kd.R_drewN | apply Kd.R_drew)); exact HO272.out) hb); have n1_ := Aside0.mk (Kd.S_lower ho0 (below_size (by repeat (first | (with_reducible first | exact HB.out | apply below_alloc | apply pw_below_drewN | apply below_drew1) | exact HB.out)))); have n2_ := Aside0.mk (below_step (by repeat (first | (with_reducible first | exact HB.out | apply below_alloc | apply pw_below_drewN | apply below_drew1) | exact HB.out)) hb); clear HO272; clear HB; have HO272 := n0_; have HO282 := n1_; have HB := n2_; clear n0_ n1_ n2_; (try clear hb); (try clear hb2); (try clear hk); (try clear hi); (try clear ho0)) | (go_at_call 67; (with_reducible refine (spec_ChainTimes.calls k _ _ t268 t283 t284 _ ?side1 ?side2 A8.out).mono ?_); (case side1 => repeat (first | exact (Kd.R_reads' HO272.out).2.2 | (with_reducible refine Kd.C_alloc ?_ _) | (with_reducible refine Kd.C_drewN ?_ _) | (with_reducible refine Kd.C_drew ?_))); (case side2 => exact (Kd.R_reads' HO272.out).2.1); rintro e w17 ⟨v285, rfl, ho0, hb⟩; have n0_ := Aside0.mk (Kd.R_below (by (with_reducible repeat (first | apply Kd.R_alloc | apply Kd.R_drewN | apply Kd.R_drew)); exact HO272.out) hb); have n1_ := Aside0.mk (Kd.S_elder' (by (with_reducible repeat (first | apply Kd.S_alloc | apply Kd.S_drewN | apply Kd.S_drew)); exact HO282.out) (Kd.S_base ho0) hb); have n2_ := Aside0.mk (Kd.S_lower (Kd.S_new' ho0 (Kd.S_lt (by (with_reducible repeat (first | apply Kd.S_alloc | apply Kd.S_drewN | apply Kd.S_drew)); exact HO282.out))) (below_size (by repeat (first | (with_reducible first | exact HB.out | apply below_alloc | apply pw_below_drewN | apply below_drew1) | exact HB.out)))); have n3_ := Aside0.mk (below_step (by repeat (first | (with_reducible first | exact HB.out | apply below_alloc | apply pw_below_drewN | apply below_drew1) | exact HB.out)) hb); clear HO272; clear HO282; clear HB; have HO272 := n0_; have HO282 := n1_; have HO286 := n2_; have HB := n3_; clear n0_ n1_ n2_ n3_; (try clear hb); (try clear hb2); (try clear hk); (try clear hi); (try clear ho0)) | (go_at_call 78; (with_reducible refine (spec_DrawJoinChains.calls k _ _ l0 t287 t288 _ ?side1 ?side2 A9.out).mono ?_); (case side1 => repeat (first | exact (Kd.C_below HR0.out HB.out) | (with_reducible refine Kd.C_alloc ?_ _) | (with_reducible refine Kd.C_drewN ?_ _) | (with_reducible refine Kd.C_drew ?_))); (case side2 => exact HC0.out); rintro e w18 ⟨v289, v291, rfl, ho0, ho1, hb⟩; have n0_ := Aside0.mk (Kd.R_mono (Kd.R_told (Kd.R_told (Kd.R_old (by (with_reducible repeat (first | apply Kd.R_alloc | apply Kd.R_drewN | apply Kd.R_drew)); exact HO272.out) hb) (Kd.R_base ho0)) (Kd.R_base ho1)) (fun _ h_ => h_.1)); have n1_ := Aside0.mk (Kd.S_below (by (with_reducible repeat (first | apply Kd.S_alloc | apply Kd.S_drewN | apply Kd.S_drew)); exact HO282.out) hb); have n2_ := Aside0.mk (Kd.S_below (by (with_reducible repeat (first | apply Kd.S_alloc | apply Kd.S_drewN | apply Kd.S_drew)); exact HO286.out) hb); have n3_ := Aside0.mk (Kd.R_lower (Kd.R_new' ho0 (Kd.R_lt (by (with_reducible repeat (first | apply Kd.R_alloc | apply Kd.R_drewN | apply Kd.R_drew)); exact HO272.out))) (below_size (by repeat (first | (with_reducible first | exact HB.out | apply below_alloc | apply pw_below_drewN | apply below_drew1) | exact HB.out)))); have n4_ := Aside0.mk (Kd.R_lower (Kd.R_new' ho1 (Kd.R_lt (by (with_reducible repeat (first | apply Kd.R_alloc | apply Kd.R_drewN | apply Kd.R_drew)); exact HO272.out))) (below_size (by repeat (first | (with_reducible first | exact HB.out | apply below_alloc | apply pw_below_drewN | apply below_drew1) | exact HB.out)))); have n5_ := Aside0.mk (below_step (by repeat (first | (with_reducible first | exact HB.out | apply below_alloc | apply pw_below_drewN | apply below_drew1) | exact HB.out)) hb); clear HO272; clear HO282; clear HO286; clear HB; have HO272 := n0_; have HO282 := n1_; have HO286 := n2_; have HO290 := n3_; have HO292 := n4_; have HB := n5_; clear n0_ n1_ n2_ n3_ n4_ n5_; (try clear hb); (try clear hb2); (try clear hk); (try clear hi); (try clear ho0); (try clear ho1); obtain ⟨Ao19, co19, eo19⟩ := Kd.R_slice HO290.out; subst eo19; obtain ⟨Ao20, co20, eo20⟩ := Kd.R_slice HO292.out; subst eo20) | (go_at_call 79; (with_reducible refine (impl_JoinChains.calls k _ _ t287 _ _ t288 t293 t294 _ ?side1 ?side2 ?side3 ?side4 A10.out).mono ?_); (case side1 => repeat (first | exact (Kd.R_reads' HO290.out).2.2 | (with_reducible refine Kd.C_alloc ?_ _) | (with_reducible refine Kd.C_drewN ?_ _) | (with_reducible refine Kd.C_drew ?_))); (case side2 => exact (Kd.R_reads' HO290.out).2.1); (case side3 => repeat (first | exact (Kd.R_reads' HO292.out).2.2 | (with_reducible refine Kd.C_alloc ?_ _) | (with_reducible refine Kd.C_drewN ?_ _) | (with_reducible refine Kd.C_drew ?_))); (case side4 => exact (Kd.R_reads' HO292.out).2.1); rintro e w21 ⟨v295, rfl, ho0, hb⟩; have n0_ := Aside0.mk (Kd.R_elder' (by (with_reducible repeat (first | apply Kd.R_alloc | apply Kd.R_drewN | apply Kd.R_drew)); exact HO272.out) (Kd.R_base ho0) hb); have n1_ := Aside0.mk (Kd.S_below (by (with_reducible repeat (first | apply Kd.S_alloc | apply Kd.S_drewN | apply Kd.S_drew)); exact HO282.out) hb); have n2_ := Aside0.mk (Kd.S_below (by (with_reducible repeat (first | apply Kd.S_alloc | apply Kd.S_drewN | apply Kd.S_drew)); exact HO286.out) hb); have n3_ := Aside0.mk (Kd.R_elder' (by (with_reducible repeat (first | apply Kd.R_alloc | apply Kd.R_drewN | apply Kd.R_drew)); exact HO290.out) (Kd.R_base ho0) hb); have n4_ := Aside0.mk (Kd.R_elder' (by (with_reducible repeat (first | apply Kd.R_alloc | apply Kd.R_drewN | apply Kd.R_drew)); exact HO292.out) (Kd.R_base ho0) hb); have n5_ := Aside0.mk (Kd.R_lower (Kd.R_new' (Kd.R_new' (Kd.R_new' ho0 (Kd.R_lt (by (with_reducible repeat (first | apply Kd.R_alloc | apply Kd.R_drewN | apply Kd.R_drew)); exact HO272.out))) (Kd.R_lt (by (with_reducible repeat (first | apply Kd.R_alloc | apply Kd.R_drewN | apply Kd.R_drew)); exact HO290.out))) (Kd.R_lt (by (with_reducible repeat (first | apply Kd.R_alloc | apply Kd.R_drewN | apply Kd.R_drew)); exact HO292.out))) (below_size (by repeat (first | (with_reducible first | exact HB.out | apply below_alloc | apply pw_below_drewN | apply below_drew1) | exact HB.out)))); have n6_ := Aside0.mk (below_step (by repeat (first | (with_reducible first | exact HB.out | apply below_alloc | apply pw_below_drewN | apply below_drew1) | exact HB.out)) hb); clear HO272; clear HO282; clear HO286; clear HO290; clear HO292; clear HB; have HO272 := n0_; have HO282 := n1_; have HO286 := n2_; have HO290 := n3_; have HO292 := n4_; have HO296 := n5_; have HB := n6_; clear n0_ n1_ n2_ n3_ n4_ n5_ n6_; (try clear hb); (try clear hb2); (try clear hk); (try clear hi); (try clear ho0)) | (go_at_call 80; (with_reducible refine (spec_JoinChains.calls k _ _ t287 _ _ t288 t297 t298 _ ?side1 ?side2 ?side3 ?side4 A11.out).mono ?_); (case side1 => repeat (first | exact (Kd.R_reads' HO290.out).2.2 | (with_reducible refine Kd.C_alloc ?_ _) | (with_reducible refine Kd.C_drewN ?_ _) | (with_reducible refine Kd.C_drew ?_))); (case side2 => exact (Kd.R_reads' HO290.out).2.1); (case side3 => repeat (first | exact (Kd.R_reads' HO292.out).2.2 | (with_reducible refine Kd.C_alloc ?_ _) | (with_reducible refine Kd.C_drewN ?_ _) | (with_reducible refine Kd.C_drew ?_))); (case side4 => exact (Kd.R_reads' HO292.out).2.1); rintro e w22 ⟨v299, rfl, ho0, hb⟩; have n0_ := Aside0.mk (Kd.R_elder' (by (with_reducible repeat (first | apply Kd.R_alloc | apply Kd.R_drewN | apply Kd.R_drew)); exact HO272.out) (Kd.R_base ho0) hb); have n1_ := Aside0.mk (Kd.S_below (by (with_reducible repeat (first | apply Kd.S_alloc | apply Kd.S_drewN | apply Kd.S_drew)); exact HO282.out) hb); have n2_ := Aside0.mk (Kd.S_below (by (with_reducible repeat (first | apply Kd.S_alloc | apply Kd.S_drewN | apply Kd.S_drew)); exact HO286.out) hb); have n3_ := Aside0.mk (Kd.R_elder' (by (with_reducible repeat (first | apply Kd.R_alloc | apply Kd.R_drewN | apply Kd.R_drew)); exact HO290.out) (Kd.R_base ho0) hb); have n4_ := Aside0.mk (Kd.R_elder' (by (with_reducible repeat (first | apply Kd.R_alloc | apply Kd.R_drewN | apply Kd.R_drew)); exact HO292.out) (Kd.R_base ho0) hb); have n5_ := Aside0.mk (Kd.R_elder' (by (with_reducible repeat (first | apply Kd.R_alloc | apply Kd.R_drewN | apply Kd.R_drew)); exact HO296.out) (Kd.R_base ho0) hb); have n6_ := Aside0.mk (Kd.R_lower (Kd.R_new' (Kd.R_new' (Kd.R_new' (Kd.R_new' ho0 (Kd.R_lt (by (with_reducible repeat (first | apply Kd.R_alloc | apply Kd.R_drewN | apply Kd.R_drew)); exact HO272.out))) (Kd.R_lt (by (with_reducible repeat (first | apply Kd.R_alloc | apply Kd.R_drewN | apply Kd.R_drew)); exact HO290.out))) (Kd.R_lt (by (with_reducible repeat (first | apply Kd.R_alloc | apply Kd.R_drewN | apply Kd.R_drew)); exact HO292.out))) (Kd.R_lt (by (with_reducible repeat (first | apply Kd.R_alloc | apply Kd.R_drewN | apply Kd.R_drew)); exact HO296.out))) (below_size (by repeat (first | (with_reducible first | exact HB.out | apply below_alloc | apply pw_below_drewN | apply below_drew1) | exact HB.out)))); have n7_ := Aside0.mk (below_step (by repeat (first | (with_reducible first | exact HB.out | apply below_alloc | apply pw_below_drewN | apply below_drew1) | exact HB.out)) hb); clear HO272; clear HO282; clear HO286; clear HO290; clear HO292; clear HO296; clear HB; have HO272 := n0_; have HO282 := n1_; have HO286 := n2_; have HO290 := n3_; have HO292 := n4_; have HO296 := n5_; have HO300 := n6_; have HB := n7_; clear n0_ n1_ n2_ n3_ n4_ n5_ n6_ n7_; (try clear hb); (try clear hb2); (try clear hk); (try clear hi); (try clear ho0))))
    (try simp only [Act.put, List.setIfInBounds_toArray, List.set_cons_zero, List.set_cons_succ])
    go_cut [114] (fun v114 wc => ∃ (kq : Nat) (x114_11 : Bool), v114 = .bool x114_11 ∧ Aside0 (laws_FnChains.j0 kq t268 t269 t270 t273 t274 t275 t279 t283 t287 t288 t293 t294 x114_11 = some r) ∧ Aside0 (kq ≤ k) ∧ Aside0 (Kd.R k176 176 wc w.heap.size (fun k_ => some k_ ≠ ((.slice Ao19 t287.length co19) : Value).ownBlock ∧ some k_ ≠ ((.slice Ao20 t288.length co20) : Value).ownBlock ∧ some k_ ≠ (v295 : Value).ownBlock) (.slice Ao14 t268.length co14) t268) ∧ Aside0 (Kd.S (Kd.slice 2 (Kd.int .i64)) 30 wc w.heap.size (fun k_ => some k_ ≠ (v285 : Value).ownBlock) v281 t279) ∧ Aside0 (Kd.S (Kd.slice 2 (Kd.int .i64)) 30 wc w.heap.size (fun k_ => some k_ ≠ (v281 : Value).ownBlock) v285 t283) ∧ Aside0 (Kd.R k176 176 wc w.heap.size (fun k_ => some k_ ≠ ((.slice Ao14 t268.length co14) : Value).ownBlock ∧ some k_ ≠ ((.slice Ao20 t288.length co20) : Value).ownBlock ∧ some k_ ≠ (v295 : Value).ownBlock) (.slice Ao19 t287.length co19) t287) ∧ Aside0 (Kd.R k176 176 wc w.heap.size (fun k_ => some k_ ≠ ((.slice Ao14 t268.length co14) : Value).ownBlock ∧ some k_ ≠ ((.slice Ao19 t287.length co19) : Value).ownBlock ∧ some k_ ≠ (v295 : Value).ownBlock) (.slice Ao20 t288.length co20) t288) ∧ Aside0 (Kd.R k176 176 wc w.heap.size (fun k_ => some k_ ≠ ((.slice Ao14 t268.length co14) : Value).ownBlock ∧ some k_ ≠ ((.slice Ao19 t287.length co19) : Value).ownBlock ∧ some k_ ≠ ((.slice Ao20 t288.length co20) : Value).ownBlock) v295 t293) ∧ Aside0 (Below w.heap.size w wc))
    case first =>
      have H := HC12.out
      clear HC12
      by_cases c23 : t275 = t278
      · rw [if_pos c23] at H
        have c23b0 : (t275 == t278) = true := beq_iff_eq.mpr c23
        have c23b1 : (t275 != t278) = false := bne_eq_false_iff_eq.mpr c23
        clear c23
        (first | rw [c23b0] | (simp only [i64_w, i32_w]; rw [c23b0]) | skip)
        by_cases c24 : t273 = t276
        · rw [if_pos c24] at H
          have c24b0 : (t273 == t276) = true := beq_iff_eq.mpr c24
          have c24b1 : (t273 != t276) = false := bne_eq_false_iff_eq.mpr c24
          clear c24
          by_cases c25 : t274 = t277
          · rw [if_pos c25] at H
            have c25b0 : (t274 == t277) = true := beq_iff_eq.mpr c25
            have c25b1 : (t274 != t277) = false := bne_eq_false_iff_eq.mpr c25
            clear c25
            by_cases c26 : t280 = t284
            · rw [if_pos c26] at H
              have c26b0 : (t280 == t284) = true := beq_iff_eq.mpr c26
              have c26b1 : (t280 != t284) = false := bne_eq_false_iff_eq.mpr c26
              clear c26
              replace H := Option.bind_eq_some_iff.mp H
              obtain ⟨t301, A270, H⟩ := H
              replace H : (if t301 = true then (if t294 = t298 then ((laws_likeLinks.f k t293 t297).bind fun t302 => (if t302 = true then ((impl_IsChain.f k t268).bind fun t303 => (laws_FnChains.j0 k t268 t269 t270 t273 t274 t275 t279 t283 t287 t288 t293 t294 (t303 != (t284 == 0)))) else (laws_FnChains.j0 k t268 t269 t270 t273 t274 t275 t279 t283 t287 t288 t293 t294 true))) else (laws_FnChains.j0 k t268 t269 t270 t273 t274 t275 t279 t283 t287 t288 t293 t294 true)) else (laws_FnChains.j0 k t268 t269 t270 t273 t274 t275 t279 t283 t287 t288 t293 t294 true)) = some r := H
              have A27 := Aside0.mk A270
              clear A270
              by_cases c28 : t301 = true
              · subst c28
                have H1 : (if t294 = t298 then ((laws_likeLinks.f k t293 t297).bind fun t302 => (if t302 = true then ((impl_IsChain.f k t268).bind fun t303 => (laws_FnChains.j0 k t268 t269 t270 t273 t274 t275 t279 t283 t287 t288 t293 t294 (t303 != (t284 == 0)))) else (laws_FnChains.j0 k t268 t269 t270 t273 t274 t275 t279 t283 t287 t288 t293 t294 true))) else (laws_FnChains.j0 k t268 t269 t270 t273 t274 t275 t279 t283 t287 t288 t293 t294 true)) = some r := by rw [if_pos rfl] at H; exact H
                clear H
                have H := H1
                clear H1
                by_cases c29 : t294 = t298
                · rw [if_pos c29] at H
                  have c29b0 : (t294 == t298) = true := beq_iff_eq.mpr c29
                  have c29b1 : (t294 != t298) = false := bne_eq_false_iff_eq.mpr c29
                  clear c29
                  replace H := Option.bind_eq_some_iff.mp H
                  obtain ⟨t302, A300, H⟩ := H
                  replace H : (if t302 = true then ((impl_IsChain.f k t268).bind fun t303 => (laws_FnChains.j0 k t268 t269 t270 t273 t274 t275 t279 t283 t287 t288 t293 t294 (t303 != (t284 == 0)))) else (laws_FnChains.j0 k t268 t269 t270 t273 t274 t275 t279 t283 t287 t288 t293 t294 true)) = some r := H
                  have A30 := Aside0.mk A300
                  clear A300
                  by_cases c31 : t302 = true
                  · subst c31
                    have H1 : ((impl_IsChain.f k t268).bind fun t303 => (laws_FnChains.j0 k t268 t269 t270 t273 t274 t275 t279 t283 t287 t288 t293 t294 (t303 != (t284 == 0)))) = some r := by rw [if_pos rfl] at H; exact H
                    clear H
                    have H := H1
                    clear H1
                    replace H := Option.bind_eq_some_iff.mp H
                    obtain ⟨t303, A320, H⟩ := H
                    replace H : (laws_FnChains.j0 k t268 t269 t270 t273 t274 t275 t279 t283 t287 t288 t293 t294 (t303 != (t284 == 0))) = some r := H
                    have A32 := Aside0.mk A320
                    clear A320
                    have H' := Aside0.mk H
                    clear H
                    obtain ⟨Ao33, co33, eo33⟩ := Kd.S_slice HO282.out
                    subst eo33
                    obtain ⟨Ao34, co34, eo34⟩ := Kd.S_slice HO286.out
                    subst eo34
                    go_wp2_with (first | (go_at_call 81; (with_reducible refine (laws_likeRows.calls k _ _ t279 _ _ t283 true _ ?side1 ?side2 ?side3 ?side4 A27.out).mono ?_); (case side1 => repeat (first | exact (Kd.S_reads' HO282.out).2.2 | (with_reducible refine Kd.C_alloc ?_ _) | (with_reducible refine Kd.C_drewN ?_ _) | (with_reducible refine Kd.C_drew ?_))); (case side2 => exact (Kd.S_reads' HO282.out).2.1); (case side3 => repeat (first | exact (Kd.S_reads' HO286.out).2.2 | (with_reducible refine Kd.C_alloc ?_ _) | (with_reducible refine Kd.C_drewN ?_ _) | (with_reducible refine Kd.C_drew ?_))); (case side4 => exact (Kd.S_reads' HO286.out).2.1); rintro e w' ⟨rfl, ⟨nd, rfl⟩⟩; (try first | exact ⟨rfl, _, World.drewN_drewN _ _ _⟩ | exact ⟨rfl, _, Eq.trans (World.drewN_drewN _ _ _) (congrArg (World.drewN _) (Nat.add_assoc _ _ _))⟩); obtain ⟨Ao35, co35, eo35⟩ := Kd.R_slice HO296.out; subst eo35; obtain ⟨Ao36, co36, eo36⟩ := Kd.R_slice HO300.out; subst eo36) | (go_at_call 82; (with_reducible refine (laws_likeLinks.calls k _ _ t293 _ _ t297 true _ ?side1 ?side2 ?side3 ?side4 A30.out).mono ?_); (case side1 => repeat (first | exact (Kd.R_reads' HO296.out).2.2 | (with_reducible refine Kd.C_alloc ?_ _) | (with_reducible refine Kd.C_drewN ?_ _) | (with_reducible refine Kd.C_drew ?_))); (case side2 => exact (Kd.R_reads' HO296.out).2.1); (case side3 => repeat (first | exact (Kd.R_reads' HO300.out).2.2 | (with_reducible refine Kd.C_alloc ?_ _) | (with_reducible refine Kd.C_drewN ?_ _) | (with_reducible refine Kd.C_drew ?_))); (case side4 => exact (Kd.R_reads' HO300.out).2.1); rintro e w' ⟨rfl, ⟨nd, rfl⟩⟩; (try first | exact ⟨rfl, _, World.drewN_drewN _ _ _⟩ | exact ⟨rfl, _, Eq.trans (World.drewN_drewN _ _ _) (congrArg (World.drewN _) (Nat.add_assoc _ _ _))⟩)) | (go_at_call 83; (with_reducible refine (impl_IsChain.calls k _ _ t268 t303 _ ?side1 ?side2 A32.out).mono ?_); (case side1 => repeat (first | exact (Kd.R_reads' HO272.out).2.2 | (with_reducible refine Kd.C_alloc ?_ _) | (with_reducible refine Kd.C_drewN ?_ _) | (with_reducible refine Kd.C_drew ?_))); (case side2 => exact (Kd.R_reads' HO272.out).2.1); rintro e w37 ⟨rfl, hb⟩; have n0_ := Aside0.mk (Kd.R_below (by (with_reducible repeat (first | apply Kd.R_alloc | apply Kd.R_drewN | apply Kd.R_drew)); exact HO272.out) hb); have n1_ := Aside0.mk (Kd.S_below (by (with_reducible repeat (first | apply Kd.S_alloc | apply Kd.S_drewN | apply Kd.S_drew)); exact HO282.out) hb); have n2_ := Aside0.mk (Kd.S_below (by (with_reducible repeat (first | apply Kd.S_alloc | apply Kd.S_drewN | apply Kd.S_drew)); exact HO286.out) hb); have n3_ := Aside0.mk (Kd.R_below (by (with_reducible repeat (first | apply Kd.R_alloc | apply Kd.R_drewN | apply Kd.R_drew)); exact HO290.out) hb); have n4_ := Aside0.mk (Kd.R_below (by (with_reducible repeat (first | apply Kd.R_alloc | apply Kd.R_drewN | apply Kd.R_drew)); exact HO292.out) hb); have n5_ := Aside0.mk (Kd.R_below (by (with_reducible repeat (first | apply Kd.R_alloc | apply Kd.R_drewN | apply Kd.R_drew)); exact HO296.out) hb); have n6_ := Aside0.mk (Kd.R_below (by (with_reducible repeat (first | apply Kd.R_alloc | apply Kd.R_drewN | apply Kd.R_drew)); exact HO300.out) hb); have n7_ := Aside0.mk (below_step (by repeat (first | (with_reducible first | exact HB.out | apply below_alloc | apply pw_below_drewN | apply below_drew1) | exact HB.out)) hb); clear HO272; clear HO282; clear HO286; clear HO290; clear HO292; clear HO296; clear HO300; clear HB; have HO272 := n0_; have HO282 := n1_; have HO286 := n2_; have HO290 := n3_; have HO292 := n4_; have HO296 := n5_; have HO300 := n6_; have HB := n7_; clear n0_ n1_ n2_ n3_ n4_ n5_ n6_ n7_; (try clear hb); (try clear hb2); (try clear hk); (try clear hi)))
                    repeat (go_quiet (first | (go_at_call 81; (with_reducible refine (laws_likeRows.calls k _ _ t279 _ _ t283 true _ ?side1 ?side2 ?side3 ?side4 A27.out).mono ?_); (case side1 => repeat (first | exact (Kd.S_reads' HO282.out).2.2 | (with_reducible refine Kd.C_alloc ?_ _) | (with_reducible refine Kd.C_drewN ?_ _) | (with_reducible refine Kd.C_drew ?_))); (case side2 => exact (Kd.S_reads' HO282.out).2.1); (case side3 => repeat (first | exact (Kd.S_reads' HO286.out).2.2 | (with_reducible refine Kd.C_alloc ?_ _) | (with_reducible refine Kd.C_drewN ?_ _) | (with_reducible refine Kd.C_drew ?_))); (case side4 => exact (Kd.S_reads' HO286.out).2.1); rintro e w' ⟨rfl, ⟨nd, rfl⟩⟩; (try first | exact ⟨rfl, _, World.drewN_drewN _ _ _⟩ | exact ⟨rfl, _, Eq.trans (World.drewN_drewN _ _ _) (congrArg (World.drewN _) (Nat.add_assoc _ _ _))⟩); obtain ⟨Ao35, co35, eo35⟩ := Kd.R_slice HO296.out; subst eo35; obtain ⟨Ao36, co36, eo36⟩ := Kd.R_slice HO300.out; subst eo36) | (go_at_call 82; (with_reducible refine (laws_likeLinks.calls k _ _ t293 _ _ t297 true _ ?side1 ?side2 ?side3 ?side4 A30.out).mono ?_); (case side1 => repeat (first | exact (Kd.R_reads' HO296.out).2.2 | (with_reducible refine Kd.C_alloc ?_ _) | (with_reducible refine Kd.C_drewN ?_ _) | (with_reducible refine Kd.C_drew ?_))); (case side2 => exact (Kd.R_reads' HO296.out).2.1); (case side3 => repeat (first | exact (Kd.R_reads' HO300.out).2.2 | (with_reducible refine Kd.C_alloc ?_ _) | (with_reducible refine Kd.C_drewN ?_ _) | (with_reducible refine Kd.C_drew ?_))); (case side4 => exact (Kd.R_reads' HO300.out).2.1); rintro e w' ⟨rfl, ⟨nd, rfl⟩⟩; (try first | exact ⟨rfl, _, World.drewN_drewN _ _ _⟩ | exact ⟨rfl, _, Eq.trans (World.drewN_drewN _ _ _) (congrArg (World.drewN _) (Nat.add_assoc _ _ _))⟩)) | (go_at_call 83; (with_reducible refine (impl_IsChain.calls k _ _ t268 t303 _ ?side1 ?side2 A32.out).mono ?_); (case side1 => repeat (first | exact (Kd.R_reads' HO272.out).2.2 | (with_reducible refine Kd.C_alloc ?_ _) | (with_reducible refine Kd.C_drewN ?_ _) | (with_reducible refine Kd.C_drew ?_))); (case side2 => exact (Kd.R_reads' HO272.out).2.1); rintro e w37 ⟨rfl, hb⟩; have n0_ := Aside0.mk (Kd.R_below (by (with_reducible repeat (first | apply Kd.R_alloc | apply Kd.R_drewN | apply Kd.R_drew)); exact HO272.out) hb); have n1_ := Aside0.mk (Kd.S_below (by (with_reducible repeat (first | apply Kd.S_alloc | apply Kd.S_drewN | apply Kd.S_drew)); exact HO282.out) hb); have n2_ := Aside0.mk (Kd.S_below (by (with_reducible repeat (first | apply Kd.S_alloc | apply Kd.S_drewN | apply Kd.S_drew)); exact HO286.out) hb); have n3_ := Aside0.mk (Kd.R_below (by (with_reducible repeat (first | apply Kd.R_alloc | apply Kd.R_drewN | apply Kd.R_drew)); exact HO290.out) hb); have n4_ := Aside0.mk (Kd.R_below (by (with_reducible repeat (first | apply Kd.R_alloc | apply Kd.R_drewN | apply Kd.R_drew)); exact HO292.out) hb); have n5_ := Aside0.mk (Kd.R_below (by (with_reducible repeat (first | apply Kd.R_alloc | apply Kd.R_drewN | apply Kd.R_drew)); exact HO296.out) hb); have n6_ := Aside0.mk (Kd.R_below (by (with_reducible repeat (first | apply Kd.R_alloc | apply Kd.R_drewN | apply Kd.R_drew)); exact HO300.out) hb); have n7_ := Aside0.mk (below_step (by repeat (first | (with_reducible first | exact HB.out | apply below_alloc | apply pw_below_drewN | apply below_drew1) | exact HB.out)) hb); clear HO272; clear HO282; clear HO286; clear HO290; clear HO292; clear HO296; clear HO300; clear HB; have HO272 := n0_; have HO282 := n1_; have HO286 := n2_; have HO290 := n3_; have HO292 := n4_; have HO296 := n5_; have HO300 := n6_; have HB := n7_; clear n0_ n1_ n2_ n3_ n4_ n5_ n6_ n7_; (try clear hb); (try clear hb2); (try clear hk); (try clear hi))); try go_wp2_with (first | (go_at_call 81; (with_reducible refine (laws_likeRows.calls k _ _ t279 _ _ t283 true _ ?side1 ?side2 ?side3 ?side4 A27.out).mono ?_); (case side1 => repeat (first | exact (Kd.S_reads' HO282.out).2.2 | (with_reducible refine Kd.C_alloc ?_ _) | (with_reducible refine Kd.C_drewN ?_ _) | (with_reducible refine Kd.C_drew ?_))); (case side2 => exact (Kd.S_reads' HO282.out).2.1); (case side3 => repeat (first | exact (Kd.S_reads' HO286.out).2.2 | (with_reducible refine Kd.C_alloc ?_ _) | (with_reducible refine Kd.C_drewN ?_ _) | (with_reducible refine Kd.C_drew ?_))); (case side4 => exact (Kd.S_reads' HO286.out).2.1); rintro e w' ⟨rfl, ⟨nd, rfl⟩⟩; (try first | exact ⟨rfl, _, World.drewN_drewN _ _ _⟩ | exact ⟨rfl, _, Eq.trans (World.drewN_drewN _ _ _) (congrArg (World.drewN _) (Nat.add_assoc _ _ _))⟩); obtain ⟨Ao35, co35, eo35⟩ := Kd.R_slice HO296.out; subst eo35; obtain ⟨Ao36, co36, eo36⟩ := Kd.R_slice HO300.out; subst eo36) | (go_at_call 82; (with_reducible refine (laws_likeLinks.calls k _ _ t293 _ _ t297 true _ ?side1 ?side2 ?side3 ?side4 A30.out).mono ?_); (case side1 => repeat (first | exact (Kd.R_reads' HO296.out).2.2 | (with_reducible refine Kd.C_alloc ?_ _) | (with_reducible refine Kd.C_drewN ?_ _) | (with_reducible refine Kd.C_drew ?_))); (case side2 => exact (Kd.R_reads' HO296.out).2.1); (case side3 => repeat (first | exact (Kd.R_reads' HO300.out).2.2 | (with_reducible refine Kd.C_alloc ?_ _) | (with_reducible refine Kd.C_drewN ?_ _) | (with_reducible refine Kd.C_drew ?_))); (case side4 => exact (Kd.R_reads' HO300.out).2.1); rintro e w' ⟨rfl, ⟨nd, rfl⟩⟩; (try first | exact ⟨rfl, _, World.drewN_drewN _ _ _⟩ | exact ⟨rfl, _, Eq.trans (World.drewN_drewN _ _ _) (congrArg (World.drewN _) (Nat.add_assoc _ _ _))⟩)) | (go_at_call 83; (with_reducible refine (impl_IsChain.calls k _ _ t268 t303 _ ?side1 ?side2 A32.out).mono ?_); (case side1 => repeat (first | exact (Kd.R_reads' HO272.out).2.2 | (with_reducible refine Kd.C_alloc ?_ _) | (with_reducible refine Kd.C_drewN ?_ _) | (with_reducible refine Kd.C_drew ?_))); (case side2 => exact (Kd.R_reads' HO272.out).2.1); rintro e w37 ⟨rfl, hb⟩; have n0_ := Aside0.mk (Kd.R_below (by (with_reducible repeat (first | apply Kd.R_alloc | apply Kd.R_drewN | apply Kd.R_drew)); exact HO272.out) hb); have n1_ := Aside0.mk (Kd.S_below (by (with_reducible repeat (first | apply Kd.S_alloc | apply Kd.S_drewN | apply Kd.S_drew)); exact HO282.out) hb); have n2_ := Aside0.mk (Kd.S_below (by (with_reducible repeat (first | apply Kd.S_alloc | apply Kd.S_drewN | apply Kd.S_drew)); exact HO286.out) hb); have n3_ := Aside0.mk (Kd.R_below (by (with_reducible repeat (first | apply Kd.R_alloc | apply Kd.R_drewN | apply Kd.R_drew)); exact HO290.out) hb); have n4_ := Aside0.mk (Kd.R_below (by (with_reducible repeat (first | apply Kd.R_alloc | apply Kd.R_drewN | apply Kd.R_drew)); exact HO292.out) hb); have n5_ := Aside0.mk (Kd.R_below (by (with_reducible repeat (first | apply Kd.R_alloc | apply Kd.R_drewN | apply Kd.R_drew)); exact HO296.out) hb); have n6_ := Aside0.mk (Kd.R_below (by (with_reducible repeat (first | apply Kd.R_alloc | apply Kd.R_drewN | apply Kd.R_drew)); exact HO300.out) hb); have n7_ := Aside0.mk (below_step (by repeat (first | (with_reducible first | exact HB.out | apply below_alloc | apply pw_below_drewN | apply below_drew1) | exact HB.out)) hb); clear HO272; clear HO282; clear HO286; clear HO290; clear HO292; clear HO296; clear HO300; clear HB; have HO272 := n0_; have HO282 := n1_; have HO286 := n2_; have HO290 := n3_; have HO292 := n4_; have HO296 := n5_; have HO300 := n6_; have HB := n7_; clear n0_ n1_ n2_ n3_ n4_ n5_ n6_ n7_; (try clear hb); (try clear hb2); (try clear hk); (try clear hi))))
                    go_meet
                    case rel => exact ⟨_, ((t303 != (t284 == 0))), (by first | rfl | (simp; done) | (simp [*]; done)), H', ⟨by first | omega | exact Nat.le_refl _⟩, ⟨by (with_reducible repeat (first | apply Kd.R_alloc | apply Kd.R_drewN | apply Kd.R_drew)); exact Kd.R_mono HO272.out (fun _ hk => ⟨hk.1.1.1.2, ⟨hk.1.1.2, hk.1.2⟩⟩)⟩, ⟨by (with_reducible repeat (first | apply Kd.S_alloc | apply Kd.S_drewN | apply Kd.S_drew)); exact Kd.S_mono HO282.out (fun _ hk => hk.2)⟩, ⟨by (with_reducible repeat (first | apply Kd.S_alloc | apply Kd.S_drewN | apply Kd.S_drew)); exact Kd.S_mono HO286.out (fun _ hk => hk.2)⟩, ⟨by (with_reducible repeat (first | apply Kd.R_alloc | apply Kd.R_drewN | apply Kd.R_drew)); exact Kd.R_mono HO290.out (fun _ hk => ⟨hk.1.1.2, ⟨hk.1.1.1, hk.1.2⟩⟩)⟩, ⟨by (with_reducible repeat (first | apply Kd.R_alloc | apply Kd.R_drewN | apply Kd.R_drew)); exact Kd.R_mono HO292.out (fun _ hk => ⟨hk.1.1.2, ⟨hk.1.1.1, hk.1.2⟩⟩)⟩, ⟨by (with_reducible repeat (first | apply Kd.R_alloc | apply Kd.R_drewN | apply Kd.R_drew)); exact Kd.R_mono HO296.out (fun _ hk => ⟨hk.1.1.1.2, ⟨hk.1.1.2, hk.1.2⟩⟩)⟩, ⟨by repeat (first | (with_reducible first | exact HB.out | apply below_alloc | apply pw_below_drewN | apply below_drew1) | exact HB.out)⟩⟩
                  · replace c31 := Bool.eq_false_iff.mpr c31
                    subst c31
                    have H1 : (laws_FnChains.j0 k t268 t269 t270 t273 t274 t275 t279 t283 t287 t288 t293 t294 true) = some r := by rw [if_neg (show ¬ (false = true) by decide)] at H; exact H
                    clear H
                    have H := H1
                    clear H1
                    have H' := Aside0.mk H
                    clear H
                    obtain ⟨Ao38, co38, eo38⟩ := Kd.S_slice HO282.out
                    subst eo38
                    obtain ⟨Ao39, co39, eo39⟩ := Kd.S_slice HO286.out
                    subst eo39
                    go_wp2_with (first | (go_at_call 81; (with_reducible refine (laws_likeRows.calls k _ _ t279 _ _ t283 true _ ?side1 ?side2 ?side3 ?side4 A27.out).mono ?_); (case side1 => repeat (first | exact (Kd.S_reads' HO282.out).2.2 | (with_reducible refine Kd.C_alloc ?_ _) | (with_reducible refine Kd.C_drewN ?_ _) | (with_reducible refine Kd.C_drew ?_))); (case side2 => exact (Kd.S_reads' HO282.out).2.1); (case side3 => repeat (first | exact (Kd.S_reads' HO286.out).2.2 | (with_reducible refine Kd.C_alloc ?_ _) | (with_reducible refine Kd.C_drewN ?_ _) | (with_reducible refine Kd.C_drew ?_))); (case side4 => exact (Kd.S_reads' HO286.out).2.1); rintro e w' ⟨rfl, ⟨nd, rfl⟩⟩; (try first | exact ⟨rfl, _, World.drewN_drewN _ _ _⟩ | exact ⟨rfl, _, Eq.trans (World.drewN_drewN _ _ _) (congrArg (World.drewN _) (Nat.add_assoc _ _ _))⟩); obtain ⟨Ao40, co40, eo40⟩ := Kd.R_slice HO296.out; subst eo40; obtain ⟨Ao41, co41, eo41⟩ := Kd.R_slice HO300.out; subst eo41) | (go_at_call 82; (with_reducible refine (laws_likeLinks.calls k _ _ t293 _ _ t297 false _ ?side1 ?side2 ?side3 ?side4 A30.out).mono ?_); (case side1 => repeat (first | exact (Kd.R_reads' HO296.out).2.2 | (with_reducible refine Kd.C_alloc ?_ _) | (with_reducible refine Kd.C_drewN ?_ _) | (with_reducible refine Kd.C_drew ?_))); (case side2 => exact (Kd.R_reads' HO296.out).2.1); (case side3 => repeat (first | exact (Kd.R_reads' HO300.out).2.2 | (with_reducible refine Kd.C_alloc ?_ _) | (with_reducible refine Kd.C_drewN ?_ _) | (with_reducible refine Kd.C_drew ?_))); (case side4 => exact (Kd.R_reads' HO300.out).2.1); rintro e w' ⟨rfl, ⟨nd, rfl⟩⟩; (try first | exact ⟨rfl, _, World.drewN_drewN _ _ _⟩ | exact ⟨rfl, _, Eq.trans (World.drewN_drewN _ _ _) (congrArg (World.drewN _) (Nat.add_assoc _ _ _))⟩)))
                    repeat (go_quiet (first | (go_at_call 81; (with_reducible refine (laws_likeRows.calls k _ _ t279 _ _ t283 true _ ?side1 ?side2 ?side3 ?side4 A27.out).mono ?_); (case side1 => repeat (first | exact (Kd.S_reads' HO282.out).2.2 | (with_reducible refine Kd.C_alloc ?_ _) | (with_reducible refine Kd.C_drewN ?_ _) | (with_reducible refine Kd.C_drew ?_))); (case side2 => exact (Kd.S_reads' HO282.out).2.1); (case side3 => repeat (first | exact (Kd.S_reads' HO286.out).2.2 | (with_reducible refine Kd.C_alloc ?_ _) | (with_reducible refine Kd.C_drewN ?_ _) | (with_reducible refine Kd.C_drew ?_))); (case side4 => exact (Kd.S_reads' HO286.out).2.1); rintro e w' ⟨rfl, ⟨nd, rfl⟩⟩; (try first | exact ⟨rfl, _, World.drewN_drewN _ _ _⟩ | exact ⟨rfl, _, Eq.trans (World.drewN_drewN _ _ _) (congrArg (World.drewN _) (Nat.add_assoc _ _ _))⟩); obtain ⟨Ao40, co40, eo40⟩ := Kd.R_slice HO296.out; subst eo40; obtain ⟨Ao41, co41, eo41⟩ := Kd.R_slice HO300.out; subst eo41) | (go_at_call 82; (with_reducible refine (laws_likeLinks.calls k _ _ t293 _ _ t297 false _ ?side1 ?side2 ?side3 ?side4 A30.out).mono ?_); (case side1 => repeat (first | exact (Kd.R_reads' HO296.out).2.2 | (with_reducible refine Kd.C_alloc ?_ _) | (with_reducible refine Kd.C_drewN ?_ _) | (with_reducible refine Kd.C_drew ?_))); (case side2 => exact (Kd.R_reads' HO296.out).2.1); (case side3 => repeat (first | exact (Kd.R_reads' HO300.out).2.2 | (with_reducible refine Kd.C_alloc ?_ _) | (with_reducible refine Kd.C_drewN ?_ _) | (with_reducible refine Kd.C_drew ?_))); (case side4 => exact (Kd.R_reads' HO300.out).2.1); rintro e w' ⟨rfl, ⟨nd, rfl⟩⟩; (try first | exact ⟨rfl, _, World.drewN_drewN _ _ _⟩ | exact ⟨rfl, _, Eq.trans (World.drewN_drewN _ _ _) (congrArg (World.drewN _) (Nat.add_assoc _ _ _))⟩))); try go_wp2_with (first | (go_at_call 81; (with_reducible refine (laws_likeRows.calls k _ _ t279 _ _ t283 true _ ?side1 ?side2 ?side3 ?side4 A27.out).mono ?_); (case side1 => repeat (first | exact (Kd.S_reads' HO282.out).2.2 | (with_reducible refine Kd.C_alloc ?_ _) | (with_reducible refine Kd.C_drewN ?_ _) | (with_reducible refine Kd.C_drew ?_))); (case side2 => exact (Kd.S_reads' HO282.out).2.1); (case side3 => repeat (first | exact (Kd.S_reads' HO286.out).2.2 | (with_reducible refine Kd.C_alloc ?_ _) | (with_reducible refine Kd.C_drewN ?_ _) | (with_reducible refine Kd.C_drew ?_))); (case side4 => exact (Kd.S_reads' HO286.out).2.1); rintro e w' ⟨rfl, ⟨nd, rfl⟩⟩; (try first | exact ⟨rfl, _, World.drewN_drewN _ _ _⟩ | exact ⟨rfl, _, Eq.trans (World.drewN_drewN _ _ _) (congrArg (World.drewN _) (Nat.add_assoc _ _ _))⟩); obtain ⟨Ao40, co40, eo40⟩ := Kd.R_slice HO296.out; subst eo40; obtain ⟨Ao41, co41, eo41⟩ := Kd.R_slice HO300.out; subst eo41) | (go_at_call 82; (with_reducible refine (laws_likeLinks.calls k _ _ t293 _ _ t297 false _ ?side1 ?side2 ?side3 ?side4 A30.out).mono ?_); (case side1 => repeat (first | exact (Kd.R_reads' HO296.out).2.2 | (with_reducible refine Kd.C_alloc ?_ _) | (with_reducible refine Kd.C_drewN ?_ _) | (with_reducible refine Kd.C_drew ?_))); (case side2 => exact (Kd.R_reads' HO296.out).2.1); (case side3 => repeat (first | exact (Kd.R_reads' HO300.out).2.2 | (with_reducible refine Kd.C_alloc ?_ _) | (with_reducible refine Kd.C_drewN ?_ _) | (with_reducible refine Kd.C_drew ?_))); (case side4 => exact (Kd.R_reads' HO300.out).2.1); rintro e w' ⟨rfl, ⟨nd, rfl⟩⟩; (try first | exact ⟨rfl, _, World.drewN_drewN _ _ _⟩ | exact ⟨rfl, _, Eq.trans (World.drewN_drewN _ _ _) (congrArg (World.drewN _) (Nat.add_assoc _ _ _))⟩))))
                    go_meet
                    case rel => exact ⟨_, (true), (by first | rfl | (simp; done) | (simp [*]; done)), H', ⟨by first | omega | exact Nat.le_refl _⟩, ⟨by (with_reducible repeat (first | apply Kd.R_alloc | apply Kd.R_drewN | apply Kd.R_drew)); exact Kd.R_mono HO272.out (fun _ hk => ⟨hk.1.1.1.2, ⟨hk.1.1.2, hk.1.2⟩⟩)⟩, ⟨by (with_reducible repeat (first | apply Kd.S_alloc | apply Kd.S_drewN | apply Kd.S_drew)); exact Kd.S_mono HO282.out (fun _ hk => hk.2)⟩, ⟨by (with_reducible repeat (first | apply Kd.S_alloc | apply Kd.S_drewN | apply Kd.S_drew)); exact Kd.S_mono HO286.out (fun _ hk => hk.2)⟩, ⟨by (with_reducible repeat (first | apply Kd.R_alloc | apply Kd.R_drewN | apply Kd.R_drew)); exact Kd.R_mono HO290.out (fun _ hk => ⟨hk.1.1.2, ⟨hk.1.1.1, hk.1.2⟩⟩)⟩, ⟨by (with_reducible repeat (first | apply Kd.R_alloc | apply Kd.R_drewN | apply Kd.R_drew)); exact Kd.R_mono HO292.out (fun _ hk => ⟨hk.1.1.2, ⟨hk.1.1.1, hk.1.2⟩⟩)⟩, ⟨by (with_reducible repeat (first | apply Kd.R_alloc | apply Kd.R_drewN | apply Kd.R_drew)); exact Kd.R_mono HO296.out (fun _ hk => ⟨hk.1.1.1.2, ⟨hk.1.1.2, hk.1.2⟩⟩)⟩, ⟨by repeat (first | (with_reducible first | exact HB.out | apply below_alloc | apply pw_below_drewN | apply below_drew1) | exact HB.out)⟩⟩
                · rw [if_neg c29] at H
                  have c29b0 : (t294 == t298) = false := beq_eq_false_iff_ne.mpr c29
                  have c29b1 : (t294 != t298) = true := bne_iff_ne.mpr c29
                  have H' := Aside0.mk H
                  clear H
                  obtain ⟨Ao42, co42, eo42⟩ := Kd.S_slice HO282.out
                  subst eo42
                  obtain ⟨Ao43, co43, eo43⟩ := Kd.S_slice HO286.out
                  subst eo43
                  go_wp2_with (first | (go_at_call 81; (with_reducible refine (laws_likeRows.calls k _ _ t279 _ _ t283 true _ ?side1 ?side2 ?side3 ?side4 A27.out).mono ?_); (case side1 => repeat (first | exact (Kd.S_reads' HO282.out).2.2 | (with_reducible refine Kd.C_alloc ?_ _) | (with_reducible refine Kd.C_drewN ?_ _) | (with_reducible refine Kd.C_drew ?_))); (case side2 => exact (Kd.S_reads' HO282.out).2.1); (case side3 => repeat (first | exact (Kd.S_reads' HO286.out).2.2 | (with_reducible refine Kd.C_alloc ?_ _) | (with_reducible refine Kd.C_drewN ?_ _) | (with_reducible refine Kd.C_drew ?_))); (case side4 => exact (Kd.S_reads' HO286.out).2.1); rintro e w' ⟨rfl, ⟨nd, rfl⟩⟩; (try first | exact ⟨rfl, _, World.drewN_drewN _ _ _⟩ | exact ⟨rfl, _, Eq.trans (World.drewN_drewN _ _ _) (congrArg (World.drewN _) (Nat.add_assoc _ _ _))⟩)))
                  repeat (go_quiet (first | (go_at_call 81; (with_reducible refine (laws_likeRows.calls k _ _ t279 _ _ t283 true _ ?side1 ?side2 ?side3 ?side4 A27.out).mono ?_); (case side1 => repeat (first | exact (Kd.S_reads' HO282.out).2.2 | (with_reducible refine Kd.C_alloc ?_ _) | (with_reducible refine Kd.C_drewN ?_ _) | (with_reducible refine Kd.C_drew ?_))); (case side2 => exact (Kd.S_reads' HO282.out).2.1); (case side3 => repeat (first | exact (Kd.S_reads' HO286.out).2.2 | (with_reducible refine Kd.C_alloc ?_ _) | (with_reducible refine Kd.C_drewN ?_ _) | (with_reducible refine Kd.C_drew ?_))); (case side4 => exact (Kd.S_reads' HO286.out).2.1); rintro e w' ⟨rfl, ⟨nd, rfl⟩⟩; (try first | exact ⟨rfl, _, World.drewN_drewN _ _ _⟩ | exact ⟨rfl, _, Eq.trans (World.drewN_drewN _ _ _) (congrArg (World.drewN _) (Nat.add_assoc _ _ _))⟩))); try go_wp2_with (first | (go_at_call 81; (with_reducible refine (laws_likeRows.calls k _ _ t279 _ _ t283 true _ ?side1 ?side2 ?side3 ?side4 A27.out).mono ?_); (case side1 => repeat (first | exact (Kd.S_reads' HO282.out).2.2 | (with_reducible refine Kd.C_alloc ?_ _) | (with_reducible refine Kd.C_drewN ?_ _) | (with_reducible refine Kd.C_drew ?_))); (case side2 => exact (Kd.S_reads' HO282.out).2.1); (case side3 => repeat (first | exact (Kd.S_reads' HO286.out).2.2 | (with_reducible refine Kd.C_alloc ?_ _) | (with_reducible refine Kd.C_drewN ?_ _) | (with_reducible refine Kd.C_drew ?_))); (case side4 => exact (Kd.S_reads' HO286.out).2.1); rintro e w' ⟨rfl, ⟨nd, rfl⟩⟩; (try first | exact ⟨rfl, _, World.drewN_drewN _ _ _⟩ | exact ⟨rfl, _, Eq.trans (World.drewN_drewN _ _ _) (congrArg (World.drewN _) (Nat.add_assoc _ _ _))⟩))))
                  go_meet
                  case rel => exact ⟨_, (true), (by first | rfl | (simp; done) | (simp [*]; done)), H', ⟨by first | omega | exact Nat.le_refl _⟩, ⟨by (with_reducible repeat (first | apply Kd.R_alloc | apply Kd.R_drewN | apply Kd.R_drew)); exact Kd.R_mono HO272.out (fun _ hk => ⟨hk.1.1.1.2, ⟨hk.1.1.2, hk.1.2⟩⟩)⟩, ⟨by (with_reducible repeat (first | apply Kd.S_alloc | apply Kd.S_drewN | apply Kd.S_drew)); exact Kd.S_mono HO282.out (fun _ hk => hk.2)⟩, ⟨by (with_reducible repeat (first | apply Kd.S_alloc | apply Kd.S_drewN | apply Kd.S_drew)); exact Kd.S_mono HO286.out (fun _ hk => hk.2)⟩, ⟨by (with_reducible repeat (first | apply Kd.R_alloc | apply Kd.R_drewN | apply Kd.R_drew)); exact Kd.R_mono HO290.out (fun _ hk => ⟨hk.1.1.2, ⟨hk.1.1.1, hk.1.2⟩⟩)⟩, ⟨by (with_reducible repeat (first | apply Kd.R_alloc | apply Kd.R_drewN | apply Kd.R_drew)); exact Kd.R_mono HO292.out (fun _ hk => ⟨hk.1.1.2, ⟨hk.1.1.1, hk.1.2⟩⟩)⟩, ⟨by (with_reducible repeat (first | apply Kd.R_alloc | apply Kd.R_drewN | apply Kd.R_drew)); exact Kd.R_mono HO296.out (fun _ hk => ⟨hk.1.1.1.2, ⟨hk.1.1.2, hk.1.2⟩⟩)⟩, ⟨by repeat (first | (with_reducible first | exact HB.out | apply below_alloc | apply pw_below_drewN | apply below_drew1) | exact HB.out)⟩⟩
              · replace c28 := Bool.eq_false_iff.mpr c28
                subst c28
                have H1 : (laws_FnChains.j0 k t268 t269 t270 t273 t274 t275 t279 t283 t287 t288 t293 t294 true) = some r := by rw [if_neg (show ¬ (false = true) by decide)] at H; exact H
                clear H
                have H := H1
                clear H1
                have H' := Aside0.mk H
                clear H
                obtain ⟨Ao44, co44, eo44⟩ := Kd.S_slice HO282.out
                subst eo44
                obtain ⟨Ao45, co45, eo45⟩ := Kd.S_slice HO286.out
                subst eo45
                go_wp2_with (first | (go_at_call 81; (with_reducible refine (laws_likeRows.calls k _ _ t279 _ _ t283 false _ ?side1 ?side2 ?side3 ?side4 A27.out).mono ?_); (case side1 => repeat (first | exact (Kd.S_reads' HO282.out).2.2 | (with_reducible refine Kd.C_alloc ?_ _) | (with_reducible refine Kd.C_drewN ?_ _) | (with_reducible refine Kd.C_drew ?_))); (case side2 => exact (Kd.S_reads' HO282.out).2.1); (case side3 => repeat (first | exact (Kd.S_reads' HO286.out).2.2 | (with_reducible refine Kd.C_alloc ?_ _) | (with_reducible refine Kd.C_drewN ?_ _) | (with_reducible refine Kd.C_drew ?_))); (case side4 => exact (Kd.S_reads' HO286.out).2.1); rintro e w' ⟨rfl, ⟨nd, rfl⟩⟩; (try first | exact ⟨rfl, _, World.drewN_drewN _ _ _⟩ | exact ⟨rfl, _, Eq.trans (World.drewN_drewN _ _ _) (congrArg (World.drewN _) (Nat.add_assoc _ _ _))⟩)))
                repeat (go_quiet (first | (go_at_call 81; (with_reducible refine (laws_likeRows.calls k _ _ t279 _ _ t283 false _ ?side1 ?side2 ?side3 ?side4 A27.out).mono ?_); (case side1 => repeat (first | exact (Kd.S_reads' HO282.out).2.2 | (with_reducible refine Kd.C_alloc ?_ _) | (with_reducible refine Kd.C_drewN ?_ _) | (with_reducible refine Kd.C_drew ?_))); (case side2 => exact (Kd.S_reads' HO282.out).2.1); (case side3 => repeat (first | exact (Kd.S_reads' HO286.out).2.2 | (with_reducible refine Kd.C_alloc ?_ _) | (with_reducible refine Kd.C_drewN ?_ _) | (with_reducible refine Kd.C_drew ?_))); (case side4 => exact (Kd.S_reads' HO286.out).2.1); rintro e w' ⟨rfl, ⟨nd, rfl⟩⟩; (try first | exact ⟨rfl, _, World.drewN_drewN _ _ _⟩ | exact ⟨rfl, _, Eq.trans (World.drewN_drewN _ _ _) (congrArg (World.drewN _) (Nat.add_assoc _ _ _))⟩))); try go_wp2_with (first | (go_at_call 81; (with_reducible refine (laws_likeRows.calls k _ _ t279 _ _ t283 false _ ?side1 ?side2 ?side3 ?side4 A27.out).mono ?_); (case side1 => repeat (first | exact (Kd.S_reads' HO282.out).2.2 | (with_reducible refine Kd.C_alloc ?_ _) | (with_reducible refine Kd.C_drewN ?_ _) | (with_reducible refine Kd.C_drew ?_))); (case side2 => exact (Kd.S_reads' HO282.out).2.1); (case side3 => repeat (first | exact (Kd.S_reads' HO286.out).2.2 | (with_reducible refine Kd.C_alloc ?_ _) | (with_reducible refine Kd.C_drewN ?_ _) | (with_reducible refine Kd.C_drew ?_))); (case side4 => exact (Kd.S_reads' HO286.out).2.1); rintro e w' ⟨rfl, ⟨nd, rfl⟩⟩; (try first | exact ⟨rfl, _, World.drewN_drewN _ _ _⟩ | exact ⟨rfl, _, Eq.trans (World.drewN_drewN _ _ _) (congrArg (World.drewN _) (Nat.add_assoc _ _ _))⟩))))
                go_meet
                case rel => exact ⟨_, (true), (by first | rfl | (simp; done) | (simp [*]; done)), H', ⟨by first | omega | exact Nat.le_refl _⟩, ⟨by (with_reducible repeat (first | apply Kd.R_alloc | apply Kd.R_drewN | apply Kd.R_drew)); exact Kd.R_mono HO272.out (fun _ hk => ⟨hk.1.1.1.2, ⟨hk.1.1.2, hk.1.2⟩⟩)⟩, ⟨by (with_reducible repeat (first | apply Kd.S_alloc | apply Kd.S_drewN | apply Kd.S_drew)); exact Kd.S_mono HO282.out (fun _ hk => hk.2)⟩, ⟨by (with_reducible repeat (first | apply Kd.S_alloc | apply Kd.S_drewN | apply Kd.S_drew)); exact Kd.S_mono HO286.out (fun _ hk => hk.2)⟩, ⟨by (with_reducible repeat (first | apply Kd.R_alloc | apply Kd.R_drewN | apply Kd.R_drew)); exact Kd.R_mono HO290.out (fun _ hk => ⟨hk.1.1.2, ⟨hk.1.1.1, hk.1.2⟩⟩)⟩, ⟨by (with_reducible repeat (first | apply Kd.R_alloc | apply Kd.R_drewN | apply Kd.R_drew)); exact Kd.R_mono HO292.out (fun _ hk => ⟨hk.1.1.2, ⟨hk.1.1.1, hk.1.2⟩⟩)⟩, ⟨by (with_reducible repeat (first | apply Kd.R_alloc | apply Kd.R_drewN | apply Kd.R_drew)); exact Kd.R_mono HO296.out (fun _ hk => ⟨hk.1.1.1.2, ⟨hk.1.1.2, hk.1.2⟩⟩)⟩, ⟨by repeat (first | (with_reducible first | exact HB.out | apply below_alloc | apply pw_below_drewN | apply below_drew1) | exact HB.out)⟩⟩
            · rw [if_neg c26] at H
              have c26b0 : (t280 == t284) = false := beq_eq_false_iff_ne.mpr c26
              have c26b1 : (t280 != t284) = true := bne_iff_ne.mpr c26
              have H' := Aside0.mk H
              clear H
              go_wp2
              repeat (go_quiet (fail); try go_wp2)
              go_meet
              case rel => exact ⟨_, (true), (by first | rfl | (simp; done) | (simp [*]; done)), H', ⟨by first | omega | exact Nat.le_refl _⟩, ⟨by (with_reducible repeat (first | apply Kd.R_alloc | apply Kd.R_drewN | apply Kd.R_drew)); exact Kd.R_mono HO272.out (fun _ hk => ⟨hk.1.1.1.2, ⟨hk.1.1.2, hk.1.2⟩⟩)⟩, ⟨by (with_reducible repeat (first | apply Kd.S_alloc | apply Kd.S_drewN | apply Kd.S_drew)); exact Kd.S_mono HO282.out (fun _ hk => hk.2)⟩, ⟨by (with_reducible repeat (first | apply Kd.S_alloc | apply Kd.S_drewN | apply Kd.S_drew)); exact Kd.S_mono HO286.out (fun _ hk => hk.2)⟩, ⟨by (with_reducible repeat (first | apply Kd.R_alloc | apply Kd.R_drewN | apply Kd.R_drew)); exact Kd.R_mono HO290.out (fun _ hk => ⟨hk.1.1.2, ⟨hk.1.1.1, hk.1.2⟩⟩)⟩, ⟨by (with_reducible repeat (first | apply Kd.R_alloc | apply Kd.R_drewN | apply Kd.R_drew)); exact Kd.R_mono HO292.out (fun _ hk => ⟨hk.1.1.2, ⟨hk.1.1.1, hk.1.2⟩⟩)⟩, ⟨by (with_reducible repeat (first | apply Kd.R_alloc | apply Kd.R_drewN | apply Kd.R_drew)); exact Kd.R_mono HO296.out (fun _ hk => ⟨hk.1.1.1.2, ⟨hk.1.1.2, hk.1.2⟩⟩)⟩, ⟨by repeat (first | (with_reducible first | exact HB.out | apply below_alloc | apply pw_below_drewN | apply below_drew1) | exact HB.out)⟩⟩
          · rw [if_neg c25] at H
            have c25b0 : (t274 == t277) = false := beq_eq_false_iff_ne.mpr c25
            have c25b1 : (t274 != t277) = true := bne_iff_ne.mpr c25
            have H' := Aside0.mk H
            clear H
            go_wp2
            repeat (go_quiet (fail); try go_wp2)
            go_meet
            case rel => exact ⟨_, (true), (by first | rfl | (simp; done) | (simp [*]; done)), H', ⟨by first | omega | exact Nat.le_refl _⟩, ⟨by (with_reducible repeat (first | apply Kd.R_alloc | apply Kd.R_drewN | apply Kd.R_drew)); exact Kd.R_mono HO272.out (fun _ hk => ⟨hk.1.1.1.2, ⟨hk.1.1.2, hk.1.2⟩⟩)⟩, ⟨by (with_reducible repeat (first | apply Kd.S_alloc | apply Kd.S_drewN | apply Kd.S_drew)); exact Kd.S_mono HO282.out (fun _ hk => hk.2)⟩, ⟨by (with_reducible repeat (first | apply Kd.S_alloc | apply Kd.S_drewN | apply Kd.S_drew)); exact Kd.S_mono HO286.out (fun _ hk => hk.2)⟩, ⟨by (with_reducible repeat (first | apply Kd.R_alloc | apply Kd.R_drewN | apply Kd.R_drew)); exact Kd.R_mono HO290.out (fun _ hk => ⟨hk.1.1.2, ⟨hk.1.1.1, hk.1.2⟩⟩)⟩, ⟨by (with_reducible repeat (first | apply Kd.R_alloc | apply Kd.R_drewN | apply Kd.R_drew)); exact Kd.R_mono HO292.out (fun _ hk => ⟨hk.1.1.2, ⟨hk.1.1.1, hk.1.2⟩⟩)⟩, ⟨by (with_reducible repeat (first | apply Kd.R_alloc | apply Kd.R_drewN | apply Kd.R_drew)); exact Kd.R_mono HO296.out (fun _ hk => ⟨hk.1.1.1.2, ⟨hk.1.1.2, hk.1.2⟩⟩)⟩, ⟨by repeat (first | (with_reducible first | exact HB.out | apply below_alloc | apply pw_below_drewN | apply below_drew1) | exact HB.out)⟩⟩
        · rw [if_neg c24] at H
          have c24b0 : (t273 == t276) = false := beq_eq_false_iff_ne.mpr c24
          have c24b1 : (t273 != t276) = true := bne_iff_ne.mpr c24
          have H' := Aside0.mk H
          clear H
          go_wp2
          repeat (go_quiet (fail); try go_wp2)
          go_meet
          case rel => exact ⟨_, (true), (by first | rfl | (simp; done) | (simp [*]; done)), H', ⟨by first | omega | exact Nat.le_refl _⟩, ⟨by (with_reducible repeat (first | apply Kd.R_alloc | apply Kd.R_drewN | apply Kd.R_drew)); exact Kd.R_mono HO272.out (fun _ hk => ⟨hk.1.1.1.2, ⟨hk.1.1.2, hk.1.2⟩⟩)⟩, ⟨by (with_reducible repeat (first | apply Kd.S_alloc | apply Kd.S_drewN | apply Kd.S_drew)); exact Kd.S_mono HO282.out (fun _ hk => hk.2)⟩, ⟨by (with_reducible repeat (first | apply Kd.S_alloc | apply Kd.S_drewN | apply Kd.S_drew)); exact Kd.S_mono HO286.out (fun _ hk => hk.2)⟩, ⟨by (with_reducible repeat (first | apply Kd.R_alloc | apply Kd.R_drewN | apply Kd.R_drew)); exact Kd.R_mono HO290.out (fun _ hk => ⟨hk.1.1.2, ⟨hk.1.1.1, hk.1.2⟩⟩)⟩, ⟨by (with_reducible repeat (first | apply Kd.R_alloc | apply Kd.R_drewN | apply Kd.R_drew)); exact Kd.R_mono HO292.out (fun _ hk => ⟨hk.1.1.2, ⟨hk.1.1.1, hk.1.2⟩⟩)⟩, ⟨by (with_reducible repeat (first | apply Kd.R_alloc | apply Kd.R_drewN | apply Kd.R_drew)); exact Kd.R_mono HO296.out (fun _ hk => ⟨hk.1.1.1.2, ⟨hk.1.1.2, hk.1.2⟩⟩)⟩, ⟨by repeat (first | (with_reducible first | exact HB.out | apply below_alloc | apply pw_below_drewN | apply below_drew1) | exact HB.out)⟩⟩
      · rw [if_neg c23] at H
        have c23b0 : (t275 == t278) = false := beq_eq_false_iff_ne.mpr c23
        have c23b1 : (t275 != t278) = true := bne_iff_ne.mpr c23
        (first | rw [c23b0] | (simp only [i64_w, i32_w]; rw [c23b0]) | skip)
        have H' := Aside0.mk H
        clear H
        go_wp2
        repeat (go_quiet (fail); try go_wp2)
        go_meet
        case rel => exact ⟨_, (true), (by first | rfl | (simp; done) | (simp [*]; done)), H', ⟨by first | omega | exact Nat.le_refl _⟩, ⟨by (with_reducible repeat (first | apply Kd.R_alloc | apply Kd.R_drewN | apply Kd.R_drew)); exact Kd.R_mono HO272.out (fun _ hk => ⟨hk.1.1.1.2, ⟨hk.1.1.2, hk.1.2⟩⟩)⟩, ⟨by (with_reducible repeat (first | apply Kd.S_alloc | apply Kd.S_drewN | apply Kd.S_drew)); exact Kd.S_mono HO282.out (fun _ hk => hk.2)⟩, ⟨by (with_reducible repeat (first | apply Kd.S_alloc | apply Kd.S_drewN | apply Kd.S_drew)); exact Kd.S_mono HO286.out (fun _ hk => hk.2)⟩, ⟨by (with_reducible repeat (first | apply Kd.R_alloc | apply Kd.R_drewN | apply Kd.R_drew)); exact Kd.R_mono HO290.out (fun _ hk => ⟨hk.1.1.2, ⟨hk.1.1.1, hk.1.2⟩⟩)⟩, ⟨by (with_reducible repeat (first | apply Kd.R_alloc | apply Kd.R_drewN | apply Kd.R_drew)); exact Kd.R_mono HO292.out (fun _ hk => ⟨hk.1.1.2, ⟨hk.1.1.1, hk.1.2⟩⟩)⟩, ⟨by (with_reducible repeat (first | apply Kd.R_alloc | apply Kd.R_drewN | apply Kd.R_drew)); exact Kd.R_mono HO296.out (fun _ hk => ⟨hk.1.1.1.2, ⟨hk.1.1.2, hk.1.2⟩⟩)⟩, ⟨by repeat (first | (with_reducible first | exact HB.out | apply below_alloc | apply pw_below_drewN | apply below_drew1) | exact HB.out)⟩⟩
    case rest =>
      clear HC12
      try clear c1
      try clear c2
      try clear p2
      try clear c3
      try clear c13
      try clear c23
      try clear c23b0
      try clear c23b1
      try clear c24
      try clear c24b0
      try clear c24b1
      try clear c25
      try clear c25b0
      try clear c25b1
      try clear c26
      try clear c26b0
      try clear c26b1
      try clear c28
      try clear c29
      try clear c29b0
      try clear c29b1
      try clear c31
      obtain ⟨kq, x114_11, rfl, HA, HJ11, HO_3, HO_12, HO_14, HO_16, HO_17, HO_18, HB⟩ := hcut
      cases kq with
      | zero => exact absurd HA.out (by simp [laws_FnChains.j0])
      | succ kj11 =>
        have H := HA.out
        clear HA
        simp only [laws_FnChains.j0] at H
        by_cases c46 : x114_11 = true
        · subst c46
          have H1 : (some false) = some r := by rw [if_pos rfl] at H; exact H
          clear H
          have H := H1
          clear H1
          obtain rfl := Option.some.inj H
          go_wp2
          repeat (go_quiet (fail); try go_wp2)
          go_ret
          exact ⟨by first | rfl | (simp [errW_none, errW_some] <;> rfl) | (simp [*, errW_none, errW_some] <;> rfl), by repeat (first | (with_reducible first | exact HB.out | apply below_alloc | apply pw_below_drewN | apply below_drew1) | exact HB.out)⟩
        · replace c46 := Bool.eq_false_iff.mpr c46
          subst c46
          have H1 : (if t294 = 0 then ((impl_IsChain.f kj11 t293).bind fun t304 => (if t304 = true then (laws_FnChains.j1 kj11 t268 t269 t270 t273 t274 t275 t279 t283 ((t293.length : Int) != (wrap64 ((t287.length : Int) + (t288.length : Int))))) else (laws_FnChains.j1 kj11 t268 t269 t270 t273 t274 t275 t279 t283 true))) else (laws_FnChains.j1 kj11 t268 t269 t270 t273 t274 t275 t279 t283 false)) = some r := by rw [if_neg (show ¬ (false = true) by decide)] at H; exact H
          clear H
          have H := H1
          clear H1
          have HC47 := Aside0.mk H
          clear H
          go_upto_region 13 with (fail)
          repeat (go_quiet (fail); go_upto_region 13 with (fail))
          go_cut [131] (fun v131 wc => ∃ (kq : Nat) (x131_46 : Bool), v131 = .bool x131_46 ∧ Aside0 (laws_FnChains.j1 kq t268 t269 t270 t273 t274 t275 t279 t283 x131_46 = some r) ∧ Aside0 (kq ≤ kj11) ∧ Aside0 (Kd.R k176 176 wc w.heap.size (fun _ => True) (.slice Ao14 t268.length co14) t268) ∧ Aside0 (Kd.S (Kd.slice 2 (Kd.int .i64)) 30 wc w.heap.size (fun k_ => some k_ ≠ (v285 : Value).ownBlock) v281 t279) ∧ Aside0 (Kd.S (Kd.slice 2 (Kd.int .i64)) 30 wc w.heap.size (fun k_ => some k_ ≠ (v281 : Value).ownBlock) v285 t283) ∧ Aside0 (Below w.heap.size w wc))
          case first =>
            have H := HC47.out
            clear HC47
            by_cases c48 : t294 = 0
            · rw [if_pos c48] at H
              have c48b0 : (t294 == 0) = true := beq_iff_eq.mpr c48
              have c48b1 : (t294 != 0) = false := bne_eq_false_iff_eq.mpr c48
              clear c48
              (first | rw [c48b0] | (simp only [i64_w, i32_w]; rw [c48b0]) | skip)
              replace H := Option.bind_eq_some_iff.mp H
              obtain ⟨t304, A490, H⟩ := H
              replace H : (if t304 = true then (laws_FnChains.j1 kj11 t268 t269 t270 t273 t274 t275 t279 t283 ((t293.length : Int) != (wrap64 ((t287.length : Int) + (t288.length : Int))))) else (laws_FnChains.j1 kj11 t268 t269 t270 t273 t274 t275 t279 t283 true)) = some r := H
              have A49 := Aside0.mk A490
              clear A490
              by_cases c50 : t304 = true
              · subst c50
                have H1 : (laws_FnChains.j1 kj11 t268 t269 t270 t273 t274 t275 t279 t283 ((t293.length : Int) != (wrap64 ((t287.length : Int) + (t288.length : Int))))) = some r := by rw [if_pos rfl] at H; exact H
                clear H
                have H := H1
                clear H1
                have H' := Aside0.mk H
                clear H
                obtain ⟨Ao51, co51, eo51⟩ := Kd.R_slice HO_18.out
                subst eo51
                go_wp2_with (first | (go_at_call 83; (with_reducible refine (impl_IsChain.calls kj11 _ _ t293 true _ ?side1 ?side2 A49.out).mono ?_); (case side1 => repeat (first | exact (Kd.R_reads' HO_18.out).2.2 | (with_reducible refine Kd.C_alloc ?_ _) | (with_reducible refine Kd.C_drewN ?_ _) | (with_reducible refine Kd.C_drew ?_))); (case side2 => exact (Kd.R_reads' HO_18.out).2.1); rintro e w52 ⟨rfl, hb⟩; have n0_ := Aside0.mk (Kd.R_below (by (with_reducible repeat (first | apply Kd.R_alloc | apply Kd.R_drewN | apply Kd.R_drew)); exact HO_3.out) hb); have n1_ := Aside0.mk (Kd.S_below (by (with_reducible repeat (first | apply Kd.S_alloc | apply Kd.S_drewN | apply Kd.S_drew)); exact HO_12.out) hb); have n2_ := Aside0.mk (Kd.S_below (by (with_reducible repeat (first | apply Kd.S_alloc | apply Kd.S_drewN | apply Kd.S_drew)); exact HO_14.out) hb); have n3_ := Aside0.mk (Kd.R_below (by (with_reducible repeat (first | apply Kd.R_alloc | apply Kd.R_drewN | apply Kd.R_drew)); exact HO_16.out) hb); have n4_ := Aside0.mk (Kd.R_below (by (with_reducible repeat (first | apply Kd.R_alloc | apply Kd.R_drewN | apply Kd.R_drew)); exact HO_17.out) hb); have n5_ := Aside0.mk (Kd.R_below (by (with_reducible repeat (first | apply Kd.R_alloc | apply Kd.R_drewN | apply Kd.R_drew)); exact HO_18.out) hb); have n6_ := Aside0.mk (below_step (by repeat (first | (with_reducible first | exact HB.out | apply below_alloc | apply pw_below_drewN | apply below_drew1) | exact HB.out)) hb); clear HO_3; clear HO_12; clear HO_14; clear HO_16; clear HO_17; clear HO_18; clear HB; have HO_3 := n0_; have HO_12 := n1_; have HO_14 := n2_; have HO_16 := n3_; have HO_17 := n4_; have HO_18 := n5_; have HB := n6_; clear n0_ n1_ n2_ n3_ n4_ n5_ n6_; (try clear hb); (try clear hb2); (try clear hk); (try clear hi)))
                repeat (go_quiet (first | (go_at_call 83; (with_reducible refine (impl_IsChain.calls kj11 _ _ t293 true _ ?side1 ?side2 A49.out).mono ?_); (case side1 => repeat (first | exact (Kd.R_reads' HO_18.out).2.2 | (with_reducible refine Kd.C_alloc ?_ _) | (with_reducible refine Kd.C_drewN ?_ _) | (with_reducible refine Kd.C_drew ?_))); (case side2 => exact (Kd.R_reads' HO_18.out).2.1); rintro e w52 ⟨rfl, hb⟩; have n0_ := Aside0.mk (Kd.R_below (by (with_reducible repeat (first | apply Kd.R_alloc | apply Kd.R_drewN | apply Kd.R_drew)); exact HO_3.out) hb); have n1_ := Aside0.mk (Kd.S_below (by (with_reducible repeat (first | apply Kd.S_alloc | apply Kd.S_drewN | apply Kd.S_drew)); exact HO_12.out) hb); have n2_ := Aside0.mk (Kd.S_below (by (with_reducible repeat (first | apply Kd.S_alloc | apply Kd.S_drewN | apply Kd.S_drew)); exact HO_14.out) hb); have n3_ := Aside0.mk (Kd.R_below (by (with_reducible repeat (first | apply Kd.R_alloc | apply Kd.R_drewN | apply Kd.R_drew)); exact HO_16.out) hb); have n4_ := Aside0.mk (Kd.R_below (by (with_reducible repeat (first | apply Kd.R_alloc | apply Kd.R_drewN | apply Kd.R_drew)); exact HO_17.out) hb); have n5_ := Aside0.mk (Kd.R_below (by (with_reducible repeat (first | apply Kd.R_alloc | apply Kd.R_drewN | apply Kd.R_drew)); exact HO_18.out) hb); have n6_ := Aside0.mk (below_step (by repeat (first | (with_reducible first | exact HB.out | apply below_alloc | apply pw_below_drewN | apply below_drew1) | exact HB.out)) hb); clear HO_3; clear HO_12; clear HO_14; clear HO_16; clear HO_17; clear HO_18; clear HB; have HO_3 := n0_; have HO_12 := n1_; have HO_14 := n2_; have HO_16 := n3_; have HO_17 := n4_; have HO_18 := n5_; have HB := n6_; clear n0_ n1_ n2_ n3_ n4_ n5_ n6_; (try clear hb); (try clear hb2); (try clear hk); (try clear hi))); try go_wp2_with (first | (go_at_call 83; (with_reducible refine (impl_IsChain.calls kj11 _ _ t293 true _ ?side1 ?side2 A49.out).mono ?_); (case side1 => repeat (first | exact (Kd.R_reads' HO_18.out).2.2 | (with_reducible refine Kd.C_alloc ?_ _) | (with_reducible refine Kd.C_drewN ?_ _) | (with_reducible refine Kd.C_drew ?_))); (case side2 => exact (Kd.R_reads' HO_18.out).2.1); rintro e w52 ⟨rfl, hb⟩; have n0_ := Aside0.mk (Kd.R_below (by (with_reducible repeat (first | apply Kd.R_alloc | apply Kd.R_drewN | apply Kd.R_drew)); exact HO_3.out) hb); have n1_ := Aside0.mk (Kd.S_below (by (with_reducible repeat (first | apply Kd.S_alloc | apply Kd.S_drewN | apply Kd.S_drew)); exact HO_12.out) hb); have n2_ := Aside0.mk (Kd.S_below (by (with_reducible repeat (first | apply Kd.S_alloc | apply Kd.S_drewN | apply Kd.S_drew)); exact HO_14.out) hb); have n3_ := Aside0.mk (Kd.R_below (by (with_reducible repeat (first | apply Kd.R_alloc | apply Kd.R_drewN | apply Kd.R_drew)); exact HO_16.out) hb); have n4_ := Aside0.mk (Kd.R_below (by (with_reducible repeat (first | apply Kd.R_alloc | apply Kd.R_drewN | apply Kd.R_drew)); exact HO_17.out) hb); have n5_ := Aside0.mk (Kd.R_below (by (with_reducible repeat (first | apply Kd.R_alloc | apply Kd.R_drewN | apply Kd.R_drew)); exact HO_18.out) hb); have n6_ := Aside0.mk (below_step (by repeat (first | (with_reducible first | exact HB.out | apply below_alloc | apply pw_below_drewN | apply below_drew1) | exact HB.out)) hb); clear HO_3; clear HO_12; clear HO_14; clear HO_16; clear HO_17; clear HO_18; clear HB; have HO_3 := n0_; have HO_12 := n1_; have HO_14 := n2_; have HO_16 := n3_; have HO_17 := n4_; have HO_18 := n5_; have HB := n6_; clear n0_ n1_ n2_ n3_ n4_ n5_ n6_; (try clear hb); (try clear hb2); (try clear hk); (try clear hi))))
                go_meet
                case rel => exact ⟨_, (((t293.length : Int) != (wrap64 ((t287.length : Int) + (t288.length : Int))))), (by first | rfl | (simp; done) | (simp [*]; done)), H', ⟨by have := HJ11.out; first | omega | exact Nat.le_refl _⟩, ⟨by (with_reducible repeat (first | apply Kd.R_alloc | apply Kd.R_drewN | apply Kd.R_drew)); exact Kd.R_mono HO_3.out (fun _ hk => trivial)⟩, ⟨by (with_reducible repeat (first | apply Kd.S_alloc | apply Kd.S_drewN | apply Kd.S_drew)); exact HO_12.out⟩, ⟨by (with_reducible repeat (first | apply Kd.S_alloc | apply Kd.S_drewN | apply Kd.S_drew)); exact HO_14.out⟩, ⟨by repeat (first | (with_reducible first | exact HB.out | apply below_alloc | apply pw_below_drewN | apply below_drew1) | exact HB.out)⟩⟩
              · replace c50 := Bool.eq_false_iff.mpr c50
                subst c50
                have H1 : (laws_FnChains.j1 kj11 t268 t269 t270 t273 t274 t275 t279 t283 true) = some r := by rw [if_neg (show ¬ (false = true) by decide)] at H; exact H
                clear H
                have H := H1
                clear H1
                have H' := Aside0.mk H
                clear H
                obtain ⟨Ao53, co53, eo53⟩ := Kd.R_slice HO_18.out
                subst eo53
                go_wp2_with (first | (go_at_call 83; (with_reducible refine (impl_IsChain.calls kj11 _ _ t293 false _ ?side1 ?side2 A49.out).mono ?_); (case side1 => repeat (first | exact (Kd.R_reads' HO_18.out).2.2 | (with_reducible refine Kd.C_alloc ?_ _) | (with_reducible refine Kd.C_drewN ?_ _) | (with_reducible refine Kd.C_drew ?_))); (case side2 => exact (Kd.R_reads' HO_18.out).2.1); rintro e w54 ⟨rfl, hb⟩; have n0_ := Aside0.mk (Kd.R_below (by (with_reducible repeat (first | apply Kd.R_alloc | apply Kd.R_drewN | apply Kd.R_drew)); exact HO_3.out) hb); have n1_ := Aside0.mk (Kd.S_below (by (with_reducible repeat (first | apply Kd.S_alloc | apply Kd.S_drewN | apply Kd.S_drew)); exact HO_12.out) hb); have n2_ := Aside0.mk (Kd.S_below (by (with_reducible repeat (first | apply Kd.S_alloc | apply Kd.S_drewN | apply Kd.S_drew)); exact HO_14.out) hb); have n3_ := Aside0.mk (Kd.R_below (by (with_reducible repeat (first | apply Kd.R_alloc | apply Kd.R_drewN | apply Kd.R_drew)); exact HO_16.out) hb); have n4_ := Aside0.mk (Kd.R_below (by (with_reducible repeat (first | apply Kd.R_alloc | apply Kd.R_drewN | apply Kd.R_drew)); exact HO_17.out) hb); have n5_ := Aside0.mk (Kd.R_below (by (with_reducible repeat (first | apply Kd.R_alloc | apply Kd.R_drewN | apply Kd.R_drew)); exact HO_18.out) hb); have n6_ := Aside0.mk (below_step (by repeat (first | (with_reducible first | exact HB.out | apply below_alloc | apply pw_below_drewN | apply below_drew1) | exact HB.out)) hb); clear HO_3; clear HO_12; clear HO_14; clear HO_16; clear HO_17; clear HO_18; clear HB; have HO_3 := n0_; have HO_12 := n1_; have HO_14 := n2_; have HO_16 := n3_; have HO_17 := n4_; have HO_18 := n5_; have HB := n6_; clear n0_ n1_ n2_ n3_ n4_ n5_ n6_; (try clear hb); (try clear hb2); (try clear hk); (try clear hi)))
                repeat (go_quiet (first | (go_at_call 83; (with_reducible refine (impl_IsChain.calls kj11 _ _ t293 false _ ?side1 ?side2 A49.out).mono ?_); (case side1 => repeat (first | exact (Kd.R_reads' HO_18.out).2.2 | (with_reducible refine Kd.C_alloc ?_ _) | (with_reducible refine Kd.C_drewN ?_ _) | (with_reducible refine Kd.C_drew ?_))); (case side2 => exact (Kd.R_reads' HO_18.out).2.1); rintro e w54 ⟨rfl, hb⟩; have n0_ := Aside0.mk (Kd.R_below (by (with_reducible repeat (first | apply Kd.R_alloc | apply Kd.R_drewN | apply Kd.R_drew)); exact HO_3.out) hb); have n1_ := Aside0.mk (Kd.S_below (by (with_reducible repeat (first | apply Kd.S_alloc | apply Kd.S_drewN | apply Kd.S_drew)); exact HO_12.out) hb); have n2_ := Aside0.mk (Kd.S_below (by (with_reducible repeat (first | apply Kd.S_alloc | apply Kd.S_drewN | apply Kd.S_drew)); exact HO_14.out) hb); have n3_ := Aside0.mk (Kd.R_below (by (with_reducible repeat (first | apply Kd.R_alloc | apply Kd.R_drewN | apply Kd.R_drew)); exact HO_16.out) hb); have n4_ := Aside0.mk (Kd.R_below (by (with_reducible repeat (first | apply Kd.R_alloc | apply Kd.R_drewN | apply Kd.R_drew)); exact HO_17.out) hb); have n5_ := Aside0.mk (Kd.R_below (by (with_reducible repeat (first | apply Kd.R_alloc | apply Kd.R_drewN | apply Kd.R_drew)); exact HO_18.out) hb); have n6_ := Aside0.mk (below_step (by repeat (first | (with_reducible first | exact HB.out | apply below_alloc | apply pw_below_drewN | apply below_drew1) | exact HB.out)) hb); clear HO_3; clear HO_12; clear HO_14; clear HO_16; clear HO_17; clear HO_18; clear HB; have HO_3 := n0_; have HO_12 := n1_; have HO_14 := n2_; have HO_16 := n3_; have HO_17 := n4_; have HO_18 := n5_; have HB := n6_; clear n0_ n1_ n2_ n3_ n4_ n5_ n6_; (try clear hb); (try clear hb2); (try clear hk); (try clear hi))); try go_wp2_with (first | (go_at_call 83; (with_reducible refine (impl_IsChain.calls kj11 _ _ t293 false _ ?side1 ?side2 A49.out).mono ?_); (case side1 => repeat (first | exact (Kd.R_reads' HO_18.out).2.2 | (with_reducible refine Kd.C_alloc ?_ _) | (with_reducible refine Kd.C_drewN ?_ _) | (with_reducible refine Kd.C_drew ?_))); (case side2 => exact (Kd.R_reads' HO_18.out).2.1); rintro e w54 ⟨rfl, hb⟩; have n0_ := Aside0.mk (Kd.R_below (by (with_reducible repeat (first | apply Kd.R_alloc | apply Kd.R_drewN | apply Kd.R_drew)); exact HO_3.out) hb); have n1_ := Aside0.mk (Kd.S_below (by (with_reducible repeat (first | apply Kd.S_alloc | apply Kd.S_drewN | apply Kd.S_drew)); exact HO_12.out) hb); have n2_ := Aside0.mk (Kd.S_below (by (with_reducible repeat (first | apply Kd.S_alloc | apply Kd.S_drewN | apply Kd.S_drew)); exact HO_14.out) hb); have n3_ := Aside0.mk (Kd.R_below (by (with_reducible repeat (first | apply Kd.R_alloc | apply Kd.R_drewN | apply Kd.R_drew)); exact HO_16.out) hb); have n4_ := Aside0.mk (Kd.R_below (by (with_reducible repeat (first | apply Kd.R_alloc | apply Kd.R_drewN | apply Kd.R_drew)); exact HO_17.out) hb); have n5_ := Aside0.mk (Kd.R_below (by (with_reducible repeat (first | apply Kd.R_alloc | apply Kd.R_drewN | apply Kd.R_drew)); exact HO_18.out) hb); have n6_ := Aside0.mk (below_step (by repeat (first | (with_reducible first | exact HB.out | apply below_alloc | apply pw_below_drewN | apply below_drew1) | exact HB.out)) hb); clear HO_3; clear HO_12; clear HO_14; clear HO_16; clear HO_17; clear HO_18; clear HB; have HO_3 := n0_; have HO_12 := n1_; have HO_14 := n2_; have HO_16 := n3_; have HO_17 := n4_; have HO_18 := n5_; have HB := n6_; clear n0_ n1_ n2_ n3_ n4_ n5_ n6_; (try clear hb); (try clear hb2); (try clear hk); (try clear hi))))
                go_meet
                case rel => exact ⟨_, (true), (by first | rfl | (simp; done) | (simp [*]; done)), H', ⟨by have := HJ11.out; first | omega | exact Nat.le_refl _⟩, ⟨by (with_reducible repeat (first | apply Kd.R_alloc | apply Kd.R_drewN | apply Kd.R_drew)); exact Kd.R_mono HO_3.out (fun _ hk => trivial)⟩, ⟨by (with_reducible repeat (first | apply Kd.S_alloc | apply Kd.S_drewN | apply Kd.S_drew)); exact HO_12.out⟩, ⟨by (with_reducible repeat (first | apply Kd.S_alloc | apply Kd.S_drewN | apply Kd.S_drew)); exact HO_14.out⟩, ⟨by repeat (first | (with_reducible first | exact HB.out | apply below_alloc | apply pw_below_drewN | apply below_drew1) | exact HB.out)⟩⟩
            · rw [if_neg c48] at H
              have c48b0 : (t294 == 0) = false := beq_eq_false_iff_ne.mpr c48
              have c48b1 : (t294 != 0) = true := bne_iff_ne.mpr c48
              (first | rw [c48b0] | (simp only [i64_w, i32_w]; rw [c48b0]) | skip)
              have H' := Aside0.mk H
              clear H
              go_wp2
              repeat (go_quiet (fail); try go_wp2)
              go_meet
              case rel => exact ⟨_, (false), (by first | rfl | (simp; done) | (simp [*]; done)), H', ⟨by have := HJ11.out; first | omega | exact Nat.le_refl _⟩, ⟨by (with_reducible repeat (first | apply Kd.R_alloc | apply Kd.R_drewN | apply Kd.R_drew)); exact Kd.R_mono HO_3.out (fun _ hk => trivial)⟩, ⟨by (with_reducible repeat (first | apply Kd.S_alloc | apply Kd.S_drewN | apply Kd.S_drew)); exact HO_12.out⟩, ⟨by (with_reducible repeat (first | apply Kd.S_alloc | apply Kd.S_drewN | apply Kd.S_drew)); exact HO_14.out⟩, ⟨by repeat (first | (with_reducible first | exact HB.out | apply below_alloc | apply pw_below_drewN | apply below_drew1) | exact HB.out)⟩⟩
          case rest =>
            clear HC47
            try clear c1
            try clear c2
            try clear p2
            try clear c3
            try clear c4
            try clear c5
            try clear p6
            try clear c13
            try clear c23
            try clear c23b0
            try clear c23b1
            try clear c24
            try clear c24b0
            try clear c24b1
            try clear c25
            try clear c25b0
            try clear c25b1
            try clear c26
            try clear c26b0
            try clear c26b1
            try clear c28
            try clear c29
            try clear c29b0
            try clear c29b1
            try clear c31
            try clear c46
            try clear c48
            try clear c48b0
            try clear c48b1
            try clear c50
            try clear p2
            obtain ⟨kq, x131_46, rfl, HA, HJ46, HO_3, HO_12, HO_14, HB⟩ := hcut
            cases kq with
            | zero => exact absurd HA.out (by simp [laws_FnChains.j1])
            | succ kj46 =>
              have H := HA.out
              clear HA
              simp only [laws_FnChains.j1] at H
              by_cases c55 : x131_46 = true
              · subst c55
                have H1 : (some false) = some r := by rw [if_pos rfl] at H; exact H
                clear H
                have H := H1
                clear H1
                obtain rfl := Option.some.inj H
                go_wp2
                repeat (go_quiet (fail); try go_wp2)
                go_ret
                exact ⟨by first | rfl | (simp [errW_none, errW_some] <;> rfl) | (simp [*, errW_none, errW_some] <;> rfl), by repeat (first | (with_reducible first | exact HB.out | apply below_alloc | apply pw_below_drewN | apply below_drew1) | exact HB.out)⟩
              · replace c55 := Bool.eq_false_iff.mpr c55
                subst c55
                have H1 : (if t275 = 0 then (if 0 ≤ t270 then (if t270 < (t279.length : Int) then (if 0 < ((rd_L3 t279 t270).length : Int) then (if 0 ≤ t269 then (if t269 < (t283.length : Int) then (if 0 < ((rd_L3 t283 t269).length : Int) then (if t273 = (wrap64 ((rd (rd_L3 t279 t270) 0) - (rd (rd_L3 t283 t269) 0))) then (if 1 < ((rd_L3 t279 t270).length : Int) then (if 1 < ((rd_L3 t283 t269).length : Int) then (if t274 = (wrap64 ((rd (rd_L3 t279 t270) 1) - (rd (rd_L3 t283 t269) 1))) then (if t273 ≤ t274 then (some ((t279.length : Int) == (wrap64 ((t268.length : Int) + 1)))) else (some false)) else (some false)) else (none)) else (none)) else (some false)) else (none)) else (none)) else (none)) else (none)) else (none)) else (none)) else (some true)) = some r := by rw [if_neg (show ¬ (false = true) by decide)] at H; exact H
                clear H
                have H := H1
                clear H1
                by_cases c56 : t275 = 0
                · rw [if_pos c56] at H
                  have c56b0 : (t275 == 0) = true := beq_iff_eq.mpr c56
                  have c56b1 : (t275 != 0) = false := bne_eq_false_iff_eq.mpr c56
                  clear c56
                  by_cases c57 : 0 ≤ t270
                  · rw [if_pos c57] at H
                    have c57b0 : decide (0 ≤ t270) = true := decide_eq_true c57
                    clear c57
                    by_cases c58 : t270 < (t279.length : Int)
                    · rw [if_pos c58] at H
                      have c58b0 : decide (t270 < (t279.length : Int)) = true := decide_eq_true c58
                      clear c58
                      by_cases c59 : 0 < ((rd_L3 t279 t270).length : Int)
                      · rw [if_pos c59] at H
                        have c59b0 : decide (0 < ((rd_L3 t279 t270).length : Int)) = true := decide_eq_true c59
                        have c59b1 : decide (0 < (rd_L3 t279 t270).length) = true := decide_eq_true (by omega)
                        clear c59
                        by_cases c60 : 0 ≤ t269
                        · rw [if_pos c60] at H
                          have c60b0 : decide (0 ≤ t269) = true := decide_eq_true c60
                          clear c60
                          by_cases c61 : t269 < (t283.length : Int)
                          · rw [if_pos c61] at H
                            have c61b0 : decide (t269 < (t283.length : Int)) = true := decide_eq_true c61
                            clear c61
                            by_cases c62 : 0 < ((rd_L3 t283 t269).length : Int)
                            · rw [if_pos c62] at H
                              have c62b0 : decide (0 < ((rd_L3 t283 t269).length : Int)) = true := decide_eq_true c62
                              have c62b1 : decide (0 < (rd_L3 t283 t269).length) = true := decide_eq_true (by omega)
                              clear c62
                              by_cases c63 : t273 = (wrap64 ((rd (rd_L3 t279 t270) 0) - (rd (rd_L3 t283 t269) 0)))
                              · rw [if_pos c63] at H
                                have c63b0 : (t273 == (wrap64 ((rd (rd_L3 t279 t270) 0) - (rd (rd_L3 t283 t269) 0)))) = true := beq_iff_eq.mpr c63
                                have c63b1 : (t273 != (wrap64 ((rd (rd_L3 t279 t270) 0) - (rd (rd_L3 t283 t269) 0)))) = false := bne_eq_false_iff_eq.mpr c63
                                clear c63
                                by_cases c64 : 1 < ((rd_L3 t279 t270).length : Int)
                                · rw [if_pos c64] at H
                                  have c64b0 : decide (1 < ((rd_L3 t279 t270).length : Int)) = true := decide_eq_true c64
                                  have c64b1 : decide (1 < (rd_L3 t279 t270).length) = true := decide_eq_true (by omega)
                                  clear c64
                                  by_cases c65 : 1 < ((rd_L3 t283 t269).length : Int)
                                  · rw [if_pos c65] at H
                                    have c65b0 : decide (1 < ((rd_L3 t283 t269).length : Int)) = true := decide_eq_true c65
                                    have c65b1 : decide (1 < (rd_L3 t283 t269).length) = true := decide_eq_true (by omega)
                                    clear c65
                                    by_cases c66 : t274 = (wrap64 ((rd (rd_L3 t279 t270) 1) - (rd (rd_L3 t283 t269) 1)))
                                    · rw [if_pos c66] at H
                                      have c66b0 : (t274 == (wrap64 ((rd (rd_L3 t279 t270) 1) - (rd (rd_L3 t283 t269) 1)))) = true := beq_iff_eq.mpr c66
                                      have c66b1 : (t274 != (wrap64 ((rd (rd_L3 t279 t270) 1) - (rd (rd_L3 t283 t269) 1)))) = false := bne_eq_false_iff_eq.mpr c66
                                      clear c66
                                      by_cases c67 : t273 ≤ t274
                                      · rw [if_pos c67] at H
                                        have c67b0 : decide (t273 ≤ t274) = true := decide_eq_true c67
                                        clear c67
                                        obtain rfl := Option.some.inj H
                                        obtain ⟨Ao68, co68, eo68⟩ := Kd.S_slice HO_12.out
                                        subst eo68
                                        have p305 : 0 ≤ (t270 : Int) := of_decide_eq_true (by first | (with_reducible assumption) | assumption)
                                        have q305 : t270 < (t279.length : Int) := of_decide_eq_true (by first | (with_reducible assumption) | assumption)
                                        obtain ⟨ad305, A305_0, c305_0, e305, hx305_0, hl305_0, hi305_0⟩ := at_L3 (Kd.S_reads' HO_12.out).2.2 t270 p305 q305
                                        cases e305
                                        obtain ⟨ce305, hce305, hMe305, hcc305⟩ := Kd.S_get HO_12.out [] t270 p305 (by first | exact q305 | exact of_decide_eq_true (by first | (with_reducible assumption) | assumption) | (have e_ := (Kd.S_reads' HO_12.out).1; omega))
                                        obtain ⟨ve305_0, rfl, ge305_0⟩ := hMe305
                                        have hv305_0 := hcc305 0 _ rfl
                                        rw [Nat.add_zero, show ((Kd.slice 2 (Kd.int .i64))).sz = 1 from rfl, Nat.mul_one] at hv305_0
                                        replace hv305_0 := Option.some.inj (hv305_0.symm.trans hx305_0)
                                        rw [hv305_0] at ge305_0
                                        have HL305_0 := Aside0.mk (show Kd.R (Kd.int .i64) 2 _ _ _ _ (rd_L3 t279 t270) from ge305_0)
                                        clear hv305_0 ge305_0
                                        clear hcc305 hce305
                                        have HR305_0 := Aside0.mk hi305_0
                                        have HC305_0 := Aside0.mk hl305_0
                                        clear hi305_0 hl305_0
                                        replace p305 := eq_true p305
                                        replace q305 := eq_true q305
                                        have p306 : 0 ≤ (0 : Int) := (by omega)
                                        have q306 : 0 < ((rd_L3 t279 t270).length : Int) := of_decide_eq_true (by first | (with_reducible assumption) | assumption)
                                        obtain ⟨ad306, e306, hx306_0⟩ := Kd.at_int (by repeat (first | (with_reducible exact HR305_0.out) | (with_reducible refine Kd.C_alloc ?_ _) | (with_reducible refine Kd.C_drewN ?_ _) | (with_reducible refine Kd.C_drew ?_) | exact HR305_0.out)) 0 p306 q306
                                        cases e306
                                        have qi306 : (0 < (rd_L3 t279 t270).length) = True := eq_true (by omega)
                                        (try rw [show ((0 : Int)).toNat = 0 from rfl] at hx306_0)
                                        (try rw [Addr.add_zero'] at hx306_0)
                                        replace p306 := eq_true p306
                                        replace q306 := eq_true q306
                                        obtain ⟨Ao69, co69, eo69⟩ := Kd.S_slice HO_14.out
                                        subst eo69
                                        have p307 : 0 ≤ (t269 : Int) := of_decide_eq_true (by first | (with_reducible assumption) | assumption)
                                        have q307 : t269 < (t283.length : Int) := of_decide_eq_true (by first | (with_reducible assumption) | assumption)
                                        obtain ⟨ad307, A307_0, c307_0, e307, hx307_0, hl307_0, hi307_0⟩ := at_L3 (Kd.S_reads' HO_14.out).2.2 t269 p307 q307
                                        cases e307
                                        obtain ⟨ce307, hce307, hMe307, hcc307⟩ := Kd.S_get HO_14.out [] t269 p307 (by first | exact q307 | exact of_decide_eq_true (by first | (with_reducible assumption) | assumption) | (have e_ := (Kd.S_reads' HO_14.out).1; omega))
                                        obtain ⟨ve307_0, rfl, ge307_0⟩ := hMe307
                                        have hv307_0 := hcc307 0 _ rfl
                                        rw [Nat.add_zero, show ((Kd.slice 2 (Kd.int .i64))).sz = 1 from rfl, Nat.mul_one] at hv307_0
                                        replace hv307_0 := Option.some.inj (hv307_0.symm.trans hx307_0)
                                        rw [hv307_0] at ge307_0
                                        have HL307_0 := Aside0.mk (show Kd.R (Kd.int .i64) 2 _ _ _ _ (rd_L3 t283 t269) from ge307_0)
                                        clear hv307_0 ge307_0
                                        clear hcc307 hce307
                                        have HR307_0 := Aside0.mk hi307_0
                                        have HC307_0 := Aside0.mk hl307_0
                                        clear hi307_0 hl307_0
                                        replace p307 := eq_true p307
                                        replace q307 := eq_true q307
                                        have p308 : 0 ≤ (0 : Int) := (by omega)
                                        have q308 : 0 < ((rd_L3 t283 t269).length : Int) := of_decide_eq_true (by first | (with_reducible assumption) | assumption)
                                        obtain ⟨ad308, e308, hx308_0⟩ := Kd.at_int (by repeat (first | (with_reducible exact HR307_0.out) | (with_reducible refine Kd.C_alloc ?_ _) | (with_reducible refine Kd.C_drewN ?_ _) | (with_reducible refine Kd.C_drew ?_) | exact HR307_0.out)) 0 p308 q308
                                        cases e308
                                        have qi308 : (0 < (rd_L3 t283 t269).length) = True := eq_true (by omega)
                                        (try rw [show ((0 : Int)).toNat = 0 from rfl] at hx308_0)
                                        (try rw [Addr.add_zero'] at hx308_0)
                                        replace p308 := eq_true p308
                                        replace q308 := eq_true q308
                                        have p309 : 0 ≤ (t270 : Int) := of_decide_eq_true (by first | (with_reducible assumption) | assumption)
                                        have q309 : t270 < (t279.length : Int) := of_decide_eq_true (by first | (with_reducible assumption) | assumption)
                                        obtain ⟨ad309, A309_0, c309_0, e309, hx309_0, hl309_0, hi309_0⟩ := at_L3 (Kd.S_reads' HO_12.out).2.2 t270 p309 q309
                                        obtain rfl : ad305 = ad309 := (by injection e309)
                                        obtain ⟨ce309, hce309, hMe309, hcc309⟩ := Kd.S_get HO_12.out [] t270 p309 (by first | exact q309 | exact of_decide_eq_true (by first | (with_reducible assumption) | assumption) | (have e_ := (Kd.S_reads' HO_12.out).1; omega))
                                        obtain ⟨ve309_0, rfl, ge309_0⟩ := hMe309
                                        have hv309_0 := hcc309 0 _ rfl
                                        rw [Nat.add_zero, show ((Kd.slice 2 (Kd.int .i64))).sz = 1 from rfl, Nat.mul_one] at hv309_0
                                        replace hv309_0 := Option.some.inj (hv309_0.symm.trans hx309_0)
                                        rw [hv309_0] at ge309_0
                                        have HL309_0 := Aside0.mk (show Kd.R (Kd.int .i64) 2 _ _ _ _ (rd_L3 t279 t270) from ge309_0)
                                        clear hv309_0 ge309_0
                                        clear hcc309 hce309
                                        have HR309_0 := Aside0.mk hi309_0
                                        have HC309_0 := Aside0.mk hl309_0
                                        clear hi309_0 hl309_0
                                        replace p309 := eq_true p309
                                        replace q309 := eq_true q309
                                        have ea_ := Option.some.inj (hx305_0.symm.trans hx309_0)
                                        injection ea_ with ea_ en_ ec_
                                        subst ea_
                                        subst ec_
                                        clear en_
                                        have p310 : 0 ≤ (1 : Int) := (by omega)
                                        have q310 : 1 < ((rd_L3 t279 t270).length : Int) := of_decide_eq_true (by first | (with_reducible assumption) | assumption)
                                        obtain ⟨ad310, e310, hx310_0⟩ := Kd.at_int (by repeat (first | (with_reducible exact HR309_0.out) | (with_reducible refine Kd.C_alloc ?_ _) | (with_reducible refine Kd.C_drewN ?_ _) | (with_reducible refine Kd.C_drew ?_) | exact HR309_0.out)) 1 p310 q310
                                        cases e310
                                        (try simp only [show (1 : Int).toNat = 1 from rfl, Nat.reduceMul, Nat.reduceEqDiff, Go.Addr.add, ↓reduceIte] at hx310_0)
                                        have qi310 : (1 < (rd_L3 t279 t270).length) = True := eq_true (by omega)
                                        (try rw [show ((1 : Int)).toNat = 1 from rfl] at hx310_0)
                                        replace p310 := eq_true p310
                                        replace q310 := eq_true q310
                                        have p311 : 0 ≤ (t269 : Int) := of_decide_eq_true (by first | (with_reducible assumption) | assumption)
                                        have q311 : t269 < (t283.length : Int) := of_decide_eq_true (by first | (with_reducible assumption) | assumption)
                                        obtain ⟨ad311, A311_0, c311_0, e311, hx311_0, hl311_0, hi311_0⟩ := at_L3 (Kd.S_reads' HO_14.out).2.2 t269 p311 q311
                                        obtain rfl : ad307 = ad311 := (by injection e311)
                                        obtain ⟨ce311, hce311, hMe311, hcc311⟩ := Kd.S_get HO_14.out [] t269 p311 (by first | exact q311 | exact of_decide_eq_true (by first | (with_reducible assumption) | assumption) | (have e_ := (Kd.S_reads' HO_14.out).1; omega))
                                        obtain ⟨ve311_0, rfl, ge311_0⟩ := hMe311
                                        have hv311_0 := hcc311 0 _ rfl
                                        rw [Nat.add_zero, show ((Kd.slice 2 (Kd.int .i64))).sz = 1 from rfl, Nat.mul_one] at hv311_0
                                        replace hv311_0 := Option.some.inj (hv311_0.symm.trans hx311_0)
                                        rw [hv311_0] at ge311_0
                                        have HL311_0 := Aside0.mk (show Kd.R (Kd.int .i64) 2 _ _ _ _ (rd_L3 t283 t269) from ge311_0)
                                        clear hv311_0 ge311_0
                                        clear hcc311 hce311
                                        have HR311_0 := Aside0.mk hi311_0
                                        have HC311_0 := Aside0.mk hl311_0
                                        clear hi311_0 hl311_0
                                        replace p311 := eq_true p311
                                        replace q311 := eq_true q311
                                        have ea_ := Option.some.inj (hx307_0.symm.trans hx311_0)
                                        injection ea_ with ea_ en_ ec_
                                        subst ea_
                                        subst ec_
                                        clear en_
                                        have p312 : 0 ≤ (1 : Int) := (by omega)
                                        have q312 : 1 < ((rd_L3 t283 t269).length : Int) := of_decide_eq_true (by first | (with_reducible assumption) | assumption)
                                        obtain ⟨ad312, e312, hx312_0⟩ := Kd.at_int (by repeat (first | (with_reducible exact HR311_0.out) | (with_reducible refine Kd.C_alloc ?_ _) | (with_reducible refine Kd.C_drewN ?_ _) | (with_reducible refine Kd.C_drew ?_) | exact HR311_0.out)) 1 p312 q312
                                        cases e312
                                        (try simp only [show (1 : Int).toNat = 1 from rfl, Nat.reduceMul, Nat.reduceEqDiff, Go.Addr.add, ↓reduceIte] at hx312_0)
                                        have qi312 : (1 < (rd_L3 t283 t269).length) = True := eq_true (by omega)
                                        (try rw [show ((1 : Int)).toNat = 1 from rfl] at hx312_0)
                                        replace p312 := eq_true p312
                                        replace q312 := eq_true q312
                                        go_wp2
                                        repeat (go_quiet (fail); try go_wp2)
                                        go_ret
                                        exact ⟨by first | rfl | (simp [errW_none, errW_some] <;> rfl) | (simp [*, errW_none, errW_some] <;> rfl), by repeat (first | (with_reducible first | exact HB.out | apply below_alloc | apply pw_below_drewN | apply below_drew1) | exact HB.out)⟩
                                      · rw [if_neg c67] at H
                                        have c67b0 : decide (t273 ≤ t274) = false := decide_eq_false c67
                                        clear c67
                                        obtain rfl := Option.some.inj H
                                        obtain ⟨Ao70, co70, eo70⟩ := Kd.S_slice HO_12.out
                                        subst eo70
                                        have p305 : 0 ≤ (t270 : Int) := of_decide_eq_true (by first | (with_reducible assumption) | assumption)
                                        have q305 : t270 < (t279.length : Int) := of_decide_eq_true (by first | (with_reducible assumption) | assumption)
                                        obtain ⟨ad305, A305_0, c305_0, e305, hx305_0, hl305_0, hi305_0⟩ := at_L3 (Kd.S_reads' HO_12.out).2.2 t270 p305 q305
                                        cases e305
                                        obtain ⟨ce305, hce305, hMe305, hcc305⟩ := Kd.S_get HO_12.out [] t270 p305 (by first | exact q305 | exact of_decide_eq_true (by first | (with_reducible assumption) | assumption) | (have e_ := (Kd.S_reads' HO_12.out).1; omega))
                                        obtain ⟨ve305_0, rfl, ge305_0⟩ := hMe305
                                        have hv305_0 := hcc305 0 _ rfl
                                        rw [Nat.add_zero, show ((Kd.slice 2 (Kd.int .i64))).sz = 1 from rfl, Nat.mul_one] at hv305_0
                                        replace hv305_0 := Option.some.inj (hv305_0.symm.trans hx305_0)
                                        rw [hv305_0] at ge305_0
                                        have HL305_0 := Aside0.mk (show Kd.R (Kd.int .i64) 2 _ _ _ _ (rd_L3 t279 t270) from ge305_0)
                                        clear hv305_0 ge305_0
                                        clear hcc305 hce305
                                        have HR305_0 := Aside0.mk hi305_0
                                        have HC305_0 := Aside0.mk hl305_0
                                        clear hi305_0 hl305_0
                                        replace p305 := eq_true p305
                                        replace q305 := eq_true q305
                                        have p306 : 0 ≤ (0 : Int) := (by omega)
                                        have q306 : 0 < ((rd_L3 t279 t270).length : Int) := of_decide_eq_true (by first | (with_reducible assumption) | assumption)
                                        obtain ⟨ad306, e306, hx306_0⟩ := Kd.at_int (by repeat (first | (with_reducible exact HR305_0.out) | (with_reducible refine Kd.C_alloc ?_ _) | (with_reducible refine Kd.C_drewN ?_ _) | (with_reducible refine Kd.C_drew ?_) | exact HR305_0.out)) 0 p306 q306
                                        cases e306
                                        have qi306 : (0 < (rd_L3 t279 t270).length) = True := eq_true (by omega)
                                        (try rw [show ((0 : Int)).toNat = 0 from rfl] at hx306_0)
                                        (try rw [Addr.add_zero'] at hx306_0)
                                        replace p306 := eq_true p306
                                        replace q306 := eq_true q306
                                        obtain ⟨Ao71, co71, eo71⟩ := Kd.S_slice HO_14.out
                                        subst eo71
                                        have p307 : 0 ≤ (t269 : Int) := of_decide_eq_true (by first | (with_reducible assumption) | assumption)
                                        have q307 : t269 < (t283.length : Int) := of_decide_eq_true (by first | (with_reducible assumption) | assumption)
                                        obtain ⟨ad307, A307_0, c307_0, e307, hx307_0, hl307_0, hi307_0⟩ := at_L3 (Kd.S_reads' HO_14.out).2.2 t269 p307 q307
                                        cases e307
                                        obtain ⟨ce307, hce307, hMe307, hcc307⟩ := Kd.S_get HO_14.out [] t269 p307 (by first | exact q307 | exact of_decide_eq_true (by first | (with_reducible assumption) | assumption) | (have e_ := (Kd.S_reads' HO_14.out).1; omega))
                                        obtain ⟨ve307_0, rfl, ge307_0⟩ := hMe307
                                        have hv307_0 := hcc307 0 _ rfl
                                        rw [Nat.add_zero, show ((Kd.slice 2 (Kd.int .i64))).sz = 1 from rfl, Nat.mul_one] at hv307_0
                                        replace hv307_0 := Option.some.inj (hv307_0.symm.trans hx307_0)
                                        rw [hv307_0] at ge307_0
                                        have HL307_0 := Aside0.mk (show Kd.R (Kd.int .i64) 2 _ _ _ _ (rd_L3 t283 t269) from ge307_0)
                                        clear hv307_0 ge307_0
                                        clear hcc307 hce307
                                        have HR307_0 := Aside0.mk hi307_0
                                        have HC307_0 := Aside0.mk hl307_0
                                        clear hi307_0 hl307_0
                                        replace p307 := eq_true p307
                                        replace q307 := eq_true q307
                                        have p308 : 0 ≤ (0 : Int) := (by omega)
                                        have q308 : 0 < ((rd_L3 t283 t269).length : Int) := of_decide_eq_true (by first | (with_reducible assumption) | assumption)
                                        obtain ⟨ad308, e308, hx308_0⟩ := Kd.at_int (by repeat (first | (with_reducible exact HR307_0.out) | (with_reducible refine Kd.C_alloc ?_ _) | (with_reducible refine Kd.C_drewN ?_ _) | (with_reducible refine Kd.C_drew ?_) | exact HR307_0.out)) 0 p308 q308
                                        cases e308
                                        have qi308 : (0 < (rd_L3 t283 t269).length) = True := eq_true (by omega)
                                        (try rw [show ((0 : Int)).toNat = 0 from rfl] at hx308_0)
                                        (try rw [Addr.add_zero'] at hx308_0)
                                        replace p308 := eq_true p308
                                        replace q308 := eq_true q308
                                        have p309 : 0 ≤ (t270 : Int) := of_decide_eq_true (by first | (with_reducible assumption) | assumption)
                                        have q309 : t270 < (t279.length : Int) := of_decide_eq_true (by first | (with_reducible assumption) | assumption)
                                        obtain ⟨ad309, A309_0, c309_0, e309, hx309_0, hl309_0, hi309_0⟩ := at_L3 (Kd.S_reads' HO_12.out).2.2 t270 p309 q309
                                        obtain rfl : ad305 = ad309 := (by injection e309)
                                        obtain ⟨ce309, hce309, hMe309, hcc309⟩ := Kd.S_get HO_12.out [] t270 p309 (by first | exact q309 | exact of_decide_eq_true (by first | (with_reducible assumption) | assumption) | (have e_ := (Kd.S_reads' HO_12.out).1; omega))
                                        obtain ⟨ve309_0, rfl, ge309_0⟩ := hMe309
                                        have hv309_0 := hcc309 0 _ rfl
                                        rw [Nat.add_zero, show ((Kd.slice 2 (Kd.int .i64))).sz = 1 from rfl, Nat.mul_one] at hv309_0
                                        replace hv309_0 := Option.some.inj (hv309_0.symm.trans hx309_0)
                                        rw [hv309_0] at ge309_0
                                        have HL309_0 := Aside0.mk (show Kd.R (Kd.int .i64) 2 _ _ _ _ (rd_L3 t279 t270) from ge309_0)
                                        clear hv309_0 ge309_0
                                        clear hcc309 hce309
                                        have HR309_0 := Aside0.mk hi309_0
                                        have HC309_0 := Aside0.mk hl309_0
                                        clear hi309_0 hl309_0
                                        replace p309 := eq_true p309
                                        replace q309 := eq_true q309
                                        have ea_ := Option.some.inj (hx305_0.symm.trans hx309_0)
                                        injection ea_ with ea_ en_ ec_
                                        subst ea_
                                        subst ec_
                                        clear en_
                                        have p310 : 0 ≤ (1 : Int) := (by omega)
                                        have q310 : 1 < ((rd_L3 t279 t270).length : Int) := of_decide_eq_true (by first | (with_reducible assumption) | assumption)
                                        obtain ⟨ad310, e310, hx310_0⟩ := Kd.at_int (by repeat (first | (with_reducible exact HR309_0.out) | (with_reducible refine Kd.C_alloc ?_ _) | (with_reducible refine Kd.C_drewN ?_ _) | (with_reducible refine Kd.C_drew ?_) | exact HR309_0.out)) 1 p310 q310
                                        cases e310
                                        (try simp only [show (1 : Int).toNat = 1 from rfl, Nat.reduceMul, Nat.reduceEqDiff, Go.Addr.add, ↓reduceIte] at hx310_0)
                                        have qi310 : (1 < (rd_L3 t279 t270).length) = True := eq_true (by omega)
                                        (try rw [show ((1 : Int)).toNat = 1 from rfl] at hx310_0)
                                        replace p310 := eq_true p310
                                        replace q310 := eq_true q310
                                        have p311 : 0 ≤ (t269 : Int) := of_decide_eq_true (by first | (with_reducible assumption) | assumption)
                                        have q311 : t269 < (t283.length : Int) := of_decide_eq_true (by first | (with_reducible assumption) | assumption)
                                        obtain ⟨ad311, A311_0, c311_0, e311, hx311_0, hl311_0, hi311_0⟩ := at_L3 (Kd.S_reads' HO_14.out).2.2 t269 p311 q311
                                        obtain rfl : ad307 = ad311 := (by injection e311)
                                        obtain ⟨ce311, hce311, hMe311, hcc311⟩ := Kd.S_get HO_14.out [] t269 p311 (by first | exact q311 | exact of_decide_eq_true (by first | (with_reducible assumption) | assumption) | (have e_ := (Kd.S_reads' HO_14.out).1; omega))
                                        obtain ⟨ve311_0, rfl, ge311_0⟩ := hMe311
                                        have hv311_0 := hcc311 0 _ rfl
                                        rw [Nat.add_zero, show ((Kd.slice 2 (Kd.int .i64))).sz = 1 from rfl, Nat.mul_one] at hv311_0
                                        replace hv311_0 := Option.some.inj (hv311_0.symm.trans hx311_0)
                                        rw [hv311_0] at ge311_0
                                        have HL311_0 := Aside0.mk (show Kd.R (Kd.int .i64) 2 _ _ _ _ (rd_L3 t283 t269) from ge311_0)
                                        clear hv311_0 ge311_0
                                        clear hcc311 hce311
                                        have HR311_0 := Aside0.mk hi311_0
                                        have HC311_0 := Aside0.mk hl311_0
                                        clear hi311_0 hl311_0
                                        replace p311 := eq_true p311
                                        replace q311 := eq_true q311
                                        have ea_ := Option.some.inj (hx307_0.symm.trans hx311_0)
                                        injection ea_ with ea_ en_ ec_
                                        subst ea_
                                        subst ec_
                                        clear en_
                                        have p312 : 0 ≤ (1 : Int) := (by omega)
                                        have q312 : 1 < ((rd_L3 t283 t269).length : Int) := of_decide_eq_true (by first | (with_reducible assumption) | assumption)
                                        obtain ⟨ad312, e312, hx312_0⟩ := Kd.at_int (by repeat (first | (with_reducible exact HR311_0.out) | (with_reducible refine Kd.C_alloc ?_ _) | (with_reducible refine Kd.C_drewN ?_ _) | (with_reducible refine Kd.C_drew ?_) | exact HR311_0.out)) 1 p312 q312
                                        cases e312
                                        (try simp only [show (1 : Int).toNat = 1 from rfl, Nat.reduceMul, Nat.reduceEqDiff, Go.Addr.add, ↓reduceIte] at hx312_0)
                                        have qi312 : (1 < (rd_L3 t283 t269).length) = True := eq_true (by omega)
                                        (try rw [show ((1 : Int)).toNat = 1 from rfl] at hx312_0)
                                        replace p312 := eq_true p312
                                        replace q312 := eq_true q312
                                        go_wp2
                                        repeat (go_quiet (fail); try go_wp2)
                                        go_ret
                                        exact ⟨by first | rfl | (simp [errW_none, errW_some] <;> rfl) | (simp [*, errW_none, errW_some] <;> rfl), by repeat (first | (with_reducible first | exact HB.out | apply below_alloc | apply pw_below_drewN | apply below_drew1) | exact HB.out)⟩
                                    · rw [if_neg c66] at H
                                      have c66b0 : (t274 == (wrap64 ((rd (rd_L3 t279 t270) 1) - (rd (rd_L3 t283 t269) 1)))) = false := beq_eq_false_iff_ne.mpr c66
                                      have c66b1 : (t274 != (wrap64 ((rd (rd_L3 t279 t270) 1) - (rd (rd_L3 t283 t269) 1)))) = true := bne_iff_ne.mpr c66
                                      obtain rfl := Option.some.inj H
                                      obtain ⟨Ao72, co72, eo72⟩ := Kd.S_slice HO_12.out
                                      subst eo72
                                      have p305 : 0 ≤ (t270 : Int) := of_decide_eq_true (by first | (with_reducible assumption) | assumption)
                                      have q305 : t270 < (t279.length : Int) := of_decide_eq_true (by first | (with_reducible assumption) | assumption)
                                      obtain ⟨ad305, A305_0, c305_0, e305, hx305_0, hl305_0, hi305_0⟩ := at_L3 (Kd.S_reads' HO_12.out).2.2 t270 p305 q305
                                      cases e305
                                      obtain ⟨ce305, hce305, hMe305, hcc305⟩ := Kd.S_get HO_12.out [] t270 p305 (by first | exact q305 | exact of_decide_eq_true (by first | (with_reducible assumption) | assumption) | (have e_ := (Kd.S_reads' HO_12.out).1; omega))
                                      obtain ⟨ve305_0, rfl, ge305_0⟩ := hMe305
                                      have hv305_0 := hcc305 0 _ rfl
                                      rw [Nat.add_zero, show ((Kd.slice 2 (Kd.int .i64))).sz = 1 from rfl, Nat.mul_one] at hv305_0
                                      replace hv305_0 := Option.some.inj (hv305_0.symm.trans hx305_0)
                                      rw [hv305_0] at ge305_0
                                      have HL305_0 := Aside0.mk (show Kd.R (Kd.int .i64) 2 _ _ _ _ (rd_L3 t279 t270) from ge305_0)
                                      clear hv305_0 ge305_0
                                      clear hcc305 hce305
                                      have HR305_0 := Aside0.mk hi305_0
                                      have HC305_0 := Aside0.mk hl305_0
                                      clear hi305_0 hl305_0
                                      replace p305 := eq_true p305
                                      replace q305 := eq_true q305
                                      have p306 : 0 ≤ (0 : Int) := (by omega)
                                      have q306 : 0 < ((rd_L3 t279 t270).length : Int) := of_decide_eq_true (by first | (with_reducible assumption) | assumption)
                                      obtain ⟨ad306, e306, hx306_0⟩ := Kd.at_int (by repeat (first | (with_reducible exact HR305_0.out) | (with_reducible refine Kd.C_alloc ?_ _) | (with_reducible refine Kd.C_drewN ?_ _) | (with_reducible refine Kd.C_drew ?_) | exact HR305_0.out)) 0 p306 q306
                                      cases e306
                                      have qi306 : (0 < (rd_L3 t279 t270).length) = True := eq_true (by omega)
                                      (try rw [show ((0 : Int)).toNat = 0 from rfl] at hx306_0)
                                      (try rw [Addr.add_zero'] at hx306_0)
                                      replace p306 := eq_true p306
                                      replace q306 := eq_true q306
                                      obtain ⟨Ao73, co73, eo73⟩ := Kd.S_slice HO_14.out
                                      subst eo73
                                      have p307 : 0 ≤ (t269 : Int) := of_decide_eq_true (by first | (with_reducible assumption) | assumption)
                                      have q307 : t269 < (t283.length : Int) := of_decide_eq_true (by first | (with_reducible assumption) | assumption)
                                      obtain ⟨ad307, A307_0, c307_0, e307, hx307_0, hl307_0, hi307_0⟩ := at_L3 (Kd.S_reads' HO_14.out).2.2 t269 p307 q307
                                      cases e307
                                      obtain ⟨ce307, hce307, hMe307, hcc307⟩ := Kd.S_get HO_14.out [] t269 p307 (by first | exact q307 | exact of_decide_eq_true (by first | (with_reducible assumption) | assumption) | (have e_ := (Kd.S_reads' HO_14.out).1; omega))
                                      obtain ⟨ve307_0, rfl, ge307_0⟩ := hMe307
                                      have hv307_0 := hcc307 0 _ rfl
                                      rw [Nat.add_zero, show ((Kd.slice 2 (Kd.int .i64))).sz = 1 from rfl, Nat.mul_one] at hv307_0
                                      replace hv307_0 := Option.some.inj (hv307_0.symm.trans hx307_0)
                                      rw [hv307_0] at ge307_0
                                      have HL307_0 := Aside0.mk (show Kd.R (Kd.int .i64) 2 _ _ _ _ (rd_L3 t283 t269) from ge307_0)
                                      clear hv307_0 ge307_0
                                      clear hcc307 hce307
                                      have HR307_0 := Aside0.mk hi307_0
                                      have HC307_0 := Aside0.mk hl307_0
                                      clear hi307_0 hl307_0
                                      replace p307 := eq_true p307
                                      replace q307 := eq_true q307
                                      have p308 : 0 ≤ (0 : Int) := (by omega)
                                      have q308 : 0 < ((rd_L3 t283 t269).length : Int) := of_decide_eq_true (by first | (with_reducible assumption) | assumption)
                                      obtain ⟨ad308, e308, hx308_0⟩ := Kd.at_int (by repeat (first | (with_reducible exact HR307_0.out) | (with_reducible refine Kd.C_alloc ?_ _) | (with_reducible refine Kd.C_drewN ?_ _) | (with_reducible refine Kd.C_drew ?_) | exact HR307_0.out)) 0 p308 q308
                                      cases e308
                                      have qi308 : (0 < (rd_L3 t283 t269).length) = True := eq_true (by omega)
                                      (try rw [show ((0 : Int)).toNat = 0 from rfl] at hx308_0)
                                      (try rw [Addr.add_zero'] at hx308_0)
                                      replace p308 := eq_true p308
                                      replace q308 := eq_true q308
                                      have p309 : 0 ≤ (t270 : Int) := of_decide_eq_true (by first | (with_reducible assumption) | assumption)
                                      have q309 : t270 < (t279.length : Int) := of_decide_eq_true (by first | (with_reducible assumption) | assumption)
                                      obtain ⟨ad309, A309_0, c309_0, e309, hx309_0, hl309_0, hi309_0⟩ := at_L3 (Kd.S_reads' HO_12.out).2.2 t270 p309 q309
                                      obtain rfl : ad305 = ad309 := (by injection e309)
                                      obtain ⟨ce309, hce309, hMe309, hcc309⟩ := Kd.S_get HO_12.out [] t270 p309 (by first | exact q309 | exact of_decide_eq_true (by first | (with_reducible assumption) | assumption) | (have e_ := (Kd.S_reads' HO_12.out).1; omega))
                                      obtain ⟨ve309_0, rfl, ge309_0⟩ := hMe309
                                      have hv309_0 := hcc309 0 _ rfl
                                      rw [Nat.add_zero, show ((Kd.slice 2 (Kd.int .i64))).sz = 1 from rfl, Nat.mul_one] at hv309_0
                                      replace hv309_0 := Option.some.inj (hv309_0.symm.trans hx309_0)
                                      rw [hv309_0] at ge309_0
                                      have HL309_0 := Aside0.mk (show Kd.R (Kd.int .i64) 2 _ _ _ _ (rd_L3 t279 t270) from ge309_0)
                                      clear hv309_0 ge309_0
                                      clear hcc309 hce309
                                      have HR309_0 := Aside0.mk hi309_0
                                      have HC309_0 := Aside0.mk hl309_0
                                      clear hi309_0 hl309_0
                                      replace p309 := eq_true p309
                                      replace q309 := eq_true q309
                                      have ea_ := Option.some.inj (hx305_0.symm.trans hx309_0)
                                      injection ea_ with ea_ en_ ec_
                                      subst ea_
                                      subst ec_
                                      clear en_
                                      have p310 : 0 ≤ (1 : Int) := (by omega)
                                      have q310 : 1 < ((rd_L3 t279 t270).length : Int) := of_decide_eq_true (by first | (with_reducible assumption) | assumption)
                                      obtain ⟨ad310, e310, hx310_0⟩ := Kd.at_int (by repeat (first | (with_reducible exact HR309_0.out) | (with_reducible refine Kd.C_alloc ?_ _) | (with_reducible refine Kd.C_drewN ?_ _) | (with_reducible refine Kd.C_drew ?_) | exact HR309_0.out)) 1 p310 q310
                                      cases e310
                                      (try simp only [show (1 : Int).toNat = 1 from rfl, Nat.reduceMul, Nat.reduceEqDiff, Go.Addr.add, ↓reduceIte] at hx310_0)
                                      have qi310 : (1 < (rd_L3 t279 t270).length) = True := eq_true (by omega)
                                      (try rw [show ((1 : Int)).toNat = 1 from rfl] at hx310_0)
                                      replace p310 := eq_true p310
                                      replace q310 := eq_true q310
                                      have p311 : 0 ≤ (t269 : Int) := of_decide_eq_true (by first | (with_reducible assumption) | assumption)
                                      have q311 : t269 < (t283.length : Int) := of_decide_eq_true (by first | (with_reducible assumption) | assumption)
                                      obtain ⟨ad311, A311_0, c311_0, e311, hx311_0, hl311_0, hi311_0⟩ := at_L3 (Kd.S_reads' HO_14.out).2.2 t269 p311 q311
                                      obtain rfl : ad307 = ad311 := (by injection e311)
                                      obtain ⟨ce311, hce311, hMe311, hcc311⟩ := Kd.S_get HO_14.out [] t269 p311 (by first | exact q311 | exact of_decide_eq_true (by first | (with_reducible assumption) | assumption) | (have e_ := (Kd.S_reads' HO_14.out).1; omega))
                                      obtain ⟨ve311_0, rfl, ge311_0⟩ := hMe311
                                      have hv311_0 := hcc311 0 _ rfl
                                      rw [Nat.add_zero, show ((Kd.slice 2 (Kd.int .i64))).sz = 1 from rfl, Nat.mul_one] at hv311_0
                                      replace hv311_0 := Option.some.inj (hv311_0.symm.trans hx311_0)
                                      rw [hv311_0] at ge311_0
                                      have HL311_0 := Aside0.mk (show Kd.R (Kd.int .i64) 2 _ _ _ _ (rd_L3 t283 t269) from ge311_0)
                                      clear hv311_0 ge311_0
                                      clear hcc311 hce311
                                      have HR311_0 := Aside0.mk hi311_0
                                      have HC311_0 := Aside0.mk hl311_0
                                      clear hi311_0 hl311_0
                                      replace p311 := eq_true p311
                                      replace q311 := eq_true q311
                                      have ea_ := Option.some.inj (hx307_0.symm.trans hx311_0)
                                      injection ea_ with ea_ en_ ec_
                                      subst ea_
                                      subst ec_
                                      clear en_
                                      have p312 : 0 ≤ (1 : Int) := (by omega)
                                      have q312 : 1 < ((rd_L3 t283 t269).length : Int) := of_decide_eq_true (by first | (with_reducible assumption) | assumption)
                                      obtain ⟨ad312, e312, hx312_0⟩ := Kd.at_int (by repeat (first | (with_reducible exact HR311_0.out) | (with_reducible refine Kd.C_alloc ?_ _) | (with_reducible refine Kd.C_drewN ?_ _) | (with_reducible refine Kd.C_drew ?_) | exact HR311_0.out)) 1 p312 q312
                                      cases e312
                                      (try simp only [show (1 : Int).toNat = 1 from rfl, Nat.reduceMul, Nat.reduceEqDiff, Go.Addr.add, ↓reduceIte] at hx312_0)
                                      have qi312 : (1 < (rd_L3 t283 t269).length) = True := eq_true (by omega)
                                      (try rw [show ((1 : Int)).toNat = 1 from rfl] at hx312_0)
                                      replace p312 := eq_true p312
                                      replace q312 := eq_true q312
                                      go_wp2
                                      repeat (go_quiet (fail); try go_wp2)
                                      go_ret
                                      exact ⟨by first | rfl | (simp [errW_none, errW_some] <;> rfl) | (simp [*, errW_none, errW_some] <;> rfl), by repeat (first | (with_reducible first | exact HB.out | apply below_alloc | apply pw_below_drewN | apply below_drew1) | exact HB.out)⟩
                                  · rw [if_neg c65] at H
                                    exact absurd H (by simp)
                                · rw [if_neg c64] at H
                                  exact absurd H (by simp)
                              · rw [if_neg c63] at H
                                have c63b0 : (t273 == (wrap64 ((rd (rd_L3 t279 t270) 0) - (rd (rd_L3 t283 t269) 0)))) = false := beq_eq_false_iff_ne.mpr c63
                                have c63b1 : (t273 != (wrap64 ((rd (rd_L3 t279 t270) 0) - (rd (rd_L3 t283 t269) 0)))) = true := bne_iff_ne.mpr c63
                                obtain rfl := Option.some.inj H
                                obtain ⟨Ao74, co74, eo74⟩ := Kd.S_slice HO_12.out
                                subst eo74
                                have p305 : 0 ≤ (t270 : Int) := of_decide_eq_true (by first | (with_reducible assumption) | assumption)
                                have q305 : t270 < (t279.length : Int) := of_decide_eq_true (by first | (with_reducible assumption) | assumption)
                                obtain ⟨ad305, A305_0, c305_0, e305, hx305_0, hl305_0, hi305_0⟩ := at_L3 (Kd.S_reads' HO_12.out).2.2 t270 p305 q305
                                cases e305
                                obtain ⟨ce305, hce305, hMe305, hcc305⟩ := Kd.S_get HO_12.out [] t270 p305 (by first | exact q305 | exact of_decide_eq_true (by first | (with_reducible assumption) | assumption) | (have e_ := (Kd.S_reads' HO_12.out).1; omega))
                                obtain ⟨ve305_0, rfl, ge305_0⟩ := hMe305
                                have hv305_0 := hcc305 0 _ rfl
                                rw [Nat.add_zero, show ((Kd.slice 2 (Kd.int .i64))).sz = 1 from rfl, Nat.mul_one] at hv305_0
                                replace hv305_0 := Option.some.inj (hv305_0.symm.trans hx305_0)
                                rw [hv305_0] at ge305_0
                                have HL305_0 := Aside0.mk (show Kd.R (Kd.int .i64) 2 _ _ _ _ (rd_L3 t279 t270) from ge305_0)
                                clear hv305_0 ge305_0
                                clear hcc305 hce305
                                have HR305_0 := Aside0.mk hi305_0
                                have HC305_0 := Aside0.mk hl305_0
                                clear hi305_0 hl305_0
                                replace p305 := eq_true p305
                                replace q305 := eq_true q305
                                have p306 : 0 ≤ (0 : Int) := (by omega)
                                have q306 : 0 < ((rd_L3 t279 t270).length : Int) := of_decide_eq_true (by first | (with_reducible assumption) | assumption)
                                obtain ⟨ad306, e306, hx306_0⟩ := Kd.at_int (by repeat (first | (with_reducible exact HR305_0.out) | (with_reducible refine Kd.C_alloc ?_ _) | (with_reducible refine Kd.C_drewN ?_ _) | (with_reducible refine Kd.C_drew ?_) | exact HR305_0.out)) 0 p306 q306
                                cases e306
                                have qi306 : (0 < (rd_L3 t279 t270).length) = True := eq_true (by omega)
                                (try rw [show ((0 : Int)).toNat = 0 from rfl] at hx306_0)
                                (try rw [Addr.add_zero'] at hx306_0)
                                replace p306 := eq_true p306
                                replace q306 := eq_true q306
                                obtain ⟨Ao75, co75, eo75⟩ := Kd.S_slice HO_14.out
                                subst eo75
                                have p307 : 0 ≤ (t269 : Int) := of_decide_eq_true (by first | (with_reducible assumption) | assumption)
                                have q307 : t269 < (t283.length : Int) := of_decide_eq_true (by first | (with_reducible assumption) | assumption)
                                obtain ⟨ad307, A307_0, c307_0, e307, hx307_0, hl307_0, hi307_0⟩ := at_L3 (Kd.S_reads' HO_14.out).2.2 t269 p307 q307
                                cases e307
                                obtain ⟨ce307, hce307, hMe307, hcc307⟩ := Kd.S_get HO_14.out [] t269 p307 (by first | exact q307 | exact of_decide_eq_true (by first | (with_reducible assumption) | assumption) | (have e_ := (Kd.S_reads' HO_14.out).1; omega))
                                obtain ⟨ve307_0, rfl, ge307_0⟩ := hMe307
                                have hv307_0 := hcc307 0 _ rfl
                                rw [Nat.add_zero, show ((Kd.slice 2 (Kd.int .i64))).sz = 1 from rfl, Nat.mul_one] at hv307_0
                                replace hv307_0 := Option.some.inj (hv307_0.symm.trans hx307_0)
                                rw [hv307_0] at ge307_0
                                have HL307_0 := Aside0.mk (show Kd.R (Kd.int .i64) 2 _ _ _ _ (rd_L3 t283 t269) from ge307_0)
                                clear hv307_0 ge307_0
                                clear hcc307 hce307
                                have HR307_0 := Aside0.mk hi307_0
                                have HC307_0 := Aside0.mk hl307_0
                                clear hi307_0 hl307_0
                                replace p307 := eq_true p307
                                replace q307 := eq_true q307
                                have p308 : 0 ≤ (0 : Int) := (by omega)
                                have q308 : 0 < ((rd_L3 t283 t269).length : Int) := of_decide_eq_true (by first | (with_reducible assumption) | assumption)
                                obtain ⟨ad308, e308, hx308_0⟩ := Kd.at_int (by repeat (first | (with_reducible exact HR307_0.out) | (with_reducible refine Kd.C_alloc ?_ _) | (with_reducible refine Kd.C_drewN ?_ _) | (with_reducible refine Kd.C_drew ?_) | exact HR307_0.out)) 0 p308 q308
                                cases e308
                                have qi308 : (0 < (rd_L3 t283 t269).length) = True := eq_true (by omega)
                                (try rw [show ((0 : Int)).toNat = 0 from rfl] at hx308_0)
                                (try rw [Addr.add_zero'] at hx308_0)
                                replace p308 := eq_true p308
                                replace q308 := eq_true q308
                                go_wp2
                                repeat (go_quiet (fail); try go_wp2)
                                go_ret
                                exact ⟨by first | rfl | (simp [errW_none, errW_some] <;> rfl) | (simp [*, errW_none, errW_some] <;> rfl), by repeat (first | (with_reducible first | exact HB.out | apply below_alloc | apply pw_below_drewN | apply below_drew1) | exact HB.out)⟩
                            · rw [if_neg c62] at H
                              exact absurd H (by simp)
                          · rw [if_neg c61] at H
                            exact absurd H (by simp)
                        · rw [if_neg c60] at H
                          exact absurd H (by simp)
                      · rw [if_neg c59] at H
                        exact absurd H (by simp)
                    · rw [if_neg c58] at H
                      exact absurd H (by simp)
                  · rw [if_neg c57] at H
                    exact absurd H (by simp)
                · rw [if_neg c56] at H
                  have c56b0 : (t275 == 0) = false := beq_eq_false_iff_ne.mpr c56
                  have c56b1 : (t275 != 0) = true := bne_iff_ne.mpr c56
                  obtain rfl := Option.some.inj H
                  go_wp2
                  repeat (go_quiet (fail); try go_wp2)
                  go_ret
                  exact ⟨by first | rfl | (simp [errW_none, errW_some] <;> rfl) | (simp [*, errW_none, errW_some] <;> rfl), by repeat (first | (with_reducible first | exact HB.out | apply below_alloc | apply pw_below_drewN | apply below_drew1) | exact HB.out)⟩

/-- THE ONE PURE STATEMENT of laws_FnChains: yours. -/
def laws_FnChains.Pure : Prop := ∀ (l0 : List Int), l0.length ≤ maxLen → l0.length * 1 ≤ 140737488351232 → (∀ x ∈ l0, (Lit.int .u8 x).wf = true) → ∃ k, laws_FnChains.f k l0 = some true
theorem laws_FnChains.walk (P : laws_FnChains.Pure) (a0 : Option Addr) (len0 cap0 : Nat) (z0 : List Int) (w : World) (w0 : (a0 = none ∧ len0 = 0 ∧ cap0 = 0 ∧ z0 = []) ∨ ∃ x, a0 = some x ∧ len0 ≤ cap0 ∧ cap0 ≤ maxLen ∧ z0.length = cap0 ∧ (∀ i, i < z0.length → w.cell? (x.add i) = some (.int .u8 (z0.getD i 0))) ∧ ∀ n ∈ z0, (Lit.int .u8 n).wf = true) (y0 : len0 * 1 ≤ 140737488351232) :
    Calls Try.prog 13 #[.slice a0 len0 cap0] w fun e w' => e = .returned (.bool true) ∧ Below w.heap.size w w' := by
  obtain ⟨l0, rfl, hr0, hm0, hw0, hc0⟩ := ReadsInt.ofRowC w0
  obtain ⟨k, h⟩ := P l0 hm0 y0 hw0
  refine (laws_FnChains.calls k _ _ l0 true w (Kd.C_of_reads (d := (0 : Int)) (h1 := fun _ => rfl) hr0) hc0 h).mono ?_
  rintro e w' ⟨rfl, hd⟩
  exact ⟨rfl, hd⟩


end Go.Proofs.Ytmemamokmeonjaa.PFnChains
