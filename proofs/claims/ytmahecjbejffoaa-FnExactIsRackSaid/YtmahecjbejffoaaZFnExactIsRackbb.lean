/- QFnExactIsRacke of the law FnExactIsRack: taken over, declaration by declaration, as far as the law leans on it (the words and the printed functions are the kit's own print). No condition but what each says. -/
import Derived.Test.YtmahecjbejffoaaZFnExactIsRackav
import Derived.Laws.Cover1
import Derived.Test.YtmahecjbejffoaaZFnExactIsRackaw
import Derived.Test.YtmahecjbejffoaaZFnExactIsRackba
namespace Go.Proofs.Ytmahecjbejffoaa.PFnExactIsRack
open Go.RowKit Go.Proofs.YtmahecjbejffoaaW.PrintWords Go.Proofs.YtmahecjbejffoaaW.PrintLast Go.Proofs.YtmahecjbejffoaaW.PrintMore
attribute [local go_sem] max2_int min2_int max_two min_two max_three min_three max_four min_four   -- for this text's walks alone
set_option linter.unusedVariables false
set_option linter.unusedSimpArgs false
open Bool renaming true → t_, false → f_
def impl_allWithin.l0 : Nat → Int → Int → List Int → Int → Int → Option (Bool)
  | 0, _, _, _, _, _ => none
  | k + 1, x1, x2, x9, x10, x11 => if x11 < x10 then (if 0 ≤ x11 then (if x11 < (x9.length : Int) then ((impl_within.f (rd x9 x11) x1 x2).bind fun t201 => (if t201 = true then (impl_allWithin.l0 k x1 x2 x9 x10 (wrap64 (x11 + 1))) else (some false))) else (none)) else (none)) else (some true)
def impl_allWithin.f (k : Nat) (l0 : List Int) (a1 : Int) (a2 : Int) : Option (Bool) := impl_allWithin.l0 k a1 a2 l0 (l0.length : Int) 0
set_option maxHeartbeats 8000000 in
set_option maxRecDepth 100000 in
theorem impl_allWithin.calls (k : Nat) (A0 : Option Addr) (c0 : Nat) (l0 : List Int) (a1 : Int) (a2 : Int) (r : Bool) (w : World) (hr0 : Kd.C (Kd.int .i64) w A0 l0.length l0) (hc0 : l0.length ≤ c0) (h : impl_allWithin.f k l0 a1 a2 = some r) :
    Calls Try.prog 110 #[.slice A0 l0.length c0, .int .i64 a1, .int .i64 a2] w fun e w' => e = .returned (.bool r) ∧ Drawn0 w w' := by
  have HR0 := Aside0.mk hr0
  have HC0 := Aside0.mk hc0
  clear hr0 hc0
  have H : (impl_allWithin.l0 k a1 a2 l0 (l0.length : Int) 0) = some r := h
  clear h
  have H' := Aside0.mk H
  clear H
  go_enter Try.func110, Try.ntmps110
  go_wp2
  go_loopg [11] k (fun kq v11 w' => ∃ (x11_1 : Int), v11 = .int .i64 x11_1 ∧ Aside0 (impl_allWithin.l0 kq a1 a2 l0 (l0.length : Int) x11_1 = some r) ∧ Aside0 (kq ≤ k) ∧ Drawn0 w w')
  case atStart => exact ⟨(0), (by first | rfl | (simp; done) | (simp [*]; done)), H', ⟨Nat.le_refl _⟩, by repeat (first | exact Drawn0.refl _ | apply Drawn0.step)⟩
  case round =>
    clear H'
    try clear c1
    try clear p2
    obtain ⟨x11_1, rfl, HA, HK1, ⟨m1, rfl⟩⟩ := hrel
    cases gk with
    | zero => exact absurd HA.out (by simp [impl_allWithin.l0])
    | succ k1 =>
      have H := HA.out
      clear HA
      simp only [impl_allWithin.l0] at H
      by_cases c4 : x11_1 < (l0.length : Int)
      · rw [if_pos c4] at H
        have c4b0 : decide (x11_1 < (l0.length : Int)) = true := decide_eq_true c4
        clear c4
        by_cases c5 : 0 ≤ x11_1
        · rw [if_pos c5] at H
          have c5b0 : decide (0 ≤ x11_1) = true := decide_eq_true c5
          clear c5
          by_cases c6 : x11_1 < (l0.length : Int)
          · rw [if_pos c6] at H
            have c6b0 : decide (x11_1 < (l0.length : Int)) = true := decide_eq_true c6
            clear c6
            replace H := Option.bind_eq_some_iff.mp H
            obtain ⟨t201, A70, H⟩ := H
            replace H : (if t201 = true then (impl_allWithin.l0 k1 a1 a2 l0 (l0.length : Int) (wrap64 (x11_1 + 1))) else (some false)) = some r := H
            have A7 := Aside0.mk A70
            clear A70
            by_cases c8 : t201 = true
            · subst c8
              replace H : (impl_allWithin.l0 k1 a1 a2 l0 (l0.length : Int) (wrap64 (x11_1 + 1))) = some r := by rw [if_pos rfl] at H; exact H
              have H' := Aside0.mk H
              clear H
              have p200 : 0 ≤ (x11_1 : Int) := od_
              have q200 : x11_1 < (l0.length : Int) := od_
              obtain ⟨ad200, e200, hx200_0⟩ := Kd.at_int HR0.out x11_1 p200 q200
              cases e200
              replace p200 := eq_true p200
              replace q200 := eq_true q200
              go_wp2_with (first | ((with_reducible refine gate_callee (f := 101) rfl ?_); refine goesL_ (some 18) rfl rfl Try.func101 (by kernel_rfl) rfl #[.int .i64 (rd l0 x11_1), .int .i64 a1, .int .i64 a2] rfl ag_ ?_; (with_reducible refine (impl_within.calls (rd l0 x11_1) a1 a2 true _ A7.out).mono ?_); rintro e w' ⟨rfl, ⟨nd, rfl⟩⟩; refine ⟨_, rfl, ?_⟩))
              go_roundg k1
              case measure => have := HK1.out; omega
              case rel => exact ⟨(wrap64 (x11_1 + 1)), (by first | rfl | (simp; done) | (simp [*]; done)), H', ⟨by have := HK1.out; omega⟩, by repeat (first | exact Drawn0.refl _ | apply Drawn0.step)⟩
            · replace c8 := Bool.eq_false_iff.mpr c8
              subst c8
              replace H : (some false) = some r := by rw [if_neg (show ¬ (false = true) by decide)] at H; exact H
              obtain rfl := Option.some.inj H
              have p200 : 0 ≤ (x11_1 : Int) := od_
              have q200 : x11_1 < (l0.length : Int) := od_
              obtain ⟨ad200, e200, hx200_0⟩ := Kd.at_int HR0.out x11_1 p200 q200
              cases e200
              replace p200 := eq_true p200
              replace q200 := eq_true q200
              go_wp2_with (first | ((with_reducible refine gate_callee (f := 101) rfl ?_); refine goesL_ (some 18) rfl rfl Try.func101 (by kernel_rfl) rfl #[.int .i64 (rd l0 x11_1), .int .i64 a1, .int .i64 a2] rfl ag_ ?_; (with_reducible refine (impl_within.calls (rd l0 x11_1) a1 a2 false _ A7.out).mono ?_); rintro e w' ⟨rfl, ⟨nd, rfl⟩⟩; refine ⟨_, rfl, ?_⟩))
              go_ret
              exact ⟨by first | rfl | (simp; done) | (simp [*]; done), by repeat (first | exact Drawn0.refl _ | apply Drawn0.step)⟩
          · rw [if_neg c6] at H
            exact absurd H (by simp)
        · rw [if_neg c5] at H
          exact absurd H (by simp)
      · rw [if_neg c4] at H
        have c4b0 : decide (x11_1 < (l0.length : Int)) = false := decide_eq_false c4
        clear c4
        obtain rfl := Option.some.inj H
        go_wp2
        go_ret
        exact ⟨by first | rfl | (simp; done) | (simp [*]; done), by repeat (first | exact Drawn0.refl _ | apply Drawn0.step)⟩
def impl_isPlace.f (a0 : Int) (a1 : Int) : Option (Bool) := (impl_within.f a0 0 100000).bind fun t202 => (if t202 = true then ((impl_within.f a1 0 100000).bind fun t203 => (some t203)) else (some false))
set_option maxHeartbeats 8000000 in
set_option maxRecDepth 100000 in
theorem impl_isPlace.calls (a0 : Int) (a1 : Int) (r : Bool) (w : World) (h : impl_isPlace.f a0 a1 = some r) :
    Calls Try.prog 150 #[.int .i64 a0, .int .i64 a1] w fun e w' => e = .returned (.bool r) ∧ Drawn0 w w' := by
  have H : ((impl_within.f a0 0 100000).bind fun t202 => (if t202 = true then ((impl_within.f a1 0 100000).bind fun t203 => (some t203)) else (some false))) = some r := h
  clear h
  replace H := Option.bind_eq_some_iff.mp H
  obtain ⟨t202, A30, H⟩ := H
  replace H : (if t202 = true then ((impl_within.f a1 0 100000).bind fun t203 => (some t203)) else (some false)) = some r := H
  have A3 := Aside0.mk A30
  clear A30
  by_cases c4 : t202 = true
  · subst c4
    replace H : ((impl_within.f a1 0 100000).bind fun t203 => (some t203)) = some r := by rw [if_pos rfl] at H; exact H
    replace H := Option.bind_eq_some_iff.mp H
    obtain ⟨t203, A50, H⟩ := H
    replace H : (some t203) = some r := H
    have A5 := Aside0.mk A50
    clear A50
    obtain rfl := Option.some.inj H
    go_enter Try.func150, Try.ntmps150
    go_wp2_with (first | ((with_reducible refine gate_callee (f := 101) rfl ?_); refine goesL_ (some 6) rfl rfl Try.func101 (by kernel_rfl) rfl #[.int .i64 a0, .int .i64 0, .int .i64 100000] rfl ag_ ?_; (with_reducible refine (impl_within.calls a0 0 100000 true _ A3.out).mono ?_); rintro e w' ⟨rfl, ⟨nd, rfl⟩⟩; refine ⟨_, rfl, ?_⟩) | (go_at_call 101; (with_reducible refine (impl_within.calls a1 0 100000 t203 _ A5.out).mono ?_); rintro e w' ⟨rfl, ⟨nd, rfl⟩⟩))
    go_ret
    exact ⟨by first | rfl | (simp; done) | (simp [*]; done), by repeat (first | exact Drawn0.refl _ | apply Drawn0.step)⟩
  · replace c4 := Bool.eq_false_iff.mpr c4
    subst c4
    replace H : (some false) = some r := by rw [if_neg (show ¬ (false = true) by decide)] at H; exact H
    obtain rfl := Option.some.inj H
    go_enter Try.func150, Try.ntmps150
    go_wp2_with (first | ((with_reducible refine gate_callee (f := 101) rfl ?_); refine goesL_ (some 6) rfl rfl Try.func101 (by kernel_rfl) rfl #[.int .i64 a0, .int .i64 0, .int .i64 100000] rfl ag_ ?_; (with_reducible refine (impl_within.calls a0 0 100000 false _ A3.out).mono ?_); rintro e w' ⟨rfl, ⟨nd, rfl⟩⟩; refine ⟨_, rfl, ?_⟩))
    go_ret
    exact ⟨by first | rfl | (simp; done) | (simp [*]; done), by repeat (first | exact Drawn0.refl _ | apply Drawn0.step)⟩
mutual
def impl_IsWord.j0 : Nat → ByteArray → Bool → Option (Bool)
 | 0, _, _ => none
 | k + 1, x0, x11 => if x11 = true then (some false) else (impl_IsWord.l0 k x0 0)
def impl_IsWord.l0 : Nat → ByteArray → Int → Option (Bool)
 | 0, _, _ => none
 | k + 1, x0, x3 => if x3 < (x0.size : Int) then (if 0 ≤ x3 then (if (bt x0 x3) < 97 then (some false) else (if (bt x0 x3) > 122 then (some false) else (impl_IsWord.l0 k x0 (wrap64 (x3 + 1))))) else (none)) else (some true)
end
def impl_IsWord.f (k : Nat) (a0 : ByteArray) : Option (Bool) := if (a0.size : Int) < 1 then (impl_IsWord.j0 k a0 true) else (impl_IsWord.j0 k a0 (decide ((a0.size : Int) > 16)))
set_option maxHeartbeats 8000000 in
set_option maxRecDepth 100000 in
theorem impl_IsWord.calls (k : Nat) (a0 : ByteArray) (r : Bool) (w : World) (h : impl_IsWord.f k a0 = some r) :
  Calls Try.prog 203 #[.string a0] w fun e w' => e = .returned (.bool r) ∧ Drawn0 w w' := by
 have H : (if (a0.size : Int) < 1 then (impl_IsWord.j0 k a0 true) else (impl_IsWord.j0 k a0 (decide ((a0.size : Int) > 16)))) = some r := h
 clear h
 have HC2 := Aside0.mk H
 clear H
 go_enter Try.func203, Try.ntmps203
 go_upto_region 1 with (fail)
 go_cut [11] (fun v11 wc => ∃ (kq : Nat) (x11_1 : Bool), v11 = .bool x11_1 ∧ Aside0 (impl_IsWord.j0 kq a0 x11_1 = some r) ∧ Aside0 (kq ≤ k) ∧ Drawn0 w wc)
 case first =>
  have H := HC2.out
  clear HC2
  by_cases c3 : (a0.size : Int) < 1
  ·rw [if_pos c3] at H
   have c3b0 : decide ((a0.size : Int) < 1) = true := decide_eq_true c3
   have c3b1 : decide (a0.size < 1) = true := decide_eq_true (by omega)
   clear c3
   (first | rw [c3b0] | (simp only [i64_w, i32_w]; rw [c3b0]) | skip)
   have H' := Aside0.mk H
   clear H
   go_wp2
   go_meet
   case rel => exact ⟨_, (true), (by first | rfl | (simp; done) | (simp [*]; done)), H', ⟨by first | omega | exact Nat.le_refl _⟩, by repeat (first | exact Drawn0.refl _ | apply Drawn0.step)⟩
  ·rw [if_neg c3] at H
   have c3b0 : decide ((a0.size : Int) < 1) = false := decide_eq_false c3
   have c3b1 : decide (a0.size < 1) = false := decide_eq_false (by omega)
   clear c3
   (first | rw [c3b0] | (simp only [i64_w, i32_w]; rw [c3b0]) | skip)
   have H' := Aside0.mk H
   clear H
   go_wp2
   go_meet
   case rel => exact ⟨_, (decide ((a0.size : Int) > 16)), (by first | rfl | (simp; done) | (simp [*]; done)), H', ⟨by first | omega | exact Nat.le_refl _⟩, by repeat (first | exact Drawn0.refl _ | apply Drawn0.step)⟩
 case rest =>
  clear HC2
  try clear c2
  try clear p2
  try clear c3
  try clear c3b0
  try clear c3b1
  obtain ⟨kq, x11_1, rfl, HA, HJ1, ⟨mc1, rfl⟩⟩ := hcut
  cases kq with
  | zero => exact absurd HA.out (by simp [impl_IsWord.j0])
  | succ kj1 =>
   have H := HA.out
   clear HA
   simp only [impl_IsWord.j0] at H
   by_cases c4 : x11_1 = true
   ·subst c4
    replace H : (some false) = some r := by rw [if_pos rfl] at H; exact H
    obtain rfl := Option.some.inj H
    go_wp2
    go_ret
    exact ⟨by first | rfl | (simp; done) | (simp [*]; done), by repeat (first | exact Drawn0.refl _ | apply Drawn0.step)⟩
   ·replace c4 := Bool.eq_false_iff.mpr c4
    subst c4
    replace H : (impl_IsWord.l0 kj1 a0 0) = some r := by rw [if_neg (show ¬ (false = true) by decide)] at H; exact H
    have H' := Aside0.mk H
    clear H
    go_wp2
    go_loopg [3] kj1 (fun kq v3 w' => ∃ (x3_2 : Int), v3 = .int .i64 x3_2 ∧ Aside0 (impl_IsWord.l0 kq a0 x3_2 = some r) ∧ Aside0 (kq ≤ kj1) ∧ Drawn0 w w')
    case atStart => exact ⟨(0), (by first | rfl | (simp; done) | (simp [*]; done)), H', ⟨Nat.le_refl _⟩, by repeat (first | exact Drawn0.refl _ | apply Drawn0.step)⟩
    case round =>
     clear H'
     try clear c1
     try clear c2
     try clear p2
     try clear c3
     try clear c3b0
     try clear c3b1
     try clear c4
     try clear p2
     obtain ⟨x3_2, rfl, HA, HK2, ⟨m2, rfl⟩⟩ := hrel
     cases gk with
     | zero => exact absurd HA.out (by simp [impl_IsWord.l0])
     | succ k2 =>
      have H := HA.out
      clear HA
      simp only [impl_IsWord.l0] at H
      by_cases c5 : x3_2 < (a0.size : Int)
      ·rw [if_pos c5] at H
       have c5b0 : decide (x3_2 < (a0.size : Int)) = true := decide_eq_true c5
       clear c5
       by_cases c6 : 0 ≤ x3_2
       case neg =>
        rw [if_neg c6] at H
        exact absurd H (by simp)
       rw [if_pos c6] at H
       have c6b0 : decide (0 ≤ x3_2) = true := decide_eq_true c6
       clear c6
       by_cases c8 : (bt a0 x3_2) < 97
       ·rw [if_pos c8] at H
        have c8b0 : decide ((bt a0 x3_2) < 97) = true := decide_eq_true c8
        clear c8
        obtain rfl := Option.some.inj H
        have p7 : 0 ≤ (x3_2 : Int) := od_
        have q7 : x3_2 < (a0.size : Int) := od_
        have hx7 := bt_at a0 x3_2
        replace p7 := eq_true p7
        replace q7 := eq_true q7
        go_wp2
        go_ret
        exact ⟨by first | rfl | (simp; done) | (simp [*]; done), by repeat (first | exact Drawn0.refl _ | apply Drawn0.step)⟩
       ·rw [if_neg c8] at H
        have c8b0 : decide ((bt a0 x3_2) < 97) = false := decide_eq_false c8
        clear c8
        by_cases c10 : (bt a0 x3_2) > 122
        ·rw [if_pos c10] at H
         have c10b0 : decide (122 < (bt a0 x3_2)) = true := decide_eq_true c10
         clear c10
         obtain rfl := Option.some.inj H
         have p7 : 0 ≤ (x3_2 : Int) := od_
         have q7 : x3_2 < (a0.size : Int) := od_
         have hx7 := bt_at a0 x3_2
         replace p7 := eq_true p7
         replace q7 := eq_true q7
         have p9 : 0 ≤ (x3_2 : Int) := od_
         have q9 : x3_2 < (a0.size : Int) := od_
         have hx9 := bt_at a0 x3_2
         replace p9 := eq_true p9
         replace q9 := eq_true q9
         go_wp2
         go_ret
         exact ⟨by first | rfl | (simp; done) | (simp [*]; done), by repeat (first | exact Drawn0.refl _ | apply Drawn0.step)⟩
        ·rw [if_neg c10] at H
         have c10b0 : decide (122 < (bt a0 x3_2)) = false := decide_eq_false c10
         clear c10
         have H' := Aside0.mk H
         clear H
         have p7 : 0 ≤ (x3_2 : Int) := od_
         have q7 : x3_2 < (a0.size : Int) := od_
         have hx7 := bt_at a0 x3_2
         replace p7 := eq_true p7
         replace q7 := eq_true q7
         have p9 : 0 ≤ (x3_2 : Int) := od_
         have q9 : x3_2 < (a0.size : Int) := od_
         have hx9 := bt_at a0 x3_2
         replace p9 := eq_true p9
         replace q9 := eq_true q9
         go_wp2
         go_roundg k2
         case measure => have := HJ1.out; have := HK2.out; omega
         case rel => exact ⟨(wrap64 (x3_2 + 1)), (by first | rfl | (simp; done) | (simp [*]; done)), H', ⟨by have := HJ1.out; have := HK2.out; omega⟩, by repeat (first | exact Drawn0.refl _ | apply Drawn0.step)⟩
      ·rw [if_neg c5] at H
       have c5b0 : decide (x3_2 < (a0.size : Int)) = false := decide_eq_false c5
       clear c5
       obtain rfl := Option.some.inj H
       go_wp2
       go_ret
       exact ⟨by first | rfl | (simp; done) | (simp [*]; done), by repeat (first | exact Drawn0.refl _ | apply Drawn0.step)⟩
def impl_IsArticle.f (k : Nat) (a0_0 : ByteArray) (a0_1 : Int) (a0_2 : Int) (a0_3 : Int) (a0_4 : Int) (a0_5 : Int) (a0_6 : Int) (a0_7 : Int) (a0_8 : Int) : Option (Bool) := (impl_IsWord.f k a0_0).bind fun t205 => (if t205 = true then ((impl_within.f a0_1 0 3).bind fun t206 => (if t206 = true then ((impl_within.f a0_2 20 300).bind fun t207 => (if t207 = true then ((impl_within.f a0_3 0 10000).bind fun t208 => (if t208 = true then ((impl_within.f a0_4 0 a0_3).bind fun t209 => (if t209 = true then ((impl_within.f a0_5 1 50).bind fun t210 => (if t210 = true then ((impl_within.f a0_6 0 10000).bind fun t211 => (if t211 = true then ((impl_within.f a0_7 1 100000).bind fun t212 => (if t212 = true then ((impl_within.f a0_8 0 3).bind fun t213 => (some t213)) else (some false))) else (some false))) else (some false))) else (some false))) else (some false))) else (some false))) else (some false))) else (some false))
set_option maxHeartbeats 8000000 in
set_option maxRecDepth 100000 in
theorem impl_IsArticle.calls (k : Nat) (a0_0 : ByteArray) (a0_1 : Int) (a0_2 : Int) (a0_3 : Int) (a0_4 : Int) (a0_5 : Int) (a0_6 : Int) (a0_7 : Int) (a0_8 : Int) (r : Bool) (w : World) (h : impl_IsArticle.f k a0_0 a0_1 a0_2 a0_3 a0_4 a0_5 a0_6 a0_7 a0_8 = some r) :
  Calls Try.prog 194 #[.agg #[.string a0_0, .int .i64 a0_1, .int .i64 a0_2, .int .i64 a0_3, .int .i64 a0_4, .int .i64 a0_5, .int .i64 a0_6, .int .i64 a0_7, .int .i64 a0_8]] w fun e w' => e = .returned (.bool r) ∧ Below w.heap.size w w' := by
 have hu177 := Try.underlying177
 have HB := Aside0.mk (Below.refl w.heap.size w)
 have H : ((impl_IsWord.f k a0_0).bind fun t205 => (if t205 = true then ((impl_within.f a0_1 0 3).bind fun t206 => (if t206 = true then ((impl_within.f a0_2 20 300).bind fun t207 => (if t207 = true then ((impl_within.f a0_3 0 10000).bind fun t208 => (if t208 = true then ((impl_within.f a0_4 0 a0_3).bind fun t209 => (if t209 = true then ((impl_within.f a0_5 1 50).bind fun t210 => (if t210 = true then ((impl_within.f a0_6 0 10000).bind fun t211 => (if t211 = true then ((impl_within.f a0_7 1 100000).bind fun t212 => (if t212 = true then ((impl_within.f a0_8 0 3).bind fun t213 => (some t213)) else (some false))) else (some false))) else (some false))) else (some false))) else (some false))) else (some false))) else (some false))) else (some false))) = some r := h
 clear h
 replace H := Option.bind_eq_some_iff.mp H
 obtain ⟨t205, A20, H⟩ := H
 replace H : (if t205 = true then ((impl_within.f a0_1 0 3).bind fun t206 => (if t206 = true then ((impl_within.f a0_2 20 300).bind fun t207 => (if t207 = true then ((impl_within.f a0_3 0 10000).bind fun t208 => (if t208 = true then ((impl_within.f a0_4 0 a0_3).bind fun t209 => (if t209 = true then ((impl_within.f a0_5 1 50).bind fun t210 => (if t210 = true then ((impl_within.f a0_6 0 10000).bind fun t211 => (if t211 = true then ((impl_within.f a0_7 1 100000).bind fun t212 => (if t212 = true then ((impl_within.f a0_8 0 3).bind fun t213 => (some t213)) else (some false))) else (some false))) else (some false))) else (some false))) else (some false))) else (some false))) else (some false))) else (some false)) = some r := H
 have A2 := Aside0.mk A20
 clear A20
 by_cases c3 : t205 = true
 ·subst c3
  replace H : ((impl_within.f a0_1 0 3).bind fun t206 => (if t206 = true then ((impl_within.f a0_2 20 300).bind fun t207 => (if t207 = true then ((impl_within.f a0_3 0 10000).bind fun t208 => (if t208 = true then ((impl_within.f a0_4 0 a0_3).bind fun t209 => (if t209 = true then ((impl_within.f a0_5 1 50).bind fun t210 => (if t210 = true then ((impl_within.f a0_6 0 10000).bind fun t211 => (if t211 = true then ((impl_within.f a0_7 1 100000).bind fun t212 => (if t212 = true then ((impl_within.f a0_8 0 3).bind fun t213 => (some t213)) else (some false))) else (some false))) else (some false))) else (some false))) else (some false))) else (some false))) else (some false))) = some r := by rw [if_pos rfl] at H; exact H
  replace H := Option.bind_eq_some_iff.mp H
  obtain ⟨t206, A40, H⟩ := H
  replace H : (if t206 = true then ((impl_within.f a0_2 20 300).bind fun t207 => (if t207 = true then ((impl_within.f a0_3 0 10000).bind fun t208 => (if t208 = true then ((impl_within.f a0_4 0 a0_3).bind fun t209 => (if t209 = true then ((impl_within.f a0_5 1 50).bind fun t210 => (if t210 = true then ((impl_within.f a0_6 0 10000).bind fun t211 => (if t211 = true then ((impl_within.f a0_7 1 100000).bind fun t212 => (if t212 = true then ((impl_within.f a0_8 0 3).bind fun t213 => (some t213)) else (some false))) else (some false))) else (some false))) else (some false))) else (some false))) else (some false))) else (some false)) = some r := H
  have A4 := Aside0.mk A40
  clear A40
  by_cases c5 : t206 = true
  ·subst c5
   replace H : ((impl_within.f a0_2 20 300).bind fun t207 => (if t207 = true then ((impl_within.f a0_3 0 10000).bind fun t208 => (if t208 = true then ((impl_within.f a0_4 0 a0_3).bind fun t209 => (if t209 = true then ((impl_within.f a0_5 1 50).bind fun t210 => (if t210 = true then ((impl_within.f a0_6 0 10000).bind fun t211 => (if t211 = true then ((impl_within.f a0_7 1 100000).bind fun t212 => (if t212 = true then ((impl_within.f a0_8 0 3).bind fun t213 => (some t213)) else (some false))) else (some false))) else (some false))) else (some false))) else (some false))) else (some false))) = some r := by rw [if_pos rfl] at H; exact H
   replace H := Option.bind_eq_some_iff.mp H
   obtain ⟨t207, A60, H⟩ := H
   replace H : (if t207 = true then ((impl_within.f a0_3 0 10000).bind fun t208 => (if t208 = true then ((impl_within.f a0_4 0 a0_3).bind fun t209 => (if t209 = true then ((impl_within.f a0_5 1 50).bind fun t210 => (if t210 = true then ((impl_within.f a0_6 0 10000).bind fun t211 => (if t211 = true then ((impl_within.f a0_7 1 100000).bind fun t212 => (if t212 = true then ((impl_within.f a0_8 0 3).bind fun t213 => (some t213)) else (some false))) else (some false))) else (some false))) else (some false))) else (some false))) else (some false)) = some r := H
   have A6 := Aside0.mk A60
   clear A60
   by_cases c7 : t207 = true
   ·subst c7
    replace H : ((impl_within.f a0_3 0 10000).bind fun t208 => (if t208 = true then ((impl_within.f a0_4 0 a0_3).bind fun t209 => (if t209 = true then ((impl_within.f a0_5 1 50).bind fun t210 => (if t210 = true then ((impl_within.f a0_6 0 10000).bind fun t211 => (if t211 = true then ((impl_within.f a0_7 1 100000).bind fun t212 => (if t212 = true then ((impl_within.f a0_8 0 3).bind fun t213 => (some t213)) else (some false))) else (some false))) else (some false))) else (some false))) else (some false))) = some r := by rw [if_pos rfl] at H; exact H
    replace H := Option.bind_eq_some_iff.mp H
    obtain ⟨t208, A80, H⟩ := H
    replace H : (if t208 = true then ((impl_within.f a0_4 0 a0_3).bind fun t209 => (if t209 = true then ((impl_within.f a0_5 1 50).bind fun t210 => (if t210 = true then ((impl_within.f a0_6 0 10000).bind fun t211 => (if t211 = true then ((impl_within.f a0_7 1 100000).bind fun t212 => (if t212 = true then ((impl_within.f a0_8 0 3).bind fun t213 => (some t213)) else (some false))) else (some false))) else (some false))) else (some false))) else (some false)) = some r := H
    have A8 := Aside0.mk A80
    clear A80
    by_cases c9 : t208 = true
    ·subst c9
     replace H : ((impl_within.f a0_4 0 a0_3).bind fun t209 => (if t209 = true then ((impl_within.f a0_5 1 50).bind fun t210 => (if t210 = true then ((impl_within.f a0_6 0 10000).bind fun t211 => (if t211 = true then ((impl_within.f a0_7 1 100000).bind fun t212 => (if t212 = true then ((impl_within.f a0_8 0 3).bind fun t213 => (some t213)) else (some false))) else (some false))) else (some false))) else (some false))) = some r := by rw [if_pos rfl] at H; exact H
     replace H := Option.bind_eq_some_iff.mp H
     obtain ⟨t209, A100, H⟩ := H
     replace H : (if t209 = true then ((impl_within.f a0_5 1 50).bind fun t210 => (if t210 = true then ((impl_within.f a0_6 0 10000).bind fun t211 => (if t211 = true then ((impl_within.f a0_7 1 100000).bind fun t212 => (if t212 = true then ((impl_within.f a0_8 0 3).bind fun t213 => (some t213)) else (some false))) else (some false))) else (some false))) else (some false)) = some r := H
     have A10 := Aside0.mk A100
     clear A100
     by_cases c11 : t209 = true
     ·subst c11
      replace H : ((impl_within.f a0_5 1 50).bind fun t210 => (if t210 = true then ((impl_within.f a0_6 0 10000).bind fun t211 => (if t211 = true then ((impl_within.f a0_7 1 100000).bind fun t212 => (if t212 = true then ((impl_within.f a0_8 0 3).bind fun t213 => (some t213)) else (some false))) else (some false))) else (some false))) = some r := by rw [if_pos rfl] at H; exact H
      replace H := Option.bind_eq_some_iff.mp H
      obtain ⟨t210, A120, H⟩ := H
      replace H : (if t210 = true then ((impl_within.f a0_6 0 10000).bind fun t211 => (if t211 = true then ((impl_within.f a0_7 1 100000).bind fun t212 => (if t212 = true then ((impl_within.f a0_8 0 3).bind fun t213 => (some t213)) else (some false))) else (some false))) else (some false)) = some r := H
      have A12 := Aside0.mk A120
      clear A120
      by_cases c13 : t210 = true
      ·subst c13
       replace H : ((impl_within.f a0_6 0 10000).bind fun t211 => (if t211 = true then ((impl_within.f a0_7 1 100000).bind fun t212 => (if t212 = true then ((impl_within.f a0_8 0 3).bind fun t213 => (some t213)) else (some false))) else (some false))) = some r := by rw [if_pos rfl] at H; exact H
       replace H := Option.bind_eq_some_iff.mp H
       obtain ⟨t211, A140, H⟩ := H
       replace H : (if t211 = true then ((impl_within.f a0_7 1 100000).bind fun t212 => (if t212 = true then ((impl_within.f a0_8 0 3).bind fun t213 => (some t213)) else (some false))) else (some false)) = some r := H
       have A14 := Aside0.mk A140
       clear A140
       by_cases c15 : t211 = true
       ·subst c15
        replace H : ((impl_within.f a0_7 1 100000).bind fun t212 => (if t212 = true then ((impl_within.f a0_8 0 3).bind fun t213 => (some t213)) else (some false))) = some r := by rw [if_pos rfl] at H; exact H
        replace H := Option.bind_eq_some_iff.mp H
        obtain ⟨t212, A160, H⟩ := H
        replace H : (if t212 = true then ((impl_within.f a0_8 0 3).bind fun t213 => (some t213)) else (some false)) = some r := H
        have A16 := Aside0.mk A160
        clear A160
        by_cases c17 : t212 = true
        ·subst c17
         replace H : ((impl_within.f a0_8 0 3).bind fun t213 => (some t213)) = some r := by rw [if_pos rfl] at H; exact H
         replace H := Option.bind_eq_some_iff.mp H
         obtain ⟨t213, A180, H⟩ := H
         replace H : (some t213) = some r := H
         have A18 := Aside0.mk A180
         clear A180
         obtain rfl := Option.some.inj H
         go_enter Try.func194, Try.ntmps194
         go_wp2_with (first | ((with_reducible refine gate_dst (N := 1) rfl ?_); refine box_event ?hg (N := 1) ?hd (cs := #[.string a0_0, .int .i64 a0_1, .int .i64 a0_2, .int .i64 a0_3, .int .i64 a0_4, .int .i64 a0_5, .int .i64 a0_6, .int .i64 a0_7, .int .i64 a0_8]) (t := 177) ?hr ?_; (case hd => rfl); (case hg => rfl); (case hr => first | (go_simp; done) | (go_simp; rfl)); intro gb204 hg w19 hbox hb; have BK204 := Aside0.mk (hbox); have GW204 := Aside0.mk ((by rw [hg]; exact (below_size (bl_ HB.out)) : w.heap.size ≤ gb204)); have GE204 := Aside0.mk ((by rw [hg]; exact (below_size (bl_ HB.out)) : w.heap.size ≤ gb204)); replace HB := Aside0.mk (below_step (bl_ HB.out) hb); clear hb hbox hg; have hcz20_0 : w19.cell? ⟨gb204, 0, none⟩ = some (.string a0_0) := (blk_cell BK204.out 0).trans rfl; have hcz20_1 : w19.cell? ⟨gb204, 1, none⟩ = some (.int .i64 a0_1) := (blk_cell BK204.out 1).trans rfl; have hcz20_2 : w19.cell? ⟨gb204, 2, none⟩ = some (.int .i64 a0_2) := (blk_cell BK204.out 2).trans rfl; have hcz20_3 : w19.cell? ⟨gb204, 3, none⟩ = some (.int .i64 a0_3) := (blk_cell BK204.out 3).trans rfl; have hcz20_4 : w19.cell? ⟨gb204, 4, none⟩ = some (.int .i64 a0_4) := (blk_cell BK204.out 4).trans rfl; have hcz20_5 : w19.cell? ⟨gb204, 5, none⟩ = some (.int .i64 a0_5) := (blk_cell BK204.out 5).trans rfl; have hcz20_6 : w19.cell? ⟨gb204, 6, none⟩ = some (.int .i64 a0_6) := (blk_cell BK204.out 6).trans rfl; have hcz20_7 : w19.cell? ⟨gb204, 7, none⟩ = some (.int .i64 a0_7) := (blk_cell BK204.out 7).trans rfl; have hcz20_8 : w19.cell? ⟨gb204, 8, none⟩ = some (.int .i64 a0_8) := (blk_cell BK204.out 8).trans rfl; have hfz20_0 := blk_frozen BK204.out 0; have hfz20_1 := blk_frozen BK204.out 1; have hfz20_2 := blk_frozen BK204.out 2; have hfz20_3 := blk_frozen BK204.out 3; have hfz20_4 := blk_frozen BK204.out 4; have hfz20_5 := blk_frozen BK204.out 5; have hfz20_6 := blk_frozen BK204.out 6; have hfz20_7 := blk_frozen BK204.out 7; have hfz20_8 := blk_frozen BK204.out 8) | ((with_reducible refine gate_callee (f := 203) rfl ?_); refine goesL_ (some 5) rfl rfl Try.func203 (by kernel_rfl) rfl #[.string a0_0] rfl ag_ ?_; (with_reducible refine (impl_IsWord.calls k a0_0 true _ A2.out).mono ?_); rintro e w' ⟨rfl, ⟨nd, rfl⟩⟩; refine ⟨_, rfl, ?_⟩) | (go_at_call 101; (with_reducible refine (impl_within.calls a0_1 0 3 true _ A4.out).mono ?_); rintro e w' ⟨rfl, ⟨nd, rfl⟩⟩) | (go_at_call 101; (with_reducible refine (impl_within.calls a0_2 20 300 true _ A6.out).mono ?_); rintro e w' ⟨rfl, ⟨nd, rfl⟩⟩) | (go_at_call 101; (with_reducible refine (impl_within.calls a0_3 0 10000 true _ A8.out).mono ?_); rintro e w' ⟨rfl, ⟨nd, rfl⟩⟩) | (go_at_call 101; (with_reducible refine (impl_within.calls a0_4 0 a0_3 true _ A10.out).mono ?_); rintro e w' ⟨rfl, ⟨nd, rfl⟩⟩) | (go_at_call 101; (with_reducible refine (impl_within.calls a0_5 1 50 true _ A12.out).mono ?_); rintro e w' ⟨rfl, ⟨nd, rfl⟩⟩) | (go_at_call 101; (with_reducible refine (impl_within.calls a0_6 0 10000 true _ A14.out).mono ?_); rintro e w' ⟨rfl, ⟨nd, rfl⟩⟩) | (go_at_call 101; (with_reducible refine (impl_within.calls a0_7 1 100000 true _ A16.out).mono ?_); rintro e w' ⟨rfl, ⟨nd, rfl⟩⟩) | (go_at_call 101; (with_reducible refine (impl_within.calls a0_8 0 3 t213 _ A18.out).mono ?_); rintro e w' ⟨rfl, ⟨nd, rfl⟩⟩))
         go_ret
         exact ⟨by first | rfl | (simp [errW_none, errW_some] <;> rfl) | (simp [*, errW_none, errW_some] <;> rfl), r0_ HB.out GE204.out⟩
        ·replace c17 := Bool.eq_false_iff.mpr c17
         subst c17
         replace H : (some false) = some r := by rw [if_neg (show ¬ (false = true) by decide)] at H; exact H
         obtain rfl := Option.some.inj H
         go_enter Try.func194, Try.ntmps194
         go_wp2_with (first | ((with_reducible refine gate_dst (N := 1) rfl ?_); refine box_event ?hg (N := 1) ?hd (cs := #[.string a0_0, .int .i64 a0_1, .int .i64 a0_2, .int .i64 a0_3, .int .i64 a0_4, .int .i64 a0_5, .int .i64 a0_6, .int .i64 a0_7, .int .i64 a0_8]) (t := 177) ?hr ?_; (case hd => rfl); (case hg => rfl); (case hr => first | (go_simp; done) | (go_simp; rfl)); intro gb204 hg w21 hbox hb; have BK204 := Aside0.mk (hbox); have GW204 := Aside0.mk ((by rw [hg]; exact (below_size (bl_ HB.out)) : w.heap.size ≤ gb204)); have GE204 := Aside0.mk ((by rw [hg]; exact (below_size (bl_ HB.out)) : w.heap.size ≤ gb204)); replace HB := Aside0.mk (below_step (bl_ HB.out) hb); clear hb hbox hg; have hcz22_0 : w21.cell? ⟨gb204, 0, none⟩ = some (.string a0_0) := (blk_cell BK204.out 0).trans rfl; have hcz22_1 : w21.cell? ⟨gb204, 1, none⟩ = some (.int .i64 a0_1) := (blk_cell BK204.out 1).trans rfl; have hcz22_2 : w21.cell? ⟨gb204, 2, none⟩ = some (.int .i64 a0_2) := (blk_cell BK204.out 2).trans rfl; have hcz22_3 : w21.cell? ⟨gb204, 3, none⟩ = some (.int .i64 a0_3) := (blk_cell BK204.out 3).trans rfl; have hcz22_4 : w21.cell? ⟨gb204, 4, none⟩ = some (.int .i64 a0_4) := (blk_cell BK204.out 4).trans rfl; have hcz22_5 : w21.cell? ⟨gb204, 5, none⟩ = some (.int .i64 a0_5) := (blk_cell BK204.out 5).trans rfl; have hcz22_6 : w21.cell? ⟨gb204, 6, none⟩ = some (.int .i64 a0_6) := (blk_cell BK204.out 6).trans rfl; have hcz22_7 : w21.cell? ⟨gb204, 7, none⟩ = some (.int .i64 a0_7) := (blk_cell BK204.out 7).trans rfl; have hcz22_8 : w21.cell? ⟨gb204, 8, none⟩ = some (.int .i64 a0_8) := (blk_cell BK204.out 8).trans rfl; have hfz22_0 := blk_frozen BK204.out 0; have hfz22_1 := blk_frozen BK204.out 1; have hfz22_2 := blk_frozen BK204.out 2; have hfz22_3 := blk_frozen BK204.out 3; have hfz22_4 := blk_frozen BK204.out 4; have hfz22_5 := blk_frozen BK204.out 5; have hfz22_6 := blk_frozen BK204.out 6; have hfz22_7 := blk_frozen BK204.out 7; have hfz22_8 := blk_frozen BK204.out 8) | ((with_reducible refine gate_callee (f := 203) rfl ?_); refine goesL_ (some 5) rfl rfl Try.func203 (by kernel_rfl) rfl #[.string a0_0] rfl ag_ ?_; (with_reducible refine (impl_IsWord.calls k a0_0 true _ A2.out).mono ?_); rintro e w' ⟨rfl, ⟨nd, rfl⟩⟩; refine ⟨_, rfl, ?_⟩) | (go_at_call 101; (with_reducible refine (impl_within.calls a0_1 0 3 true _ A4.out).mono ?_); rintro e w' ⟨rfl, ⟨nd, rfl⟩⟩) | (go_at_call 101; (with_reducible refine (impl_within.calls a0_2 20 300 true _ A6.out).mono ?_); rintro e w' ⟨rfl, ⟨nd, rfl⟩⟩) | (go_at_call 101; (with_reducible refine (impl_within.calls a0_3 0 10000 true _ A8.out).mono ?_); rintro e w' ⟨rfl, ⟨nd, rfl⟩⟩) | (go_at_call 101; (with_reducible refine (impl_within.calls a0_4 0 a0_3 true _ A10.out).mono ?_); rintro e w' ⟨rfl, ⟨nd, rfl⟩⟩) | (go_at_call 101; (with_reducible refine (impl_within.calls a0_5 1 50 true _ A12.out).mono ?_); rintro e w' ⟨rfl, ⟨nd, rfl⟩⟩) | (go_at_call 101; (with_reducible refine (impl_within.calls a0_6 0 10000 true _ A14.out).mono ?_); rintro e w' ⟨rfl, ⟨nd, rfl⟩⟩) | (go_at_call 101; (with_reducible refine (impl_within.calls a0_7 1 100000 false _ A16.out).mono ?_); rintro e w' ⟨rfl, ⟨nd, rfl⟩⟩))
         go_ret
         exact ⟨by first | rfl | (simp [errW_none, errW_some] <;> rfl) | (simp [*, errW_none, errW_some] <;> rfl), r0_ HB.out GE204.out⟩
       ·replace c15 := Bool.eq_false_iff.mpr c15
        subst c15
        replace H : (some false) = some r := by rw [if_neg (show ¬ (false = true) by decide)] at H; exact H
        obtain rfl := Option.some.inj H
        go_enter Try.func194, Try.ntmps194
        go_wp2_with (first | ((with_reducible refine gate_dst (N := 1) rfl ?_); refine box_event ?hg (N := 1) ?hd (cs := #[.string a0_0, .int .i64 a0_1, .int .i64 a0_2, .int .i64 a0_3, .int .i64 a0_4, .int .i64 a0_5, .int .i64 a0_6, .int .i64 a0_7, .int .i64 a0_8]) (t := 177) ?hr ?_; (case hd => rfl); (case hg => rfl); (case hr => first | (go_simp; done) | (go_simp; rfl)); intro gb204 hg w23 hbox hb; have BK204 := Aside0.mk (hbox); have GW204 := Aside0.mk ((by rw [hg]; exact (below_size (bl_ HB.out)) : w.heap.size ≤ gb204)); have GE204 := Aside0.mk ((by rw [hg]; exact (below_size (bl_ HB.out)) : w.heap.size ≤ gb204)); replace HB := Aside0.mk (below_step (bl_ HB.out) hb); clear hb hbox hg; have hcz24_0 : w23.cell? ⟨gb204, 0, none⟩ = some (.string a0_0) := (blk_cell BK204.out 0).trans rfl; have hcz24_1 : w23.cell? ⟨gb204, 1, none⟩ = some (.int .i64 a0_1) := (blk_cell BK204.out 1).trans rfl; have hcz24_2 : w23.cell? ⟨gb204, 2, none⟩ = some (.int .i64 a0_2) := (blk_cell BK204.out 2).trans rfl; have hcz24_3 : w23.cell? ⟨gb204, 3, none⟩ = some (.int .i64 a0_3) := (blk_cell BK204.out 3).trans rfl; have hcz24_4 : w23.cell? ⟨gb204, 4, none⟩ = some (.int .i64 a0_4) := (blk_cell BK204.out 4).trans rfl; have hcz24_5 : w23.cell? ⟨gb204, 5, none⟩ = some (.int .i64 a0_5) := (blk_cell BK204.out 5).trans rfl; have hcz24_6 : w23.cell? ⟨gb204, 6, none⟩ = some (.int .i64 a0_6) := (blk_cell BK204.out 6).trans rfl; have hcz24_7 : w23.cell? ⟨gb204, 7, none⟩ = some (.int .i64 a0_7) := (blk_cell BK204.out 7).trans rfl; have hcz24_8 : w23.cell? ⟨gb204, 8, none⟩ = some (.int .i64 a0_8) := (blk_cell BK204.out 8).trans rfl; have hfz24_0 := blk_frozen BK204.out 0; have hfz24_1 := blk_frozen BK204.out 1; have hfz24_2 := blk_frozen BK204.out 2; have hfz24_3 := blk_frozen BK204.out 3; have hfz24_4 := blk_frozen BK204.out 4; have hfz24_5 := blk_frozen BK204.out 5; have hfz24_6 := blk_frozen BK204.out 6; have hfz24_7 := blk_frozen BK204.out 7; have hfz24_8 := blk_frozen BK204.out 8) | ((with_reducible refine gate_callee (f := 203) rfl ?_); refine goesL_ (some 5) rfl rfl Try.func203 (by kernel_rfl) rfl #[.string a0_0] rfl ag_ ?_; (with_reducible refine (impl_IsWord.calls k a0_0 true _ A2.out).mono ?_); rintro e w' ⟨rfl, ⟨nd, rfl⟩⟩; refine ⟨_, rfl, ?_⟩) | (go_at_call 101; (with_reducible refine (impl_within.calls a0_1 0 3 true _ A4.out).mono ?_); rintro e w' ⟨rfl, ⟨nd, rfl⟩⟩) | (go_at_call 101; (with_reducible refine (impl_within.calls a0_2 20 300 true _ A6.out).mono ?_); rintro e w' ⟨rfl, ⟨nd, rfl⟩⟩) | (go_at_call 101; (with_reducible refine (impl_within.calls a0_3 0 10000 true _ A8.out).mono ?_); rintro e w' ⟨rfl, ⟨nd, rfl⟩⟩) | (go_at_call 101; (with_reducible refine (impl_within.calls a0_4 0 a0_3 true _ A10.out).mono ?_); rintro e w' ⟨rfl, ⟨nd, rfl⟩⟩) | (go_at_call 101; (with_reducible refine (impl_within.calls a0_5 1 50 true _ A12.out).mono ?_); rintro e w' ⟨rfl, ⟨nd, rfl⟩⟩) | (go_at_call 101; (with_reducible refine (impl_within.calls a0_6 0 10000 false _ A14.out).mono ?_); rintro e w' ⟨rfl, ⟨nd, rfl⟩⟩))
        go_ret
        exact ⟨by first | rfl | (simp [errW_none, errW_some] <;> rfl) | (simp [*, errW_none, errW_some] <;> rfl), r0_ HB.out GE204.out⟩
      ·replace c13 := Bool.eq_false_iff.mpr c13
       subst c13
       replace H : (some false) = some r := by rw [if_neg (show ¬ (false = true) by decide)] at H; exact H
       obtain rfl := Option.some.inj H
       go_enter Try.func194, Try.ntmps194
       go_wp2_with (first | ((with_reducible refine gate_dst (N := 1) rfl ?_); refine box_event ?hg (N := 1) ?hd (cs := #[.string a0_0, .int .i64 a0_1, .int .i64 a0_2, .int .i64 a0_3, .int .i64 a0_4, .int .i64 a0_5, .int .i64 a0_6, .int .i64 a0_7, .int .i64 a0_8]) (t := 177) ?hr ?_; (case hd => rfl); (case hg => rfl); (case hr => first | (go_simp; done) | (go_simp; rfl)); intro gb204 hg w25 hbox hb; have BK204 := Aside0.mk (hbox); have GW204 := Aside0.mk ((by rw [hg]; exact (below_size (bl_ HB.out)) : w.heap.size ≤ gb204)); have GE204 := Aside0.mk ((by rw [hg]; exact (below_size (bl_ HB.out)) : w.heap.size ≤ gb204)); replace HB := Aside0.mk (below_step (bl_ HB.out) hb); clear hb hbox hg; have hcz26_0 : w25.cell? ⟨gb204, 0, none⟩ = some (.string a0_0) := (blk_cell BK204.out 0).trans rfl; have hcz26_1 : w25.cell? ⟨gb204, 1, none⟩ = some (.int .i64 a0_1) := (blk_cell BK204.out 1).trans rfl; have hcz26_2 : w25.cell? ⟨gb204, 2, none⟩ = some (.int .i64 a0_2) := (blk_cell BK204.out 2).trans rfl; have hcz26_3 : w25.cell? ⟨gb204, 3, none⟩ = some (.int .i64 a0_3) := (blk_cell BK204.out 3).trans rfl; have hcz26_4 : w25.cell? ⟨gb204, 4, none⟩ = some (.int .i64 a0_4) := (blk_cell BK204.out 4).trans rfl; have hcz26_5 : w25.cell? ⟨gb204, 5, none⟩ = some (.int .i64 a0_5) := (blk_cell BK204.out 5).trans rfl; have hcz26_6 : w25.cell? ⟨gb204, 6, none⟩ = some (.int .i64 a0_6) := (blk_cell BK204.out 6).trans rfl; have hcz26_7 : w25.cell? ⟨gb204, 7, none⟩ = some (.int .i64 a0_7) := (blk_cell BK204.out 7).trans rfl; have hcz26_8 : w25.cell? ⟨gb204, 8, none⟩ = some (.int .i64 a0_8) := (blk_cell BK204.out 8).trans rfl; have hfz26_0 := blk_frozen BK204.out 0; have hfz26_1 := blk_frozen BK204.out 1; have hfz26_2 := blk_frozen BK204.out 2; have hfz26_3 := blk_frozen BK204.out 3; have hfz26_4 := blk_frozen BK204.out 4; have hfz26_5 := blk_frozen BK204.out 5; have hfz26_6 := blk_frozen BK204.out 6; have hfz26_7 := blk_frozen BK204.out 7; have hfz26_8 := blk_frozen BK204.out 8) | ((with_reducible refine gate_callee (f := 203) rfl ?_); refine goesL_ (some 5) rfl rfl Try.func203 (by kernel_rfl) rfl #[.string a0_0] rfl ag_ ?_; (with_reducible refine (impl_IsWord.calls k a0_0 true _ A2.out).mono ?_); rintro e w' ⟨rfl, ⟨nd, rfl⟩⟩; refine ⟨_, rfl, ?_⟩) | (go_at_call 101; (with_reducible refine (impl_within.calls a0_1 0 3 true _ A4.out).mono ?_); rintro e w' ⟨rfl, ⟨nd, rfl⟩⟩) | (go_at_call 101; (with_reducible refine (impl_within.calls a0_2 20 300 true _ A6.out).mono ?_); rintro e w' ⟨rfl, ⟨nd, rfl⟩⟩) | (go_at_call 101; (with_reducible refine (impl_within.calls a0_3 0 10000 true _ A8.out).mono ?_); rintro e w' ⟨rfl, ⟨nd, rfl⟩⟩) | (go_at_call 101; (with_reducible refine (impl_within.calls a0_4 0 a0_3 true _ A10.out).mono ?_); rintro e w' ⟨rfl, ⟨nd, rfl⟩⟩) | (go_at_call 101; (with_reducible refine (impl_within.calls a0_5 1 50 false _ A12.out).mono ?_); rintro e w' ⟨rfl, ⟨nd, rfl⟩⟩))
       go_ret
       exact ⟨by first | rfl | (simp [errW_none, errW_some] <;> rfl) | (simp [*, errW_none, errW_some] <;> rfl), r0_ HB.out GE204.out⟩
     ·replace c11 := Bool.eq_false_iff.mpr c11
      subst c11
      replace H : (some false) = some r := by rw [if_neg (show ¬ (false = true) by decide)] at H; exact H
      obtain rfl := Option.some.inj H
      go_enter Try.func194, Try.ntmps194
      go_wp2_with (first | ((with_reducible refine gate_dst (N := 1) rfl ?_); refine box_event ?hg (N := 1) ?hd (cs := #[.string a0_0, .int .i64 a0_1, .int .i64 a0_2, .int .i64 a0_3, .int .i64 a0_4, .int .i64 a0_5, .int .i64 a0_6, .int .i64 a0_7, .int .i64 a0_8]) (t := 177) ?hr ?_; (case hd => rfl); (case hg => rfl); (case hr => first | (go_simp; done) | (go_simp; rfl)); intro gb204 hg w27 hbox hb; have BK204 := Aside0.mk (hbox); have GW204 := Aside0.mk ((by rw [hg]; exact (below_size (bl_ HB.out)) : w.heap.size ≤ gb204)); have GE204 := Aside0.mk ((by rw [hg]; exact (below_size (bl_ HB.out)) : w.heap.size ≤ gb204)); replace HB := Aside0.mk (below_step (bl_ HB.out) hb); clear hb hbox hg; have hcz28_0 : w27.cell? ⟨gb204, 0, none⟩ = some (.string a0_0) := (blk_cell BK204.out 0).trans rfl; have hcz28_1 : w27.cell? ⟨gb204, 1, none⟩ = some (.int .i64 a0_1) := (blk_cell BK204.out 1).trans rfl; have hcz28_2 : w27.cell? ⟨gb204, 2, none⟩ = some (.int .i64 a0_2) := (blk_cell BK204.out 2).trans rfl; have hcz28_3 : w27.cell? ⟨gb204, 3, none⟩ = some (.int .i64 a0_3) := (blk_cell BK204.out 3).trans rfl; have hcz28_4 : w27.cell? ⟨gb204, 4, none⟩ = some (.int .i64 a0_4) := (blk_cell BK204.out 4).trans rfl; have hcz28_5 : w27.cell? ⟨gb204, 5, none⟩ = some (.int .i64 a0_5) := (blk_cell BK204.out 5).trans rfl; have hcz28_6 : w27.cell? ⟨gb204, 6, none⟩ = some (.int .i64 a0_6) := (blk_cell BK204.out 6).trans rfl; have hcz28_7 : w27.cell? ⟨gb204, 7, none⟩ = some (.int .i64 a0_7) := (blk_cell BK204.out 7).trans rfl; have hcz28_8 : w27.cell? ⟨gb204, 8, none⟩ = some (.int .i64 a0_8) := (blk_cell BK204.out 8).trans rfl; have hfz28_0 := blk_frozen BK204.out 0; have hfz28_1 := blk_frozen BK204.out 1; have hfz28_2 := blk_frozen BK204.out 2; have hfz28_3 := blk_frozen BK204.out 3; have hfz28_4 := blk_frozen BK204.out 4; have hfz28_5 := blk_frozen BK204.out 5; have hfz28_6 := blk_frozen BK204.out 6; have hfz28_7 := blk_frozen BK204.out 7; have hfz28_8 := blk_frozen BK204.out 8) | ((with_reducible refine gate_callee (f := 203) rfl ?_); refine goesL_ (some 5) rfl rfl Try.func203 (by kernel_rfl) rfl #[.string a0_0] rfl ag_ ?_; (with_reducible refine (impl_IsWord.calls k a0_0 true _ A2.out).mono ?_); rintro e w' ⟨rfl, ⟨nd, rfl⟩⟩; refine ⟨_, rfl, ?_⟩) | (go_at_call 101; (with_reducible refine (impl_within.calls a0_1 0 3 true _ A4.out).mono ?_); rintro e w' ⟨rfl, ⟨nd, rfl⟩⟩) | (go_at_call 101; (with_reducible refine (impl_within.calls a0_2 20 300 true _ A6.out).mono ?_); rintro e w' ⟨rfl, ⟨nd, rfl⟩⟩) | (go_at_call 101; (with_reducible refine (impl_within.calls a0_3 0 10000 true _ A8.out).mono ?_); rintro e w' ⟨rfl, ⟨nd, rfl⟩⟩) | (go_at_call 101; (with_reducible refine (impl_within.calls a0_4 0 a0_3 false _ A10.out).mono ?_); rintro e w' ⟨rfl, ⟨nd, rfl⟩⟩))
      go_ret
      exact ⟨by first | rfl | (simp [errW_none, errW_some] <;> rfl) | (simp [*, errW_none, errW_some] <;> rfl), r0_ HB.out GE204.out⟩
    ·replace c9 := Bool.eq_false_iff.mpr c9
     subst c9
     replace H : (some false) = some r := by rw [if_neg (show ¬ (false = true) by decide)] at H; exact H
     obtain rfl := Option.some.inj H
     go_enter Try.func194, Try.ntmps194
     go_wp2_with (first | ((with_reducible refine gate_dst (N := 1) rfl ?_); refine box_event ?hg (N := 1) ?hd (cs := #[.string a0_0, .int .i64 a0_1, .int .i64 a0_2, .int .i64 a0_3, .int .i64 a0_4, .int .i64 a0_5, .int .i64 a0_6, .int .i64 a0_7, .int .i64 a0_8]) (t := 177) ?hr ?_; (case hd => rfl); (case hg => rfl); (case hr => first | (go_simp; done) | (go_simp; rfl)); intro gb204 hg w29 hbox hb; have BK204 := Aside0.mk (hbox); have GW204 := Aside0.mk ((by rw [hg]; exact (below_size (bl_ HB.out)) : w.heap.size ≤ gb204)); have GE204 := Aside0.mk ((by rw [hg]; exact (below_size (bl_ HB.out)) : w.heap.size ≤ gb204)); replace HB := Aside0.mk (below_step (bl_ HB.out) hb); clear hb hbox hg; have hcz30_0 : w29.cell? ⟨gb204, 0, none⟩ = some (.string a0_0) := (blk_cell BK204.out 0).trans rfl; have hcz30_1 : w29.cell? ⟨gb204, 1, none⟩ = some (.int .i64 a0_1) := (blk_cell BK204.out 1).trans rfl; have hcz30_2 : w29.cell? ⟨gb204, 2, none⟩ = some (.int .i64 a0_2) := (blk_cell BK204.out 2).trans rfl; have hcz30_3 : w29.cell? ⟨gb204, 3, none⟩ = some (.int .i64 a0_3) := (blk_cell BK204.out 3).trans rfl; have hcz30_4 : w29.cell? ⟨gb204, 4, none⟩ = some (.int .i64 a0_4) := (blk_cell BK204.out 4).trans rfl; have hcz30_5 : w29.cell? ⟨gb204, 5, none⟩ = some (.int .i64 a0_5) := (blk_cell BK204.out 5).trans rfl; have hcz30_6 : w29.cell? ⟨gb204, 6, none⟩ = some (.int .i64 a0_6) := (blk_cell BK204.out 6).trans rfl; have hcz30_7 : w29.cell? ⟨gb204, 7, none⟩ = some (.int .i64 a0_7) := (blk_cell BK204.out 7).trans rfl; have hcz30_8 : w29.cell? ⟨gb204, 8, none⟩ = some (.int .i64 a0_8) := (blk_cell BK204.out 8).trans rfl; have hfz30_0 := blk_frozen BK204.out 0; have hfz30_1 := blk_frozen BK204.out 1; have hfz30_2 := blk_frozen BK204.out 2; have hfz30_3 := blk_frozen BK204.out 3; have hfz30_4 := blk_frozen BK204.out 4; have hfz30_5 := blk_frozen BK204.out 5; have hfz30_6 := blk_frozen BK204.out 6; have hfz30_7 := blk_frozen BK204.out 7; have hfz30_8 := blk_frozen BK204.out 8) | ((with_reducible refine gate_callee (f := 203) rfl ?_); refine goesL_ (some 5) rfl rfl Try.func203 (by kernel_rfl) rfl #[.string a0_0] rfl ag_ ?_; (with_reducible refine (impl_IsWord.calls k a0_0 true _ A2.out).mono ?_); rintro e w' ⟨rfl, ⟨nd, rfl⟩⟩; refine ⟨_, rfl, ?_⟩) | (go_at_call 101; (with_reducible refine (impl_within.calls a0_1 0 3 true _ A4.out).mono ?_); rintro e w' ⟨rfl, ⟨nd, rfl⟩⟩) | (go_at_call 101; (with_reducible refine (impl_within.calls a0_2 20 300 true _ A6.out).mono ?_); rintro e w' ⟨rfl, ⟨nd, rfl⟩⟩) | (go_at_call 101; (with_reducible refine (impl_within.calls a0_3 0 10000 false _ A8.out).mono ?_); rintro e w' ⟨rfl, ⟨nd, rfl⟩⟩))
     go_ret
     exact ⟨by first | rfl | (simp [errW_none, errW_some] <;> rfl) | (simp [*, errW_none, errW_some] <;> rfl), r0_ HB.out GE204.out⟩
   ·replace c7 := Bool.eq_false_iff.mpr c7
    subst c7
    replace H : (some false) = some r := by rw [if_neg (show ¬ (false = true) by decide)] at H; exact H
    obtain rfl := Option.some.inj H
    go_enter Try.func194, Try.ntmps194
    go_wp2_with (first | ((with_reducible refine gate_dst (N := 1) rfl ?_); refine box_event ?hg (N := 1) ?hd (cs := #[.string a0_0, .int .i64 a0_1, .int .i64 a0_2, .int .i64 a0_3, .int .i64 a0_4, .int .i64 a0_5, .int .i64 a0_6, .int .i64 a0_7, .int .i64 a0_8]) (t := 177) ?hr ?_; (case hd => rfl); (case hg => rfl); (case hr => first | (go_simp; done) | (go_simp; rfl)); intro gb204 hg w31 hbox hb; have BK204 := Aside0.mk (hbox); have GW204 := Aside0.mk ((by rw [hg]; exact (below_size (bl_ HB.out)) : w.heap.size ≤ gb204)); have GE204 := Aside0.mk ((by rw [hg]; exact (below_size (bl_ HB.out)) : w.heap.size ≤ gb204)); replace HB := Aside0.mk (below_step (bl_ HB.out) hb); clear hb hbox hg; have hcz32_0 : w31.cell? ⟨gb204, 0, none⟩ = some (.string a0_0) := (blk_cell BK204.out 0).trans rfl; have hcz32_1 : w31.cell? ⟨gb204, 1, none⟩ = some (.int .i64 a0_1) := (blk_cell BK204.out 1).trans rfl; have hcz32_2 : w31.cell? ⟨gb204, 2, none⟩ = some (.int .i64 a0_2) := (blk_cell BK204.out 2).trans rfl; have hcz32_3 : w31.cell? ⟨gb204, 3, none⟩ = some (.int .i64 a0_3) := (blk_cell BK204.out 3).trans rfl; have hcz32_4 : w31.cell? ⟨gb204, 4, none⟩ = some (.int .i64 a0_4) := (blk_cell BK204.out 4).trans rfl; have hcz32_5 : w31.cell? ⟨gb204, 5, none⟩ = some (.int .i64 a0_5) := (blk_cell BK204.out 5).trans rfl; have hcz32_6 : w31.cell? ⟨gb204, 6, none⟩ = some (.int .i64 a0_6) := (blk_cell BK204.out 6).trans rfl; have hcz32_7 : w31.cell? ⟨gb204, 7, none⟩ = some (.int .i64 a0_7) := (blk_cell BK204.out 7).trans rfl; have hcz32_8 : w31.cell? ⟨gb204, 8, none⟩ = some (.int .i64 a0_8) := (blk_cell BK204.out 8).trans rfl; have hfz32_0 := blk_frozen BK204.out 0; have hfz32_1 := blk_frozen BK204.out 1; have hfz32_2 := blk_frozen BK204.out 2; have hfz32_3 := blk_frozen BK204.out 3; have hfz32_4 := blk_frozen BK204.out 4; have hfz32_5 := blk_frozen BK204.out 5; have hfz32_6 := blk_frozen BK204.out 6; have hfz32_7 := blk_frozen BK204.out 7; have hfz32_8 := blk_frozen BK204.out 8) | ((with_reducible refine gate_callee (f := 203) rfl ?_); refine goesL_ (some 5) rfl rfl Try.func203 (by kernel_rfl) rfl #[.string a0_0] rfl ag_ ?_; (with_reducible refine (impl_IsWord.calls k a0_0 true _ A2.out).mono ?_); rintro e w' ⟨rfl, ⟨nd, rfl⟩⟩; refine ⟨_, rfl, ?_⟩) | (go_at_call 101; (with_reducible refine (impl_within.calls a0_1 0 3 true _ A4.out).mono ?_); rintro e w' ⟨rfl, ⟨nd, rfl⟩⟩) | (go_at_call 101; (with_reducible refine (impl_within.calls a0_2 20 300 false _ A6.out).mono ?_); rintro e w' ⟨rfl, ⟨nd, rfl⟩⟩))
    go_ret
    exact ⟨by first | rfl | (simp [errW_none, errW_some] <;> rfl) | (simp [*, errW_none, errW_some] <;> rfl), r0_ HB.out GE204.out⟩
  ·replace c5 := Bool.eq_false_iff.mpr c5
   subst c5
   replace H : (some false) = some r := by rw [if_neg (show ¬ (false = true) by decide)] at H; exact H
   obtain rfl := Option.some.inj H
   go_enter Try.func194, Try.ntmps194
   go_wp2_with (first | ((with_reducible refine gate_dst (N := 1) rfl ?_); refine box_event ?hg (N := 1) ?hd (cs := #[.string a0_0, .int .i64 a0_1, .int .i64 a0_2, .int .i64 a0_3, .int .i64 a0_4, .int .i64 a0_5, .int .i64 a0_6, .int .i64 a0_7, .int .i64 a0_8]) (t := 177) ?hr ?_; (case hd => rfl); (case hg => rfl); (case hr => first | (go_simp; done) | (go_simp; rfl)); intro gb204 hg w33 hbox hb; have BK204 := Aside0.mk (hbox); have GW204 := Aside0.mk ((by rw [hg]; exact (below_size (bl_ HB.out)) : w.heap.size ≤ gb204)); have GE204 := Aside0.mk ((by rw [hg]; exact (below_size (bl_ HB.out)) : w.heap.size ≤ gb204)); replace HB := Aside0.mk (below_step (bl_ HB.out) hb); clear hb hbox hg; have hcz34_0 : w33.cell? ⟨gb204, 0, none⟩ = some (.string a0_0) := (blk_cell BK204.out 0).trans rfl; have hcz34_1 : w33.cell? ⟨gb204, 1, none⟩ = some (.int .i64 a0_1) := (blk_cell BK204.out 1).trans rfl; have hcz34_2 : w33.cell? ⟨gb204, 2, none⟩ = some (.int .i64 a0_2) := (blk_cell BK204.out 2).trans rfl; have hcz34_3 : w33.cell? ⟨gb204, 3, none⟩ = some (.int .i64 a0_3) := (blk_cell BK204.out 3).trans rfl; have hcz34_4 : w33.cell? ⟨gb204, 4, none⟩ = some (.int .i64 a0_4) := (blk_cell BK204.out 4).trans rfl; have hcz34_5 : w33.cell? ⟨gb204, 5, none⟩ = some (.int .i64 a0_5) := (blk_cell BK204.out 5).trans rfl; have hcz34_6 : w33.cell? ⟨gb204, 6, none⟩ = some (.int .i64 a0_6) := (blk_cell BK204.out 6).trans rfl; have hcz34_7 : w33.cell? ⟨gb204, 7, none⟩ = some (.int .i64 a0_7) := (blk_cell BK204.out 7).trans rfl; have hcz34_8 : w33.cell? ⟨gb204, 8, none⟩ = some (.int .i64 a0_8) := (blk_cell BK204.out 8).trans rfl; have hfz34_0 := blk_frozen BK204.out 0; have hfz34_1 := blk_frozen BK204.out 1; have hfz34_2 := blk_frozen BK204.out 2; have hfz34_3 := blk_frozen BK204.out 3; have hfz34_4 := blk_frozen BK204.out 4; have hfz34_5 := blk_frozen BK204.out 5; have hfz34_6 := blk_frozen BK204.out 6; have hfz34_7 := blk_frozen BK204.out 7; have hfz34_8 := blk_frozen BK204.out 8) | ((with_reducible refine gate_callee (f := 203) rfl ?_); refine goesL_ (some 5) rfl rfl Try.func203 (by kernel_rfl) rfl #[.string a0_0] rfl ag_ ?_; (with_reducible refine (impl_IsWord.calls k a0_0 true _ A2.out).mono ?_); rintro e w' ⟨rfl, ⟨nd, rfl⟩⟩; refine ⟨_, rfl, ?_⟩) | (go_at_call 101; (with_reducible refine (impl_within.calls a0_1 0 3 false _ A4.out).mono ?_); rintro e w' ⟨rfl, ⟨nd, rfl⟩⟩))
   go_ret
   exact ⟨by first | rfl | (simp [errW_none, errW_some] <;> rfl) | (simp [*, errW_none, errW_some] <;> rfl), r0_ HB.out GE204.out⟩
 ·replace c3 := Bool.eq_false_iff.mpr c3
  subst c3
  replace H : (some false) = some r := by rw [if_neg (show ¬ (false = true) by decide)] at H; exact H
  obtain rfl := Option.some.inj H
  go_enter Try.func194, Try.ntmps194
  go_wp2_with (first | ((with_reducible refine gate_dst (N := 1) rfl ?_); refine box_event ?hg (N := 1) ?hd (cs := #[.string a0_0, .int .i64 a0_1, .int .i64 a0_2, .int .i64 a0_3, .int .i64 a0_4, .int .i64 a0_5, .int .i64 a0_6, .int .i64 a0_7, .int .i64 a0_8]) (t := 177) ?hr ?_; (case hd => rfl); (case hg => rfl); (case hr => first | (go_simp; done) | (go_simp; rfl)); intro gb204 hg w35 hbox hb; have BK204 := Aside0.mk (hbox); have GW204 := Aside0.mk ((by rw [hg]; exact (below_size (bl_ HB.out)) : w.heap.size ≤ gb204)); have GE204 := Aside0.mk ((by rw [hg]; exact (below_size (bl_ HB.out)) : w.heap.size ≤ gb204)); replace HB := Aside0.mk (below_step (bl_ HB.out) hb); clear hb hbox hg; have hcz36_0 : w35.cell? ⟨gb204, 0, none⟩ = some (.string a0_0) := (blk_cell BK204.out 0).trans rfl; have hcz36_1 : w35.cell? ⟨gb204, 1, none⟩ = some (.int .i64 a0_1) := (blk_cell BK204.out 1).trans rfl; have hcz36_2 : w35.cell? ⟨gb204, 2, none⟩ = some (.int .i64 a0_2) := (blk_cell BK204.out 2).trans rfl; have hcz36_3 : w35.cell? ⟨gb204, 3, none⟩ = some (.int .i64 a0_3) := (blk_cell BK204.out 3).trans rfl; have hcz36_4 : w35.cell? ⟨gb204, 4, none⟩ = some (.int .i64 a0_4) := (blk_cell BK204.out 4).trans rfl; have hcz36_5 : w35.cell? ⟨gb204, 5, none⟩ = some (.int .i64 a0_5) := (blk_cell BK204.out 5).trans rfl; have hcz36_6 : w35.cell? ⟨gb204, 6, none⟩ = some (.int .i64 a0_6) := (blk_cell BK204.out 6).trans rfl; have hcz36_7 : w35.cell? ⟨gb204, 7, none⟩ = some (.int .i64 a0_7) := (blk_cell BK204.out 7).trans rfl; have hcz36_8 : w35.cell? ⟨gb204, 8, none⟩ = some (.int .i64 a0_8) := (blk_cell BK204.out 8).trans rfl; have hfz36_0 := blk_frozen BK204.out 0; have hfz36_1 := blk_frozen BK204.out 1; have hfz36_2 := blk_frozen BK204.out 2; have hfz36_3 := blk_frozen BK204.out 3; have hfz36_4 := blk_frozen BK204.out 4; have hfz36_5 := blk_frozen BK204.out 5; have hfz36_6 := blk_frozen BK204.out 6; have hfz36_7 := blk_frozen BK204.out 7; have hfz36_8 := blk_frozen BK204.out 8) | ((with_reducible refine gate_callee (f := 203) rfl ?_); refine goesL_ (some 5) rfl rfl Try.func203 (by kernel_rfl) rfl #[.string a0_0] rfl ag_ ?_; (with_reducible refine (impl_IsWord.calls k a0_0 false _ A2.out).mono ?_); rintro e w' ⟨rfl, ⟨nd, rfl⟩⟩; refine ⟨_, rfl, ?_⟩))
  go_ret
  exact ⟨by first | rfl | (simp [errW_none, errW_some] <;> rfl) | (simp [*, errW_none, errW_some] <;> rfl), r0_ HB.out GE204.out⟩
def impl_AreArticles.l0 : Nat → List (S177) → List (S177) → Int → Int → Option (Bool)
 | 0, _, _, _, _ => none
 | k + 1, x0, x8, x9, x10 => if x10 < x9 then (if 0 ≤ x10 then (if x10 < (x8.length : Int) then ((impl_IsArticle.f k ((rd_T177 x8 x10).f0) ((rd_T177 x8 x10).f1) ((rd_T177 x8 x10).f2) ((rd_T177 x8 x10).f3) ((rd_T177 x8 x10).f4) ((rd_T177 x8 x10).f5) ((rd_T177 x8 x10).f6) ((rd_T177 x8 x10).f7) ((rd_T177 x8 x10).f8)).bind fun t216 => (if t216 = true then (if x10 > 0 then (if 0 ≤ (wrap64 (x10 - 1)) then (if (wrap64 (x10 - 1)) < (x0.length : Int) then (if ((Op.bytesLess (((rd_T177 x0 (wrap64 (x10 - 1))).f0).toList) (((rd_T177 x8 x10).f0).toList)) = true) then (impl_AreArticles.l0 k x0 x8 x9 (wrap64 (x10 + 1))) else (some false)) else (none)) else (none)) else (impl_AreArticles.l0 k x0 x8 x9 (wrap64 (x10 + 1)))) else (some false))) else (none)) else (none)) else (some true)
def impl_AreArticles.f (k : Nat) (l0 : List (S177)) : Option (Bool) := if (l0.length : Int) > 12 then (some false) else (impl_AreArticles.l0 k l0 l0 (l0.length : Int) 0)
def impl_AreArticles.T6 : Bool × List (List Nat × List Nat) := (true, [([], []), ([0], [0]), ([1], [1]), ([2, 1], [2]), ([3], [3]), ([4, 3], [3, 4]), ([5, 3, 3], [3, 5]), ([6], [6]), ([6], [6]), ([8, 6], [6, 8]), ([7, 9, 6], [6, 7, 9]), ([10, 6], [6, 10]), ([11, 6], [6, 11]), ([6], [6]), ([13, 6], [6, 13]), ([12, 14, 6], [6, 12, 14]), ([6, 15, 3], [3, 6, 15]), ([3, 16], [3, 16])])
def impl_AreArticles.B6 : List Nat := [0, 1, 3, 7, 15, 31, 63, 127, 127, 383, 1023, 2047, 4095, 127, 8319, 32767, 65535, 131071]
theorem impl_AreArticles.tab6 : rtab .any (opsOf Try.f171 6) = impl_AreArticles.T6 := by kernel_rfl
theorem impl_AreArticles.bits6 : waitsOk impl_AreArticles.T6.2 impl_AreArticles.B6 = true := by kernel_rfl
set_option maxHeartbeats 8000000 in
set_option maxRecDepth 100000 in
theorem impl_AreArticles.calls (k : Nat) (A0 : Option Addr) (c0 : Nat) (l0 : List (S177)) (r : Bool) (w : World) (hr0 : Kd.C k177 w A0 l0.length l0) (hc0 : l0.length ≤ c0) (h : impl_AreArticles.f k l0 = some r) :
  Calls Try.prog 171 #[.slice A0 l0.length c0] w fun e w' => e = .returned (.bool r) ∧ Below w.heap.size w w' := by
 have hu177 := Try.underlying177
 have HR0 := Aside0.mk hr0
 have HC0 := Aside0.mk hc0
 clear hr0 hc0
 have HB := Aside0.mk (Below.refl w.heap.size w)
 have H : (if (l0.length : Int) > 12 then (some false) else (impl_AreArticles.l0 k l0 l0 (l0.length : Int) 0)) = some r := h
 clear h
 by_cases c2 : (l0.length : Int) > 12
 ·rw [if_pos c2] at H
  have c2b0 : decide (12 < (l0.length : Int)) = true := decide_eq_true c2
  have c2b1 : decide (12 < l0.length) = true := decide_eq_true (by omega)
  clear c2
  obtain rfl := Option.some.inj H
  go_enter Try.func171, Try.ntmps171
  go_wp2
  go_ret
  exact ⟨by first | rfl | (simp [errW_none, errW_some] <;> rfl) | (simp [*, errW_none, errW_some] <;> rfl), bl_ HB.out⟩
 ·rw [if_neg c2] at H
  have c2b0 : decide (12 < (l0.length : Int)) = false := decide_eq_false c2
  have c2b1 : decide (12 < l0.length) = false := decide_eq_false (by omega)
  clear c2
  have H' := Aside0.mk H
  clear H
  go_enter Try.func171, Try.ntmps171
  go_wp2
  go_loopg [10] k (fun kq v10 w' => ∃ (x10_1 : Int), v10 = .int .i64 x10_1 ∧ Aside0 (impl_AreArticles.l0 kq l0 l0 (l0.length : Int) x10_1 = some r) ∧ Aside0 (kq ≤ k) ∧ Aside0 (Below w.heap.size w w'))
  case atStart => exact ⟨(0), (by first | rfl | (simp; done) | (simp [*]; done)), H', ⟨Nat.le_refl _⟩, ⟨bl_ HB.out⟩⟩
  case round =>
   clear H'
   try clear c1
   try clear c2
   try clear c2b0
   try clear c2b1
   try clear p2
   obtain ⟨x10_1, rfl, HA, HK1, HB⟩ := hrel
   cases gk with
   | zero => exact absurd HA.out (by simp [impl_AreArticles.l0])
   | succ k1 =>
    have H := HA.out
    clear HA
    simp only [impl_AreArticles.l0] at H
    by_cases c3 : x10_1 < (l0.length : Int)
    ·rw [if_pos c3] at H
     have c3b0 : decide (x10_1 < (l0.length : Int)) = true := decide_eq_true c3
     clear c3
     by_cases c4 : 0 ≤ x10_1
     case neg =>
      rw [if_neg c4] at H
      exact absurd H (by simp)
     rw [if_pos c4] at H
     have c4b0 : decide (0 ≤ x10_1) = true := decide_eq_true c4
     clear c4
     by_cases c5 : x10_1 < (l0.length : Int)
     case neg =>
      rw [if_neg c5] at H
      exact absurd H (by simp)
     rw [if_pos c5] at H
     have c5b0 : decide (x10_1 < (l0.length : Int)) = true := decide_eq_true c5
     clear c5
     replace H := Option.bind_eq_some_iff.mp H
     obtain ⟨t216, A60, H⟩ := H
     replace H : (if t216 = true then (if x10_1 > 0 then (if 0 ≤ (wrap64 (x10_1 - 1)) then (if (wrap64 (x10_1 - 1)) < (l0.length : Int) then (if ((Op.bytesLess (((rd_T177 l0 (wrap64 (x10_1 - 1))).f0).toList) (((rd_T177 l0 x10_1).f0).toList)) = true) then (impl_AreArticles.l0 k1 l0 l0 (l0.length : Int) (wrap64 (x10_1 + 1))) else (some false)) else (none)) else (none)) else (impl_AreArticles.l0 k1 l0 l0 (l0.length : Int) (wrap64 (x10_1 + 1)))) else (some false)) = some r := H
     have A6 := Aside0.mk A60
     clear A60
     by_cases c7 : t216 = true
     ·subst c7
      replace H : (if x10_1 > 0 then (if 0 ≤ (wrap64 (x10_1 - 1)) then (if (wrap64 (x10_1 - 1)) < (l0.length : Int) then (if ((Op.bytesLess (((rd_T177 l0 (wrap64 (x10_1 - 1))).f0).toList) (((rd_T177 l0 x10_1).f0).toList)) = true) then (impl_AreArticles.l0 k1 l0 l0 (l0.length : Int) (wrap64 (x10_1 + 1))) else (some false)) else (none)) else (none)) else (impl_AreArticles.l0 k1 l0 l0 (l0.length : Int) (wrap64 (x10_1 + 1)))) = some r := by rw [if_pos rfl] at H; exact H
      by_cases c8 : x10_1 > 0
      ·rw [if_pos c8] at H
       have c8b0 : decide (0 < x10_1) = true := decide_eq_true c8
       clear c8
       obtain ⟨ji9, hji9⟩ : ∃ j_ : Int, (wrap64 (x10_1 - 1)) = j_ := ⟨_, rfl⟩
       replace H : (if 0 ≤ (ji9) then (if (ji9) < (l0.length : Int) then (if ((Op.bytesLess (((rd_T177 l0 (ji9)).f0).toList) (((rd_T177 l0 x10_1).f0).toList)) = true) then (impl_AreArticles.l0 k1 l0 l0 (l0.length : Int) (wrap64 (x10_1 + 1))) else (some false)) else (none)) else (none)) = some r := by first | (rw [hji9] at H; exact H) | (simp only [hji9] at H ⊢; exact H)
       (try rw [hji9] at A6)
       have hji9w : (IntKind.i64.wrap (x10_1 - 1)) = ji9 := (i64_w _).trans hji9
       by_cases c10 : 0 ≤ (ji9)
       case neg =>
        rw [if_neg c10] at H
        exact absurd H (by simp)
       rw [if_pos c10] at H
       have c10b0 : decide (0 ≤ (ji9)) = true := decide_eq_true c10
       clear c10
       by_cases c11 : (ji9) < (l0.length : Int)
       case neg =>
        rw [if_neg c11] at H
        exact absurd H (by simp)
       rw [if_pos c11] at H
       have c11b0 : decide ((ji9) < (l0.length : Int)) = true := decide_eq_true c11
       clear c11
       by_cases c12 : ((Op.bytesLess (((rd_T177 l0 (ji9)).f0).toList) (((rd_T177 l0 x10_1).f0).toList)) = true)
       ·rw [if_pos c12] at H
        have c12b0 : (Op.bytesLess (((rd_T177 l0 (ji9)).f0).toList) (((rd_T177 l0 x10_1).f0).toList)) = true := c12
        clear c12
        have H' := Aside0.mk H
        clear H
        have p214 : 0 ≤ (x10_1 : Int) := od_
        have q214 : x10_1 < (l0.length : Int) := od_
        obtain ⟨ad214, e214, hx214_0, hx214_1, hx214_2, hx214_3, hx214_4, hx214_5, hx214_6, hx214_7, hx214_8⟩ := at_T177 HR0.out x10_1 p214 q214
        cases e214
        replace hx214_0 := bc_ HB.out hx214_0
        replace hx214_1 := bc_ HB.out hx214_1
        replace hx214_2 := bc_ HB.out hx214_2
        replace hx214_3 := bc_ HB.out hx214_3
        replace hx214_4 := bc_ HB.out hx214_4
        replace hx214_5 := bc_ HB.out hx214_5
        replace hx214_6 := bc_ HB.out hx214_6
        replace hx214_7 := bc_ HB.out hx214_7
        replace hx214_8 := bc_ HB.out hx214_8
        replace p214 := eq_true p214
        replace q214 := eq_true q214
        try go_wp2_with (first | ((with_reducible refine gate_dst (N := 4) rfl ?_); refine box_event ?hg (N := 4) ?hd (cs := #[.string (⟨#[]⟩ : ByteArray), .int .i64 0, .int .i64 0, .int .i64 0, .int .i64 0, .int .i64 0, .int .i64 0, .int .i64 0, .int .i64 0]) (t := 177) ?hr ?_; (case hd => rfl); (case hg => rfl); (case hr => first | (go_simp; done) | (go_simp; rfl)); intro gb215 hg w13 hbox hb; have BK215 := Aside0.mk (hbox); have GW215 := Aside0.mk ((by rw [hg]; exact (below_size (bl_ HB.out)) : w.heap.size ≤ gb215)); have GE215 := Aside0.mk ((by rw [hg]; exact (below_size (bl_ HB.out)) : w.heap.size ≤ gb215)); replace HB := Aside0.mk (below_step (bl_ HB.out) hb); clear hb hbox hg; have hcz14_0 : w13.cell? ⟨gb215, 0, none⟩ = some (.string (⟨#[]⟩ : ByteArray)) := (blk_cell BK215.out 0).trans rfl; have hcz14_1 : w13.cell? ⟨gb215, 1, none⟩ = some (.int .i64 0) := (blk_cell BK215.out 1).trans rfl; have hcz14_2 : w13.cell? ⟨gb215, 2, none⟩ = some (.int .i64 0) := (blk_cell BK215.out 2).trans rfl; have hcz14_3 : w13.cell? ⟨gb215, 3, none⟩ = some (.int .i64 0) := (blk_cell BK215.out 3).trans rfl; have hcz14_4 : w13.cell? ⟨gb215, 4, none⟩ = some (.int .i64 0) := (blk_cell BK215.out 4).trans rfl; have hcz14_5 : w13.cell? ⟨gb215, 5, none⟩ = some (.int .i64 0) := (blk_cell BK215.out 5).trans rfl; have hcz14_6 : w13.cell? ⟨gb215, 6, none⟩ = some (.int .i64 0) := (blk_cell BK215.out 6).trans rfl; have hcz14_7 : w13.cell? ⟨gb215, 7, none⟩ = some (.int .i64 0) := (blk_cell BK215.out 7).trans rfl; have hcz14_8 : w13.cell? ⟨gb215, 8, none⟩ = some (.int .i64 0) := (blk_cell BK215.out 8).trans rfl; have hfz14_0 := blk_frozen BK215.out 0; have hfz14_1 := blk_frozen BK215.out 1; have hfz14_2 := blk_frozen BK215.out 2; have hfz14_3 := blk_frozen BK215.out 3; have hfz14_4 := blk_frozen BK215.out 4; have hfz14_5 := blk_frozen BK215.out 5; have hfz14_6 := blk_frozen BK215.out 6; have hfz14_7 := blk_frozen BK215.out 7; have hfz14_8 := blk_frozen BK215.out 8))
        have n0_ : Aside0 ((((((((((w13.setCell ⟨gb215, 0, none⟩ (.string ((rd_T177 l0 x10_1).f0))).setCell ⟨gb215, 1, none⟩ (.int .i64 ((rd_T177 l0 x10_1).f1))).setCell ⟨gb215, 2, none⟩ (.int .i64 ((rd_T177 l0 x10_1).f2))).setCell ⟨gb215, 3, none⟩ (.int .i64 ((rd_T177 l0 x10_1).f3))).setCell ⟨gb215, 4, none⟩ (.int .i64 ((rd_T177 l0 x10_1).f4))).setCell ⟨gb215, 5, none⟩ (.int .i64 ((rd_T177 l0 x10_1).f5))).setCell ⟨gb215, 6, none⟩ (.int .i64 ((rd_T177 l0 x10_1).f6))).setCell ⟨gb215, 7, none⟩ (.int .i64 ((rd_T177 l0 x10_1).f7))).setCell ⟨gb215, 8, none⟩ (.int .i64 ((rd_T177 l0 x10_1).f8))).heap[gb215]? = some (.cells #[.string ((rd_T177 l0 x10_1).f0), .int .i64 ((rd_T177 l0 x10_1).f1), .int .i64 ((rd_T177 l0 x10_1).f2), .int .i64 ((rd_T177 l0 x10_1).f3), .int .i64 ((rd_T177 l0 x10_1).f4), .int .i64 ((rd_T177 l0 x10_1).f5), .int .i64 ((rd_T177 l0 x10_1).f6), .int .i64 ((rd_T177 l0 x10_1).f7), .int .i64 ((rd_T177 l0 x10_1).f8)] 177 (0, 0))) := ⟨by (with_reducible repeat (first | refine blk_drewN ?_ _ | refine blk_drew ?_ | refine blk_alloc ?_ _)); refine blk_put (cs := #[.string ((rd_T177 l0 x10_1).f0), .int .i64 ((rd_T177 l0 x10_1).f1), .int .i64 ((rd_T177 l0 x10_1).f2), .int .i64 ((rd_T177 l0 x10_1).f3), .int .i64 ((rd_T177 l0 x10_1).f4), .int .i64 ((rd_T177 l0 x10_1).f5), .int .i64 ((rd_T177 l0 x10_1).f6), .int .i64 ((rd_T177 l0 x10_1).f7), .int .i64 0]) ?_ 8 _ rfl; (with_reducible repeat (first | refine blk_drewN ?_ _ | refine blk_drew ?_ | refine blk_alloc ?_ _)); refine blk_put (cs := #[.string ((rd_T177 l0 x10_1).f0), .int .i64 ((rd_T177 l0 x10_1).f1), .int .i64 ((rd_T177 l0 x10_1).f2), .int .i64 ((rd_T177 l0 x10_1).f3), .int .i64 ((rd_T177 l0 x10_1).f4), .int .i64 ((rd_T177 l0 x10_1).f5), .int .i64 ((rd_T177 l0 x10_1).f6), .int .i64 0, .int .i64 0]) ?_ 7 _ rfl; (with_reducible repeat (first | refine blk_drewN ?_ _ | refine blk_drew ?_ | refine blk_alloc ?_ _)); refine blk_put (cs := #[.string ((rd_T177 l0 x10_1).f0), .int .i64 ((rd_T177 l0 x10_1).f1), .int .i64 ((rd_T177 l0 x10_1).f2), .int .i64 ((rd_T177 l0 x10_1).f3), .int .i64 ((rd_T177 l0 x10_1).f4), .int .i64 ((rd_T177 l0 x10_1).f5), .int .i64 0, .int .i64 0, .int .i64 0]) ?_ 6 _ rfl; (with_reducible repeat (first | refine blk_drewN ?_ _ | refine blk_drew ?_ | refine blk_alloc ?_ _)); refine blk_put (cs := #[.string ((rd_T177 l0 x10_1).f0), .int .i64 ((rd_T177 l0 x10_1).f1), .int .i64 ((rd_T177 l0 x10_1).f2), .int .i64 ((rd_T177 l0 x10_1).f3), .int .i64 ((rd_T177 l0 x10_1).f4), .int .i64 0, .int .i64 0, .int .i64 0, .int .i64 0]) ?_ 5 _ rfl; (with_reducible repeat (first | refine blk_drewN ?_ _ | refine blk_drew ?_ | refine blk_alloc ?_ _)); refine blk_put (cs := #[.string ((rd_T177 l0 x10_1).f0), .int .i64 ((rd_T177 l0 x10_1).f1), .int .i64 ((rd_T177 l0 x10_1).f2), .int .i64 ((rd_T177 l0 x10_1).f3), .int .i64 0, .int .i64 0, .int .i64 0, .int .i64 0, .int .i64 0]) ?_ 4 _ rfl; (with_reducible repeat (first | refine blk_drewN ?_ _ | refine blk_drew ?_ | refine blk_alloc ?_ _)); refine blk_put (cs := #[.string ((rd_T177 l0 x10_1).f0), .int .i64 ((rd_T177 l0 x10_1).f1), .int .i64 ((rd_T177 l0 x10_1).f2), .int .i64 0, .int .i64 0, .int .i64 0, .int .i64 0, .int .i64 0, .int .i64 0]) ?_ 3 _ rfl; (with_reducible repeat (first | refine blk_drewN ?_ _ | refine blk_drew ?_ | refine blk_alloc ?_ _)); refine blk_put (cs := #[.string ((rd_T177 l0 x10_1).f0), .int .i64 ((rd_T177 l0 x10_1).f1), .int .i64 0, .int .i64 0, .int .i64 0, .int .i64 0, .int .i64 0, .int .i64 0, .int .i64 0]) ?_ 2 _ rfl; (with_reducible repeat (first | refine blk_drewN ?_ _ | refine blk_drew ?_ | refine blk_alloc ?_ _)); refine blk_put (cs := #[.string ((rd_T177 l0 x10_1).f0), .int .i64 0, .int .i64 0, .int .i64 0, .int .i64 0, .int .i64 0, .int .i64 0, .int .i64 0, .int .i64 0]) ?_ 1 _ rfl; (with_reducible repeat (first | refine blk_drewN ?_ _ | refine blk_drew ?_ | refine blk_alloc ?_ _)); refine blk_put (cs := #[.string (⟨#[]⟩ : ByteArray), .int .i64 0, .int .i64 0, .int .i64 0, .int .i64 0, .int .i64 0, .int .i64 0, .int .i64 0, .int .i64 0]) ?_ 0 _ rfl; (with_reducible repeat (first | refine blk_drewN ?_ _ | refine blk_drew ?_ | refine blk_alloc ?_ _)); exact BK215.out⟩
        have n1_ : Aside0 (Below w.heap.size w (((((((((w13.setCell ⟨gb215, 0, none⟩ (.string ((rd_T177 l0 x10_1).f0))).setCell ⟨gb215, 1, none⟩ (.int .i64 ((rd_T177 l0 x10_1).f1))).setCell ⟨gb215, 2, none⟩ (.int .i64 ((rd_T177 l0 x10_1).f2))).setCell ⟨gb215, 3, none⟩ (.int .i64 ((rd_T177 l0 x10_1).f3))).setCell ⟨gb215, 4, none⟩ (.int .i64 ((rd_T177 l0 x10_1).f4))).setCell ⟨gb215, 5, none⟩ (.int .i64 ((rd_T177 l0 x10_1).f5))).setCell ⟨gb215, 6, none⟩ (.int .i64 ((rd_T177 l0 x10_1).f6))).setCell ⟨gb215, 7, none⟩ (.int .i64 ((rd_T177 l0 x10_1).f7))).setCell ⟨gb215, 8, none⟩ (.int .i64 ((rd_T177 l0 x10_1).f8)))) := ⟨r0_ HB.out GE215.out⟩
        (try clear BK215)
        (try clear HB)
        generalize (((((((((w13.setCell ⟨gb215, 0, none⟩ (.string ((rd_T177 l0 x10_1).f0))).setCell ⟨gb215, 1, none⟩ (.int .i64 ((rd_T177 l0 x10_1).f1))).setCell ⟨gb215, 2, none⟩ (.int .i64 ((rd_T177 l0 x10_1).f2))).setCell ⟨gb215, 3, none⟩ (.int .i64 ((rd_T177 l0 x10_1).f3))).setCell ⟨gb215, 4, none⟩ (.int .i64 ((rd_T177 l0 x10_1).f4))).setCell ⟨gb215, 5, none⟩ (.int .i64 ((rd_T177 l0 x10_1).f5))).setCell ⟨gb215, 6, none⟩ (.int .i64 ((rd_T177 l0 x10_1).f6))).setCell ⟨gb215, 7, none⟩ (.int .i64 ((rd_T177 l0 x10_1).f7))).setCell ⟨gb215, 8, none⟩ (.int .i64 ((rd_T177 l0 x10_1).f8))) = w15 at n0_ n1_ ⊢
        have BK215 := n0_
        have HB := n1_
        clear n0_ n1_
        replace BK215 := Aside0.mk (blk_drew BK215.out)
        replace HB := Aside0.mk (below_drew1 HB.out)
        have p217 : 0 ≤ ((ji9) : Int) := od_
        have q217 : (ji9) < (l0.length : Int) := od_
        obtain ⟨ad217, e217, hx217_0, hx217_1, hx217_2, hx217_3, hx217_4, hx217_5, hx217_6, hx217_7, hx217_8⟩ := at_T177 HR0.out (ji9) p217 q217
        have hw217_8 := hx217_8
        have hw217_7 := hx217_7
        have hw217_6 := hx217_6
        have hw217_5 := hx217_5
        have hw217_4 := hx217_4
        have hw217_3 := hx217_3
        have hw217_2 := hx217_2
        have hw217_1 := hx217_1
        have hw217_0 := hx217_0
        obtain rfl : ad214 = ad217 := (by injection e217)
        replace hx217_0 := bc_ HB.out hx217_0
        replace hx217_1 := bc_ HB.out hx217_1
        replace hx217_2 := bc_ HB.out hx217_2
        replace hx217_3 := bc_ HB.out hx217_3
        replace hx217_4 := bc_ HB.out hx217_4
        replace hx217_5 := bc_ HB.out hx217_5
        replace hx217_6 := bc_ HB.out hx217_6
        replace hx217_7 := bc_ HB.out hx217_7
        replace hx217_8 := bc_ HB.out hx217_8
        replace p217 := eq_true p217
        replace q217 := eq_true q217
        refine start_ (n := 18) (S := fun w' => w'.cell? ⟨gb215, 0, none⟩ = some (.string ((rd_T177 l0 x10_1).f0)) ∧ w'.cell? ⟨gb215, 1, none⟩ = some (.int .i64 ((rd_T177 l0 x10_1).f1)) ∧ w'.cell? ⟨gb215, 2, none⟩ = some (.int .i64 ((rd_T177 l0 x10_1).f2)) ∧ w'.cell? ⟨gb215, 3, none⟩ = some (.int .i64 ((rd_T177 l0 x10_1).f3)) ∧ w'.cell? ⟨gb215, 4, none⟩ = some (.int .i64 ((rd_T177 l0 x10_1).f4)) ∧ w'.cell? ⟨gb215, 5, none⟩ = some (.int .i64 ((rd_T177 l0 x10_1).f5)) ∧ w'.cell? ⟨gb215, 6, none⟩ = some (.int .i64 ((rd_T177 l0 x10_1).f6)) ∧ w'.cell? ⟨gb215, 7, none⟩ = some (.int .i64 ((rd_T177 l0 x10_1).f7)) ∧ w'.cell? ⟨gb215, 8, none⟩ = some (.int .i64 ((rd_T177 l0 x10_1).f8)) ∧ w'.cell? (ad214.add (((ji9)).toNat * 9)) = some (.string ((rd_T177 l0 (ji9)).f0)) ∧ w'.cell? ⟨(ad214.add (((ji9)).toNat * 9)).block, (ad214.add (((ji9)).toNat * 9)).off + 1, none⟩ = some (.int .i64 ((rd_T177 l0 (ji9)).f1)) ∧ w'.cell? ⟨(ad214.add (((ji9)).toNat * 9)).block, (ad214.add (((ji9)).toNat * 9)).off + 2, none⟩ = some (.int .i64 ((rd_T177 l0 (ji9)).f2)) ∧ w'.cell? ⟨(ad214.add (((ji9)).toNat * 9)).block, (ad214.add (((ji9)).toNat * 9)).off + 3, none⟩ = some (.int .i64 ((rd_T177 l0 (ji9)).f3)) ∧ w'.cell? ⟨(ad214.add (((ji9)).toNat * 9)).block, (ad214.add (((ji9)).toNat * 9)).off + 4, none⟩ = some (.int .i64 ((rd_T177 l0 (ji9)).f4)) ∧ w'.cell? ⟨(ad214.add (((ji9)).toNat * 9)).block, (ad214.add (((ji9)).toNat * 9)).off + 5, none⟩ = some (.int .i64 ((rd_T177 l0 (ji9)).f5)) ∧ w'.cell? ⟨(ad214.add (((ji9)).toNat * 9)).block, (ad214.add (((ji9)).toNat * 9)).off + 6, none⟩ = some (.int .i64 ((rd_T177 l0 (ji9)).f6)) ∧ w'.cell? ⟨(ad214.add (((ji9)).toNat * 9)).block, (ad214.add (((ji9)).toNat * 9)).off + 7, none⟩ = some (.int .i64 ((rd_T177 l0 (ji9)).f7)) ∧ w'.cell? ⟨(ad214.add (((ji9)).toNat * 9)).block, (ad214.add (((ji9)).toNat * 9)).off + 8, none⟩ = some (.int .i64 ((rd_T177 l0 (ji9)).f8))) (ds := []) #[f_,f_,f_,f_,f_,f_,f_,f_,f_,f_,f_,f_,f_,f_,f_,f_,f_,f_] (by kernel_rfl) rfl rfl ⟨(blk_cell BK215.out 0).trans rfl, (blk_cell BK215.out 1).trans rfl, (blk_cell BK215.out 2).trans rfl, (blk_cell BK215.out 3).trans rfl, (blk_cell BK215.out 4).trans rfl, (blk_cell BK215.out 5).trans rfl, (blk_cell BK215.out 6).trans rfl, (blk_cell BK215.out 7).trans rfl, (blk_cell BK215.out 8).trans rfl, (bc_ HB.out hw217_0 :), (bc_ HB.out hw217_1 :), (bc_ HB.out hw217_2 :), (bc_ HB.out hw217_3 :), (bc_ HB.out hw217_4 :), (bc_ HB.out hw217_5 :), (bc_ HB.out hw217_6 :), (bc_ HB.out hw217_7 :), (bc_ HB.out hw217_8 :)⟩ (fun hHeld => ?_); refine with_tabW impl_AreArticles.tab6 impl_AreArticles.bits6 (fun HT_ HW_ => ?_)
        generalize w15.drew = w16 at BK215 HB hx217_0 hx217_1 hx217_2 hx217_3 hx217_4 hx217_5 hx217_6 hx217_7 hx217_8 hHeld ⊢
        refine take_ (i := 0) (N := some 15) (v := ?_) (a' := ?_) #[t_,f_,f_,f_,f_,f_,f_,f_,f_,f_,f_,f_,f_,f_,f_,f_,f_,f_] rfl rfl (take_ofW HT_.out HW_.out (by kernel_rfl)) (fun _ _ _ h => h) (Or.inl ⟨by rfl, ?_⟩) hHeld ?_ ?_
        rotate_left
        ·rintro w' ⟨s0, s1, s2, s3, s4, s5, s6, s7, s8, s9, s10, s11, s12, s13, s14, s15, s16, s17⟩
         go_simp
         with_reducible rfl
        rotate_left
        ·simp only [pz_]
         rfl
        refine one_ (i := 1) (N := some 16) #[t_,t_,f_,f_,f_,f_,f_,f_,f_,f_,f_,f_,f_,f_,f_,f_,f_,f_] rfl rfl (one_of HT_.out (by kernel_rfl)) (by decide) (fun K hK => ?_)
        refine goes_ Try.func194 (by kernel_rfl) rfl #[.agg #[.string ((rd_T177 l0 x10_1).f0), .int .i64 ((rd_T177 l0 x10_1).f1), .int .i64 ((rd_T177 l0 x10_1).f2), .int .i64 ((rd_T177 l0 x10_1).f3), .int .i64 ((rd_T177 l0 x10_1).f4), .int .i64 ((rd_T177 l0 x10_1).f5), .int .i64 ((rd_T177 l0 x10_1).f6), .int .i64 ((rd_T177 l0 x10_1).f7), .int .i64 ((rd_T177 l0 x10_1).f8)]] (by rfl) rfl rfl ag_ ?_
        with_reducible refine (impl_IsArticle.calls k1 ((rd_T177 l0 x10_1).f0) ((rd_T177 l0 x10_1).f1) ((rd_T177 l0 x10_1).f2) ((rd_T177 l0 x10_1).f3) ((rd_T177 l0 x10_1).f4) ((rd_T177 l0 x10_1).f5) ((rd_T177 l0 x10_1).f6) ((rd_T177 l0 x10_1).f7) ((rd_T177 l0 x10_1).f8) true _ A6.out).mono ?_
        rintro e w17 ⟨rfl, hb⟩
        refine ⟨_, rfl, ?_⟩
        replace BK215 := Aside0.mk (blk_below (g := gb215) (o := .cells #[.string ((rd_T177 l0 x10_1).f0), .int .i64 ((rd_T177 l0 x10_1).f1), .int .i64 ((rd_T177 l0 x10_1).f2), .int .i64 ((rd_T177 l0 x10_1).f3), .int .i64 ((rd_T177 l0 x10_1).f4), .int .i64 ((rd_T177 l0 x10_1).f5), .int .i64 ((rd_T177 l0 x10_1).f6), .int .i64 ((rd_T177 l0 x10_1).f7), .int .i64 ((rd_T177 l0 x10_1).f8)] 177 (0, 0)) (r1_ BK215.out) hb)
        replace HB := Aside0.mk (below_step (r0_ HB.out GE215.out) hb)
        (try clear hb)
        (try clear hb2)
        (try clear hk)
        (try clear hi)
        refine hK.out _ _ ⟨(blk_cell BK215.out 0).trans rfl, (blk_cell BK215.out 1).trans rfl, (blk_cell BK215.out 2).trans rfl, (blk_cell BK215.out 3).trans rfl, (blk_cell BK215.out 4).trans rfl, (blk_cell BK215.out 5).trans rfl, (blk_cell BK215.out 6).trans rfl, (blk_cell BK215.out 7).trans rfl, (blk_cell BK215.out 8).trans rfl, (bc_ HB.out hw217_0 :), (bc_ HB.out hw217_1 :), (bc_ HB.out hw217_2 :), (bc_ HB.out hw217_3 :), (bc_ HB.out hw217_4 :), (bc_ HB.out hw217_5 :), (bc_ HB.out hw217_6 :), (bc_ HB.out hw217_7 :), (bc_ HB.out hw217_8 :)⟩ (fun hHeld => ?_)
        clear hK K
        refine norm_ (a' := ?_) ?_ ?_
        rotate_left
        ·show Act.put _ (some 16) _ = _
         simp only [pz_]
         rfl
        refine pu_ 2 17 #[t_,t_,t_,f_,f_,f_,f_,f_,f_,f_,f_,f_,f_,f_,f_,f_,f_,f_] HT_.out ?_
        refine pu_ 3 18 #[t_,t_,t_,t_,f_,f_,f_,f_,f_,f_,f_,f_,f_,f_,f_,f_,f_,f_] HT_.out ?_
        refine pu_ 4 19 #[t_,t_,t_,t_,t_,f_,f_,f_,f_,f_,f_,f_,f_,f_,f_,f_,f_,f_] HT_.out ?_
        refine pu_ 5 20 #[t_,t_,t_,t_,t_,t_,f_,f_,f_,f_,f_,f_,f_,f_,f_,f_,f_,f_] HT_.out ?_
        refine pu_ 6 21 #[t_,t_,t_,t_,t_,t_,t_,f_,f_,f_,f_,f_,f_,f_,f_,f_,f_,f_] HT_.out ?_
        refine pu_ 7 22 #[t_,t_,t_,t_,t_,t_,t_,t_,f_,f_,f_,f_,f_,f_,f_,f_,f_,f_] HT_.out ?_
        refine pu_ 8 23 #[t_,t_,t_,t_,t_,t_,t_,t_,t_,f_,f_,f_,f_,f_,f_,f_,f_,f_] HT_.out ?_
        refine pu_ 9 24 #[t_,t_,t_,t_,t_,t_,t_,t_,t_,t_,f_,f_,f_,f_,f_,f_,f_,f_] HT_.out ?_
        refine pu_ 10 25 #[t_,t_,t_,t_,t_,t_,t_,t_,t_,t_,t_,f_,f_,f_,f_,f_,f_,f_] HT_.out ?_
        refine pu_ 11 26 #[t_,t_,t_,t_,t_,t_,t_,t_,t_,t_,t_,t_,f_,f_,f_,f_,f_,f_] HT_.out ?_
        refine pu_ 13 28 #[t_,t_,t_,t_,t_,t_,t_,t_,t_,t_,t_,t_,f_,t_,f_,f_,f_,f_] HT_.out ?_
        refine take_ (i := 12) (N := some 27) (v := ?_) (a' := ?_) #[t_,t_,t_,t_,t_,t_,t_,t_,t_,t_,t_,t_,t_,t_,f_,f_,f_,f_] rfl rfl (take_ofW HT_.out HW_.out (by kernel_rfl)) (fun _ _ _ h => h) (Or.inl ⟨by rfl, ?_⟩) hHeld ?_ ?_
        rotate_left
        ·rintro w' ⟨s0, s1, s2, s3, s4, s5, s6, s7, s8, s9, s10, s11, s12, s13, s14, s15, s16, s17⟩
         go_simp
         with_reducible rfl
        rotate_left
        ·simp only [pz_]
         rfl
        refine take_ (i := 14) (N := some 29) (v := ?_) (a' := ?_) #[t_,t_,t_,t_,t_,t_,t_,t_,t_,t_,t_,t_,t_,t_,t_,f_,f_,f_] rfl rfl (take_ofW HT_.out HW_.out (by kernel_rfl)) (fun _ _ _ h => h) (Or.inl ⟨by rfl, ?_⟩) hHeld ?_ ?_
        rotate_left
        ·rintro w' ⟨s0, s1, s2, s3, s4, s5, s6, s7, s8, s9, s10, s11, s12, s13, s14, s15, s16, s17⟩
         go_simp
         with_reducible rfl
        rotate_left
        ·simp only [pz_]
         rfl
        refine pu_ 15 30 #[t_,t_,t_,t_,t_,t_,t_,t_,t_,t_,t_,t_,t_,t_,t_,t_,f_,f_] HT_.out ?_
        refine pu_ 16 31 #[t_,t_,t_,t_,t_,t_,t_,t_,t_,t_,t_,t_,t_,t_,t_,t_,t_,f_] HT_.out ?_
        refine pu_ 17 32 #[t_,t_,t_,t_,t_,t_,t_,t_,t_,t_,t_,t_,t_,t_,t_,t_,t_,t_] HT_.out ?_
        refine done_ (done_of HT_.out (by kernel_rfl)) ?_
        try go_wp2
        go_roundg k1
        case measure => have := HK1.out; omega
        case rel => exact ⟨(wrap64 (x10_1 + 1)), (by first | rfl | (simp; done) | (simp [*]; done)), H', ⟨by have := HK1.out; omega⟩, ⟨r0_ HB.out GE215.out⟩⟩
       ·rw [if_neg c12] at H
        have c12b0 : (Op.bytesLess (((rd_T177 l0 (ji9)).f0).toList) (((rd_T177 l0 x10_1).f0).toList)) = false := by simpa using c12
        clear c12
        obtain rfl := Option.some.inj H
        have p214 : 0 ≤ (x10_1 : Int) := od_
        have q214 : x10_1 < (l0.length : Int) := od_
        obtain ⟨ad214, e214, hx214_0, hx214_1, hx214_2, hx214_3, hx214_4, hx214_5, hx214_6, hx214_7, hx214_8⟩ := at_T177 HR0.out x10_1 p214 q214
        cases e214
        replace hx214_0 := bc_ HB.out hx214_0
        replace hx214_1 := bc_ HB.out hx214_1
        replace hx214_2 := bc_ HB.out hx214_2
        replace hx214_3 := bc_ HB.out hx214_3
        replace hx214_4 := bc_ HB.out hx214_4
        replace hx214_5 := bc_ HB.out hx214_5
        replace hx214_6 := bc_ HB.out hx214_6
        replace hx214_7 := bc_ HB.out hx214_7
        replace hx214_8 := bc_ HB.out hx214_8
        replace p214 := eq_true p214
        replace q214 := eq_true q214
        try go_wp2_with (first | ((with_reducible refine gate_dst (N := 4) rfl ?_); refine box_event ?hg (N := 4) ?hd (cs := #[.string (⟨#[]⟩ : ByteArray), .int .i64 0, .int .i64 0, .int .i64 0, .int .i64 0, .int .i64 0, .int .i64 0, .int .i64 0, .int .i64 0]) (t := 177) ?hr ?_; (case hd => rfl); (case hg => rfl); (case hr => first | (go_simp; done) | (go_simp; rfl)); intro gb215 hg w18 hbox hb; have BK215 := Aside0.mk (hbox); have GW215 := Aside0.mk ((by rw [hg]; exact (below_size (bl_ HB.out)) : w.heap.size ≤ gb215)); have GE215 := Aside0.mk ((by rw [hg]; exact (below_size (bl_ HB.out)) : w.heap.size ≤ gb215)); replace HB := Aside0.mk (below_step (bl_ HB.out) hb); clear hb hbox hg; have hcz19_0 : w18.cell? ⟨gb215, 0, none⟩ = some (.string (⟨#[]⟩ : ByteArray)) := (blk_cell BK215.out 0).trans rfl; have hcz19_1 : w18.cell? ⟨gb215, 1, none⟩ = some (.int .i64 0) := (blk_cell BK215.out 1).trans rfl; have hcz19_2 : w18.cell? ⟨gb215, 2, none⟩ = some (.int .i64 0) := (blk_cell BK215.out 2).trans rfl; have hcz19_3 : w18.cell? ⟨gb215, 3, none⟩ = some (.int .i64 0) := (blk_cell BK215.out 3).trans rfl; have hcz19_4 : w18.cell? ⟨gb215, 4, none⟩ = some (.int .i64 0) := (blk_cell BK215.out 4).trans rfl; have hcz19_5 : w18.cell? ⟨gb215, 5, none⟩ = some (.int .i64 0) := (blk_cell BK215.out 5).trans rfl; have hcz19_6 : w18.cell? ⟨gb215, 6, none⟩ = some (.int .i64 0) := (blk_cell BK215.out 6).trans rfl; have hcz19_7 : w18.cell? ⟨gb215, 7, none⟩ = some (.int .i64 0) := (blk_cell BK215.out 7).trans rfl; have hcz19_8 : w18.cell? ⟨gb215, 8, none⟩ = some (.int .i64 0) := (blk_cell BK215.out 8).trans rfl; have hfz19_0 := blk_frozen BK215.out 0; have hfz19_1 := blk_frozen BK215.out 1; have hfz19_2 := blk_frozen BK215.out 2; have hfz19_3 := blk_frozen BK215.out 3; have hfz19_4 := blk_frozen BK215.out 4; have hfz19_5 := blk_frozen BK215.out 5; have hfz19_6 := blk_frozen BK215.out 6; have hfz19_7 := blk_frozen BK215.out 7; have hfz19_8 := blk_frozen BK215.out 8))
        have n0_ : Aside0 ((((((((((w18.setCell ⟨gb215, 0, none⟩ (.string ((rd_T177 l0 x10_1).f0))).setCell ⟨gb215, 1, none⟩ (.int .i64 ((rd_T177 l0 x10_1).f1))).setCell ⟨gb215, 2, none⟩ (.int .i64 ((rd_T177 l0 x10_1).f2))).setCell ⟨gb215, 3, none⟩ (.int .i64 ((rd_T177 l0 x10_1).f3))).setCell ⟨gb215, 4, none⟩ (.int .i64 ((rd_T177 l0 x10_1).f4))).setCell ⟨gb215, 5, none⟩ (.int .i64 ((rd_T177 l0 x10_1).f5))).setCell ⟨gb215, 6, none⟩ (.int .i64 ((rd_T177 l0 x10_1).f6))).setCell ⟨gb215, 7, none⟩ (.int .i64 ((rd_T177 l0 x10_1).f7))).setCell ⟨gb215, 8, none⟩ (.int .i64 ((rd_T177 l0 x10_1).f8))).heap[gb215]? = some (.cells #[.string ((rd_T177 l0 x10_1).f0), .int .i64 ((rd_T177 l0 x10_1).f1), .int .i64 ((rd_T177 l0 x10_1).f2), .int .i64 ((rd_T177 l0 x10_1).f3), .int .i64 ((rd_T177 l0 x10_1).f4), .int .i64 ((rd_T177 l0 x10_1).f5), .int .i64 ((rd_T177 l0 x10_1).f6), .int .i64 ((rd_T177 l0 x10_1).f7), .int .i64 ((rd_T177 l0 x10_1).f8)] 177 (0, 0))) := ⟨by (with_reducible repeat (first | refine blk_drewN ?_ _ | refine blk_drew ?_ | refine blk_alloc ?_ _)); refine blk_put (cs := #[.string ((rd_T177 l0 x10_1).f0), .int .i64 ((rd_T177 l0 x10_1).f1), .int .i64 ((rd_T177 l0 x10_1).f2), .int .i64 ((rd_T177 l0 x10_1).f3), .int .i64 ((rd_T177 l0 x10_1).f4), .int .i64 ((rd_T177 l0 x10_1).f5), .int .i64 ((rd_T177 l0 x10_1).f6), .int .i64 ((rd_T177 l0 x10_1).f7), .int .i64 0]) ?_ 8 _ rfl; (with_reducible repeat (first | refine blk_drewN ?_ _ | refine blk_drew ?_ | refine blk_alloc ?_ _)); refine blk_put (cs := #[.string ((rd_T177 l0 x10_1).f0), .int .i64 ((rd_T177 l0 x10_1).f1), .int .i64 ((rd_T177 l0 x10_1).f2), .int .i64 ((rd_T177 l0 x10_1).f3), .int .i64 ((rd_T177 l0 x10_1).f4), .int .i64 ((rd_T177 l0 x10_1).f5), .int .i64 ((rd_T177 l0 x10_1).f6), .int .i64 0, .int .i64 0]) ?_ 7 _ rfl; (with_reducible repeat (first | refine blk_drewN ?_ _ | refine blk_drew ?_ | refine blk_alloc ?_ _)); refine blk_put (cs := #[.string ((rd_T177 l0 x10_1).f0), .int .i64 ((rd_T177 l0 x10_1).f1), .int .i64 ((rd_T177 l0 x10_1).f2), .int .i64 ((rd_T177 l0 x10_1).f3), .int .i64 ((rd_T177 l0 x10_1).f4), .int .i64 ((rd_T177 l0 x10_1).f5), .int .i64 0, .int .i64 0, .int .i64 0]) ?_ 6 _ rfl; (with_reducible repeat (first | refine blk_drewN ?_ _ | refine blk_drew ?_ | refine blk_alloc ?_ _)); refine blk_put (cs := #[.string ((rd_T177 l0 x10_1).f0), .int .i64 ((rd_T177 l0 x10_1).f1), .int .i64 ((rd_T177 l0 x10_1).f2), .int .i64 ((rd_T177 l0 x10_1).f3), .int .i64 ((rd_T177 l0 x10_1).f4), .int .i64 0, .int .i64 0, .int .i64 0, .int .i64 0]) ?_ 5 _ rfl; (with_reducible repeat (first | refine blk_drewN ?_ _ | refine blk_drew ?_ | refine blk_alloc ?_ _)); refine blk_put (cs := #[.string ((rd_T177 l0 x10_1).f0), .int .i64 ((rd_T177 l0 x10_1).f1), .int .i64 ((rd_T177 l0 x10_1).f2), .int .i64 ((rd_T177 l0 x10_1).f3), .int .i64 0, .int .i64 0, .int .i64 0, .int .i64 0, .int .i64 0]) ?_ 4 _ rfl; (with_reducible repeat (first | refine blk_drewN ?_ _ | refine blk_drew ?_ | refine blk_alloc ?_ _)); refine blk_put (cs := #[.string ((rd_T177 l0 x10_1).f0), .int .i64 ((rd_T177 l0 x10_1).f1), .int .i64 ((rd_T177 l0 x10_1).f2), .int .i64 0, .int .i64 0, .int .i64 0, .int .i64 0, .int .i64 0, .int .i64 0]) ?_ 3 _ rfl; (with_reducible repeat (first | refine blk_drewN ?_ _ | refine blk_drew ?_ | refine blk_alloc ?_ _)); refine blk_put (cs := #[.string ((rd_T177 l0 x10_1).f0), .int .i64 ((rd_T177 l0 x10_1).f1), .int .i64 0, .int .i64 0, .int .i64 0, .int .i64 0, .int .i64 0, .int .i64 0, .int .i64 0]) ?_ 2 _ rfl; (with_reducible repeat (first | refine blk_drewN ?_ _ | refine blk_drew ?_ | refine blk_alloc ?_ _)); refine blk_put (cs := #[.string ((rd_T177 l0 x10_1).f0), .int .i64 0, .int .i64 0, .int .i64 0, .int .i64 0, .int .i64 0, .int .i64 0, .int .i64 0, .int .i64 0]) ?_ 1 _ rfl; (with_reducible repeat (first | refine blk_drewN ?_ _ | refine blk_drew ?_ | refine blk_alloc ?_ _)); refine blk_put (cs := #[.string (⟨#[]⟩ : ByteArray), .int .i64 0, .int .i64 0, .int .i64 0, .int .i64 0, .int .i64 0, .int .i64 0, .int .i64 0, .int .i64 0]) ?_ 0 _ rfl; (with_reducible repeat (first | refine blk_drewN ?_ _ | refine blk_drew ?_ | refine blk_alloc ?_ _)); exact BK215.out⟩
        have n1_ : Aside0 (Below w.heap.size w (((((((((w18.setCell ⟨gb215, 0, none⟩ (.string ((rd_T177 l0 x10_1).f0))).setCell ⟨gb215, 1, none⟩ (.int .i64 ((rd_T177 l0 x10_1).f1))).setCell ⟨gb215, 2, none⟩ (.int .i64 ((rd_T177 l0 x10_1).f2))).setCell ⟨gb215, 3, none⟩ (.int .i64 ((rd_T177 l0 x10_1).f3))).setCell ⟨gb215, 4, none⟩ (.int .i64 ((rd_T177 l0 x10_1).f4))).setCell ⟨gb215, 5, none⟩ (.int .i64 ((rd_T177 l0 x10_1).f5))).setCell ⟨gb215, 6, none⟩ (.int .i64 ((rd_T177 l0 x10_1).f6))).setCell ⟨gb215, 7, none⟩ (.int .i64 ((rd_T177 l0 x10_1).f7))).setCell ⟨gb215, 8, none⟩ (.int .i64 ((rd_T177 l0 x10_1).f8)))) := ⟨r0_ HB.out GE215.out⟩
        (try clear BK215)
        (try clear HB)
        generalize (((((((((w18.setCell ⟨gb215, 0, none⟩ (.string ((rd_T177 l0 x10_1).f0))).setCell ⟨gb215, 1, none⟩ (.int .i64 ((rd_T177 l0 x10_1).f1))).setCell ⟨gb215, 2, none⟩ (.int .i64 ((rd_T177 l0 x10_1).f2))).setCell ⟨gb215, 3, none⟩ (.int .i64 ((rd_T177 l0 x10_1).f3))).setCell ⟨gb215, 4, none⟩ (.int .i64 ((rd_T177 l0 x10_1).f4))).setCell ⟨gb215, 5, none⟩ (.int .i64 ((rd_T177 l0 x10_1).f5))).setCell ⟨gb215, 6, none⟩ (.int .i64 ((rd_T177 l0 x10_1).f6))).setCell ⟨gb215, 7, none⟩ (.int .i64 ((rd_T177 l0 x10_1).f7))).setCell ⟨gb215, 8, none⟩ (.int .i64 ((rd_T177 l0 x10_1).f8))) = w20 at n0_ n1_ ⊢
        have BK215 := n0_
        have HB := n1_
        clear n0_ n1_
        replace BK215 := Aside0.mk (blk_drew BK215.out)
        replace HB := Aside0.mk (below_drew1 HB.out)
        have p217 : 0 ≤ ((ji9) : Int) := od_
        have q217 : (ji9) < (l0.length : Int) := od_
        obtain ⟨ad217, e217, hx217_0, hx217_1, hx217_2, hx217_3, hx217_4, hx217_5, hx217_6, hx217_7, hx217_8⟩ := at_T177 HR0.out (ji9) p217 q217
        have hw217_8 := hx217_8
        have hw217_7 := hx217_7
        have hw217_6 := hx217_6
        have hw217_5 := hx217_5
        have hw217_4 := hx217_4
        have hw217_3 := hx217_3
        have hw217_2 := hx217_2
        have hw217_1 := hx217_1
        have hw217_0 := hx217_0
        obtain rfl : ad214 = ad217 := (by injection e217)
        replace hx217_0 := bc_ HB.out hx217_0
        replace hx217_1 := bc_ HB.out hx217_1
        replace hx217_2 := bc_ HB.out hx217_2
        replace hx217_3 := bc_ HB.out hx217_3
        replace hx217_4 := bc_ HB.out hx217_4
        replace hx217_5 := bc_ HB.out hx217_5
        replace hx217_6 := bc_ HB.out hx217_6
        replace hx217_7 := bc_ HB.out hx217_7
        replace hx217_8 := bc_ HB.out hx217_8
        replace p217 := eq_true p217
        replace q217 := eq_true q217
        refine start_ (n := 18) (S := fun w' => w'.cell? ⟨gb215, 0, none⟩ = some (.string ((rd_T177 l0 x10_1).f0)) ∧ w'.cell? ⟨gb215, 1, none⟩ = some (.int .i64 ((rd_T177 l0 x10_1).f1)) ∧ w'.cell? ⟨gb215, 2, none⟩ = some (.int .i64 ((rd_T177 l0 x10_1).f2)) ∧ w'.cell? ⟨gb215, 3, none⟩ = some (.int .i64 ((rd_T177 l0 x10_1).f3)) ∧ w'.cell? ⟨gb215, 4, none⟩ = some (.int .i64 ((rd_T177 l0 x10_1).f4)) ∧ w'.cell? ⟨gb215, 5, none⟩ = some (.int .i64 ((rd_T177 l0 x10_1).f5)) ∧ w'.cell? ⟨gb215, 6, none⟩ = some (.int .i64 ((rd_T177 l0 x10_1).f6)) ∧ w'.cell? ⟨gb215, 7, none⟩ = some (.int .i64 ((rd_T177 l0 x10_1).f7)) ∧ w'.cell? ⟨gb215, 8, none⟩ = some (.int .i64 ((rd_T177 l0 x10_1).f8)) ∧ w'.cell? (ad214.add (((ji9)).toNat * 9)) = some (.string ((rd_T177 l0 (ji9)).f0)) ∧ w'.cell? ⟨(ad214.add (((ji9)).toNat * 9)).block, (ad214.add (((ji9)).toNat * 9)).off + 1, none⟩ = some (.int .i64 ((rd_T177 l0 (ji9)).f1)) ∧ w'.cell? ⟨(ad214.add (((ji9)).toNat * 9)).block, (ad214.add (((ji9)).toNat * 9)).off + 2, none⟩ = some (.int .i64 ((rd_T177 l0 (ji9)).f2)) ∧ w'.cell? ⟨(ad214.add (((ji9)).toNat * 9)).block, (ad214.add (((ji9)).toNat * 9)).off + 3, none⟩ = some (.int .i64 ((rd_T177 l0 (ji9)).f3)) ∧ w'.cell? ⟨(ad214.add (((ji9)).toNat * 9)).block, (ad214.add (((ji9)).toNat * 9)).off + 4, none⟩ = some (.int .i64 ((rd_T177 l0 (ji9)).f4)) ∧ w'.cell? ⟨(ad214.add (((ji9)).toNat * 9)).block, (ad214.add (((ji9)).toNat * 9)).off + 5, none⟩ = some (.int .i64 ((rd_T177 l0 (ji9)).f5)) ∧ w'.cell? ⟨(ad214.add (((ji9)).toNat * 9)).block, (ad214.add (((ji9)).toNat * 9)).off + 6, none⟩ = some (.int .i64 ((rd_T177 l0 (ji9)).f6)) ∧ w'.cell? ⟨(ad214.add (((ji9)).toNat * 9)).block, (ad214.add (((ji9)).toNat * 9)).off + 7, none⟩ = some (.int .i64 ((rd_T177 l0 (ji9)).f7)) ∧ w'.cell? ⟨(ad214.add (((ji9)).toNat * 9)).block, (ad214.add (((ji9)).toNat * 9)).off + 8, none⟩ = some (.int .i64 ((rd_T177 l0 (ji9)).f8))) (ds := []) #[f_,f_,f_,f_,f_,f_,f_,f_,f_,f_,f_,f_,f_,f_,f_,f_,f_,f_] (by kernel_rfl) rfl rfl ⟨(blk_cell BK215.out 0).trans rfl, (blk_cell BK215.out 1).trans rfl, (blk_cell BK215.out 2).trans rfl, (blk_cell BK215.out 3).trans rfl, (blk_cell BK215.out 4).trans rfl, (blk_cell BK215.out 5).trans rfl, (blk_cell BK215.out 6).trans rfl, (blk_cell BK215.out 7).trans rfl, (blk_cell BK215.out 8).trans rfl, (bc_ HB.out hw217_0 :), (bc_ HB.out hw217_1 :), (bc_ HB.out hw217_2 :), (bc_ HB.out hw217_3 :), (bc_ HB.out hw217_4 :), (bc_ HB.out hw217_5 :), (bc_ HB.out hw217_6 :), (bc_ HB.out hw217_7 :), (bc_ HB.out hw217_8 :)⟩ (fun hHeld => ?_); refine with_tabW impl_AreArticles.tab6 impl_AreArticles.bits6 (fun HT_ HW_ => ?_)
        generalize w20.drew = w21 at BK215 HB hx217_0 hx217_1 hx217_2 hx217_3 hx217_4 hx217_5 hx217_6 hx217_7 hx217_8 hHeld ⊢
        refine take_ (i := 0) (N := some 15) (v := ?_) (a' := ?_) #[t_,f_,f_,f_,f_,f_,f_,f_,f_,f_,f_,f_,f_,f_,f_,f_,f_,f_] rfl rfl (take_ofW HT_.out HW_.out (by kernel_rfl)) (fun _ _ _ h => h) (Or.inl ⟨by rfl, ?_⟩) hHeld ?_ ?_
        rotate_left
        ·rintro w' ⟨s0, s1, s2, s3, s4, s5, s6, s7, s8, s9, s10, s11, s12, s13, s14, s15, s16, s17⟩
         go_simp
         with_reducible rfl
        rotate_left
        ·simp only [pz_]
         rfl
        refine one_ (i := 1) (N := some 16) #[t_,t_,f_,f_,f_,f_,f_,f_,f_,f_,f_,f_,f_,f_,f_,f_,f_,f_] rfl rfl (one_of HT_.out (by kernel_rfl)) (by decide) (fun K hK => ?_)
        refine goes_ Try.func194 (by kernel_rfl) rfl #[.agg #[.string ((rd_T177 l0 x10_1).f0), .int .i64 ((rd_T177 l0 x10_1).f1), .int .i64 ((rd_T177 l0 x10_1).f2), .int .i64 ((rd_T177 l0 x10_1).f3), .int .i64 ((rd_T177 l0 x10_1).f4), .int .i64 ((rd_T177 l0 x10_1).f5), .int .i64 ((rd_T177 l0 x10_1).f6), .int .i64 ((rd_T177 l0 x10_1).f7), .int .i64 ((rd_T177 l0 x10_1).f8)]] (by rfl) rfl rfl ag_ ?_
        with_reducible refine (impl_IsArticle.calls k1 ((rd_T177 l0 x10_1).f0) ((rd_T177 l0 x10_1).f1) ((rd_T177 l0 x10_1).f2) ((rd_T177 l0 x10_1).f3) ((rd_T177 l0 x10_1).f4) ((rd_T177 l0 x10_1).f5) ((rd_T177 l0 x10_1).f6) ((rd_T177 l0 x10_1).f7) ((rd_T177 l0 x10_1).f8) true _ A6.out).mono ?_
        rintro e w22 ⟨rfl, hb⟩
        refine ⟨_, rfl, ?_⟩
        replace BK215 := Aside0.mk (blk_below (g := gb215) (o := .cells #[.string ((rd_T177 l0 x10_1).f0), .int .i64 ((rd_T177 l0 x10_1).f1), .int .i64 ((rd_T177 l0 x10_1).f2), .int .i64 ((rd_T177 l0 x10_1).f3), .int .i64 ((rd_T177 l0 x10_1).f4), .int .i64 ((rd_T177 l0 x10_1).f5), .int .i64 ((rd_T177 l0 x10_1).f6), .int .i64 ((rd_T177 l0 x10_1).f7), .int .i64 ((rd_T177 l0 x10_1).f8)] 177 (0, 0)) (r1_ BK215.out) hb)
        replace HB := Aside0.mk (below_step (r0_ HB.out GE215.out) hb)
        (try clear hb)
        (try clear hb2)
        (try clear hk)
        (try clear hi)
        refine hK.out _ _ ⟨(blk_cell BK215.out 0).trans rfl, (blk_cell BK215.out 1).trans rfl, (blk_cell BK215.out 2).trans rfl, (blk_cell BK215.out 3).trans rfl, (blk_cell BK215.out 4).trans rfl, (blk_cell BK215.out 5).trans rfl, (blk_cell BK215.out 6).trans rfl, (blk_cell BK215.out 7).trans rfl, (blk_cell BK215.out 8).trans rfl, (bc_ HB.out hw217_0 :), (bc_ HB.out hw217_1 :), (bc_ HB.out hw217_2 :), (bc_ HB.out hw217_3 :), (bc_ HB.out hw217_4 :), (bc_ HB.out hw217_5 :), (bc_ HB.out hw217_6 :), (bc_ HB.out hw217_7 :), (bc_ HB.out hw217_8 :)⟩ (fun hHeld => ?_)
        clear hK K
        refine norm_ (a' := ?_) ?_ ?_
        rotate_left
        ·show Act.put _ (some 16) _ = _
         simp only [pz_]
         rfl
        refine pu_ 2 17 #[t_,t_,t_,f_,f_,f_,f_,f_,f_,f_,f_,f_,f_,f_,f_,f_,f_,f_] HT_.out ?_
        refine pu_ 3 18 #[t_,t_,t_,t_,f_,f_,f_,f_,f_,f_,f_,f_,f_,f_,f_,f_,f_,f_] HT_.out ?_
        refine pu_ 4 19 #[t_,t_,t_,t_,t_,f_,f_,f_,f_,f_,f_,f_,f_,f_,f_,f_,f_,f_] HT_.out ?_
        refine pu_ 5 20 #[t_,t_,t_,t_,t_,t_,f_,f_,f_,f_,f_,f_,f_,f_,f_,f_,f_,f_] HT_.out ?_
        refine pu_ 6 21 #[t_,t_,t_,t_,t_,t_,t_,f_,f_,f_,f_,f_,f_,f_,f_,f_,f_,f_] HT_.out ?_
        refine pu_ 7 22 #[t_,t_,t_,t_,t_,t_,t_,t_,f_,f_,f_,f_,f_,f_,f_,f_,f_,f_] HT_.out ?_
        refine pu_ 8 23 #[t_,t_,t_,t_,t_,t_,t_,t_,t_,f_,f_,f_,f_,f_,f_,f_,f_,f_] HT_.out ?_
        refine pu_ 9 24 #[t_,t_,t_,t_,t_,t_,t_,t_,t_,t_,f_,f_,f_,f_,f_,f_,f_,f_] HT_.out ?_
        refine pu_ 10 25 #[t_,t_,t_,t_,t_,t_,t_,t_,t_,t_,t_,f_,f_,f_,f_,f_,f_,f_] HT_.out ?_
        refine pu_ 11 26 #[t_,t_,t_,t_,t_,t_,t_,t_,t_,t_,t_,t_,f_,f_,f_,f_,f_,f_] HT_.out ?_
        refine pu_ 13 28 #[t_,t_,t_,t_,t_,t_,t_,t_,t_,t_,t_,t_,f_,t_,f_,f_,f_,f_] HT_.out ?_
        refine take_ (i := 12) (N := some 27) (v := ?_) (a' := ?_) #[t_,t_,t_,t_,t_,t_,t_,t_,t_,t_,t_,t_,t_,t_,f_,f_,f_,f_] rfl rfl (take_ofW HT_.out HW_.out (by kernel_rfl)) (fun _ _ _ h => h) (Or.inl ⟨by rfl, ?_⟩) hHeld ?_ ?_
        rotate_left
        ·rintro w' ⟨s0, s1, s2, s3, s4, s5, s6, s7, s8, s9, s10, s11, s12, s13, s14, s15, s16, s17⟩
         go_simp
         with_reducible rfl
        rotate_left
        ·simp only [pz_]
         rfl
        refine take_ (i := 14) (N := some 29) (v := ?_) (a' := ?_) #[t_,t_,t_,t_,t_,t_,t_,t_,t_,t_,t_,t_,t_,t_,t_,f_,f_,f_] rfl rfl (take_ofW HT_.out HW_.out (by kernel_rfl)) (fun _ _ _ h => h) (Or.inl ⟨by rfl, ?_⟩) hHeld ?_ ?_
        rotate_left
        ·rintro w' ⟨s0, s1, s2, s3, s4, s5, s6, s7, s8, s9, s10, s11, s12, s13, s14, s15, s16, s17⟩
         go_simp
         with_reducible rfl
        rotate_left
        ·simp only [pz_]
         rfl
        refine pu_ 15 30 #[t_,t_,t_,t_,t_,t_,t_,t_,t_,t_,t_,t_,t_,t_,t_,t_,f_,f_] HT_.out ?_
        refine pu_ 16 31 #[t_,t_,t_,t_,t_,t_,t_,t_,t_,t_,t_,t_,t_,t_,t_,t_,t_,f_] HT_.out ?_
        refine pu_ 17 32 #[t_,t_,t_,t_,t_,t_,t_,t_,t_,t_,t_,t_,t_,t_,t_,t_,t_,t_] HT_.out ?_
        refine done_ (done_of HT_.out (by kernel_rfl)) ?_
        try go_wp2
        go_ret
        exact ⟨by first | rfl | (simp [errW_none, errW_some] <;> rfl) | (simp only [← hji9]; first | rfl | (simp [errW_none, errW_some] <;> rfl)) | (simp [*, errW_none, errW_some] <;> rfl), r0_ HB.out GE215.out⟩
      ·rw [if_neg c8] at H
       have c8b0 : decide (0 < x10_1) = false := decide_eq_false c8
       clear c8
       have H' := Aside0.mk H
       clear H
       have p214 : 0 ≤ (x10_1 : Int) := od_
       have q214 : x10_1 < (l0.length : Int) := od_
       obtain ⟨ad214, e214, hx214_0, hx214_1, hx214_2, hx214_3, hx214_4, hx214_5, hx214_6, hx214_7, hx214_8⟩ := at_T177 HR0.out x10_1 p214 q214
       cases e214
       replace hx214_0 := bc_ HB.out hx214_0
       replace hx214_1 := bc_ HB.out hx214_1
       replace hx214_2 := bc_ HB.out hx214_2
       replace hx214_3 := bc_ HB.out hx214_3
       replace hx214_4 := bc_ HB.out hx214_4
       replace hx214_5 := bc_ HB.out hx214_5
       replace hx214_6 := bc_ HB.out hx214_6
       replace hx214_7 := bc_ HB.out hx214_7
       replace hx214_8 := bc_ HB.out hx214_8
       replace p214 := eq_true p214
       replace q214 := eq_true q214
       try go_wp2_with (first | ((with_reducible refine gate_dst (N := 4) rfl ?_); refine box_event ?hg (N := 4) ?hd (cs := #[.string (⟨#[]⟩ : ByteArray), .int .i64 0, .int .i64 0, .int .i64 0, .int .i64 0, .int .i64 0, .int .i64 0, .int .i64 0, .int .i64 0]) (t := 177) ?hr ?_; (case hd => rfl); (case hg => rfl); (case hr => first | (go_simp; done) | (go_simp; rfl)); intro gb215 hg w23 hbox hb; have BK215 := Aside0.mk (hbox); have GW215 := Aside0.mk ((by rw [hg]; exact (below_size (bl_ HB.out)) : w.heap.size ≤ gb215)); have GE215 := Aside0.mk ((by rw [hg]; exact (below_size (bl_ HB.out)) : w.heap.size ≤ gb215)); replace HB := Aside0.mk (below_step (bl_ HB.out) hb); clear hb hbox hg; have hcz24_0 : w23.cell? ⟨gb215, 0, none⟩ = some (.string (⟨#[]⟩ : ByteArray)) := (blk_cell BK215.out 0).trans rfl; have hcz24_1 : w23.cell? ⟨gb215, 1, none⟩ = some (.int .i64 0) := (blk_cell BK215.out 1).trans rfl; have hcz24_2 : w23.cell? ⟨gb215, 2, none⟩ = some (.int .i64 0) := (blk_cell BK215.out 2).trans rfl; have hcz24_3 : w23.cell? ⟨gb215, 3, none⟩ = some (.int .i64 0) := (blk_cell BK215.out 3).trans rfl; have hcz24_4 : w23.cell? ⟨gb215, 4, none⟩ = some (.int .i64 0) := (blk_cell BK215.out 4).trans rfl; have hcz24_5 : w23.cell? ⟨gb215, 5, none⟩ = some (.int .i64 0) := (blk_cell BK215.out 5).trans rfl; have hcz24_6 : w23.cell? ⟨gb215, 6, none⟩ = some (.int .i64 0) := (blk_cell BK215.out 6).trans rfl; have hcz24_7 : w23.cell? ⟨gb215, 7, none⟩ = some (.int .i64 0) := (blk_cell BK215.out 7).trans rfl; have hcz24_8 : w23.cell? ⟨gb215, 8, none⟩ = some (.int .i64 0) := (blk_cell BK215.out 8).trans rfl; have hfz24_0 := blk_frozen BK215.out 0; have hfz24_1 := blk_frozen BK215.out 1; have hfz24_2 := blk_frozen BK215.out 2; have hfz24_3 := blk_frozen BK215.out 3; have hfz24_4 := blk_frozen BK215.out 4; have hfz24_5 := blk_frozen BK215.out 5; have hfz24_6 := blk_frozen BK215.out 6; have hfz24_7 := blk_frozen BK215.out 7; have hfz24_8 := blk_frozen BK215.out 8))
       have n0_ : Aside0 ((((((((((w23.setCell ⟨gb215, 0, none⟩ (.string ((rd_T177 l0 x10_1).f0))).setCell ⟨gb215, 1, none⟩ (.int .i64 ((rd_T177 l0 x10_1).f1))).setCell ⟨gb215, 2, none⟩ (.int .i64 ((rd_T177 l0 x10_1).f2))).setCell ⟨gb215, 3, none⟩ (.int .i64 ((rd_T177 l0 x10_1).f3))).setCell ⟨gb215, 4, none⟩ (.int .i64 ((rd_T177 l0 x10_1).f4))).setCell ⟨gb215, 5, none⟩ (.int .i64 ((rd_T177 l0 x10_1).f5))).setCell ⟨gb215, 6, none⟩ (.int .i64 ((rd_T177 l0 x10_1).f6))).setCell ⟨gb215, 7, none⟩ (.int .i64 ((rd_T177 l0 x10_1).f7))).setCell ⟨gb215, 8, none⟩ (.int .i64 ((rd_T177 l0 x10_1).f8))).heap[gb215]? = some (.cells #[.string ((rd_T177 l0 x10_1).f0), .int .i64 ((rd_T177 l0 x10_1).f1), .int .i64 ((rd_T177 l0 x10_1).f2), .int .i64 ((rd_T177 l0 x10_1).f3), .int .i64 ((rd_T177 l0 x10_1).f4), .int .i64 ((rd_T177 l0 x10_1).f5), .int .i64 ((rd_T177 l0 x10_1).f6), .int .i64 ((rd_T177 l0 x10_1).f7), .int .i64 ((rd_T177 l0 x10_1).f8)] 177 (0, 0))) := ⟨by (with_reducible repeat (first | refine blk_drewN ?_ _ | refine blk_drew ?_ | refine blk_alloc ?_ _)); refine blk_put (cs := #[.string ((rd_T177 l0 x10_1).f0), .int .i64 ((rd_T177 l0 x10_1).f1), .int .i64 ((rd_T177 l0 x10_1).f2), .int .i64 ((rd_T177 l0 x10_1).f3), .int .i64 ((rd_T177 l0 x10_1).f4), .int .i64 ((rd_T177 l0 x10_1).f5), .int .i64 ((rd_T177 l0 x10_1).f6), .int .i64 ((rd_T177 l0 x10_1).f7), .int .i64 0]) ?_ 8 _ rfl; (with_reducible repeat (first | refine blk_drewN ?_ _ | refine blk_drew ?_ | refine blk_alloc ?_ _)); refine blk_put (cs := #[.string ((rd_T177 l0 x10_1).f0), .int .i64 ((rd_T177 l0 x10_1).f1), .int .i64 ((rd_T177 l0 x10_1).f2), .int .i64 ((rd_T177 l0 x10_1).f3), .int .i64 ((rd_T177 l0 x10_1).f4), .int .i64 ((rd_T177 l0 x10_1).f5), .int .i64 ((rd_T177 l0 x10_1).f6), .int .i64 0, .int .i64 0]) ?_ 7 _ rfl; (with_reducible repeat (first | refine blk_drewN ?_ _ | refine blk_drew ?_ | refine blk_alloc ?_ _)); refine blk_put (cs := #[.string ((rd_T177 l0 x10_1).f0), .int .i64 ((rd_T177 l0 x10_1).f1), .int .i64 ((rd_T177 l0 x10_1).f2), .int .i64 ((rd_T177 l0 x10_1).f3), .int .i64 ((rd_T177 l0 x10_1).f4), .int .i64 ((rd_T177 l0 x10_1).f5), .int .i64 0, .int .i64 0, .int .i64 0]) ?_ 6 _ rfl; (with_reducible repeat (first | refine blk_drewN ?_ _ | refine blk_drew ?_ | refine blk_alloc ?_ _)); refine blk_put (cs := #[.string ((rd_T177 l0 x10_1).f0), .int .i64 ((rd_T177 l0 x10_1).f1), .int .i64 ((rd_T177 l0 x10_1).f2), .int .i64 ((rd_T177 l0 x10_1).f3), .int .i64 ((rd_T177 l0 x10_1).f4), .int .i64 0, .int .i64 0, .int .i64 0, .int .i64 0]) ?_ 5 _ rfl; (with_reducible repeat (first | refine blk_drewN ?_ _ | refine blk_drew ?_ | refine blk_alloc ?_ _)); refine blk_put (cs := #[.string ((rd_T177 l0 x10_1).f0), .int .i64 ((rd_T177 l0 x10_1).f1), .int .i64 ((rd_T177 l0 x10_1).f2), .int .i64 ((rd_T177 l0 x10_1).f3), .int .i64 0, .int .i64 0, .int .i64 0, .int .i64 0, .int .i64 0]) ?_ 4 _ rfl; (with_reducible repeat (first | refine blk_drewN ?_ _ | refine blk_drew ?_ | refine blk_alloc ?_ _)); refine blk_put (cs := #[.string ((rd_T177 l0 x10_1).f0), .int .i64 ((rd_T177 l0 x10_1).f1), .int .i64 ((rd_T177 l0 x10_1).f2), .int .i64 0, .int .i64 0, .int .i64 0, .int .i64 0, .int .i64 0, .int .i64 0]) ?_ 3 _ rfl; (with_reducible repeat (first | refine blk_drewN ?_ _ | refine blk_drew ?_ | refine blk_alloc ?_ _)); refine blk_put (cs := #[.string ((rd_T177 l0 x10_1).f0), .int .i64 ((rd_T177 l0 x10_1).f1), .int .i64 0, .int .i64 0, .int .i64 0, .int .i64 0, .int .i64 0, .int .i64 0, .int .i64 0]) ?_ 2 _ rfl; (with_reducible repeat (first | refine blk_drewN ?_ _ | refine blk_drew ?_ | refine blk_alloc ?_ _)); refine blk_put (cs := #[.string ((rd_T177 l0 x10_1).f0), .int .i64 0, .int .i64 0, .int .i64 0, .int .i64 0, .int .i64 0, .int .i64 0, .int .i64 0, .int .i64 0]) ?_ 1 _ rfl; (with_reducible repeat (first | refine blk_drewN ?_ _ | refine blk_drew ?_ | refine blk_alloc ?_ _)); refine blk_put (cs := #[.string (⟨#[]⟩ : ByteArray), .int .i64 0, .int .i64 0, .int .i64 0, .int .i64 0, .int .i64 0, .int .i64 0, .int .i64 0, .int .i64 0]) ?_ 0 _ rfl; (with_reducible repeat (first | refine blk_drewN ?_ _ | refine blk_drew ?_ | refine blk_alloc ?_ _)); exact BK215.out⟩
       have n1_ : Aside0 (Below w.heap.size w (((((((((w23.setCell ⟨gb215, 0, none⟩ (.string ((rd_T177 l0 x10_1).f0))).setCell ⟨gb215, 1, none⟩ (.int .i64 ((rd_T177 l0 x10_1).f1))).setCell ⟨gb215, 2, none⟩ (.int .i64 ((rd_T177 l0 x10_1).f2))).setCell ⟨gb215, 3, none⟩ (.int .i64 ((rd_T177 l0 x10_1).f3))).setCell ⟨gb215, 4, none⟩ (.int .i64 ((rd_T177 l0 x10_1).f4))).setCell ⟨gb215, 5, none⟩ (.int .i64 ((rd_T177 l0 x10_1).f5))).setCell ⟨gb215, 6, none⟩ (.int .i64 ((rd_T177 l0 x10_1).f6))).setCell ⟨gb215, 7, none⟩ (.int .i64 ((rd_T177 l0 x10_1).f7))).setCell ⟨gb215, 8, none⟩ (.int .i64 ((rd_T177 l0 x10_1).f8)))) := ⟨r0_ HB.out GE215.out⟩
       (try clear BK215)
       (try clear HB)
       generalize (((((((((w23.setCell ⟨gb215, 0, none⟩ (.string ((rd_T177 l0 x10_1).f0))).setCell ⟨gb215, 1, none⟩ (.int .i64 ((rd_T177 l0 x10_1).f1))).setCell ⟨gb215, 2, none⟩ (.int .i64 ((rd_T177 l0 x10_1).f2))).setCell ⟨gb215, 3, none⟩ (.int .i64 ((rd_T177 l0 x10_1).f3))).setCell ⟨gb215, 4, none⟩ (.int .i64 ((rd_T177 l0 x10_1).f4))).setCell ⟨gb215, 5, none⟩ (.int .i64 ((rd_T177 l0 x10_1).f5))).setCell ⟨gb215, 6, none⟩ (.int .i64 ((rd_T177 l0 x10_1).f6))).setCell ⟨gb215, 7, none⟩ (.int .i64 ((rd_T177 l0 x10_1).f7))).setCell ⟨gb215, 8, none⟩ (.int .i64 ((rd_T177 l0 x10_1).f8))) = w25 at n0_ n1_ ⊢
       have BK215 := n0_
       have HB := n1_
       clear n0_ n1_
       replace BK215 := Aside0.mk (blk_drew BK215.out)
       replace HB := Aside0.mk (below_drew1 HB.out)
       refine start_ (n := 18) (S := fun w' => w'.cell? ⟨gb215, 0, none⟩ = some (.string ((rd_T177 l0 x10_1).f0)) ∧ w'.cell? ⟨gb215, 1, none⟩ = some (.int .i64 ((rd_T177 l0 x10_1).f1)) ∧ w'.cell? ⟨gb215, 2, none⟩ = some (.int .i64 ((rd_T177 l0 x10_1).f2)) ∧ w'.cell? ⟨gb215, 3, none⟩ = some (.int .i64 ((rd_T177 l0 x10_1).f3)) ∧ w'.cell? ⟨gb215, 4, none⟩ = some (.int .i64 ((rd_T177 l0 x10_1).f4)) ∧ w'.cell? ⟨gb215, 5, none⟩ = some (.int .i64 ((rd_T177 l0 x10_1).f5)) ∧ w'.cell? ⟨gb215, 6, none⟩ = some (.int .i64 ((rd_T177 l0 x10_1).f6)) ∧ w'.cell? ⟨gb215, 7, none⟩ = some (.int .i64 ((rd_T177 l0 x10_1).f7)) ∧ w'.cell? ⟨gb215, 8, none⟩ = some (.int .i64 ((rd_T177 l0 x10_1).f8))) (ds := []) #[f_,f_,f_,f_,f_,f_,f_,f_,f_,f_,f_,f_,f_,f_,f_,f_,f_,f_] (by kernel_rfl) rfl rfl ⟨(blk_cell BK215.out 0).trans rfl, (blk_cell BK215.out 1).trans rfl, (blk_cell BK215.out 2).trans rfl, (blk_cell BK215.out 3).trans rfl, (blk_cell BK215.out 4).trans rfl, (blk_cell BK215.out 5).trans rfl, (blk_cell BK215.out 6).trans rfl, (blk_cell BK215.out 7).trans rfl, (blk_cell BK215.out 8).trans rfl⟩ (fun hHeld => ?_); refine with_tabW impl_AreArticles.tab6 impl_AreArticles.bits6 (fun HT_ HW_ => ?_)
       generalize w25.drew = w26 at BK215 HB hHeld ⊢
       refine take_ (i := 0) (N := some 15) (v := ?_) (a' := ?_) #[t_,f_,f_,f_,f_,f_,f_,f_,f_,f_,f_,f_,f_,f_,f_,f_,f_,f_] rfl rfl (take_ofW HT_.out HW_.out (by kernel_rfl)) (fun _ _ _ h => h) (Or.inl ⟨by rfl, ?_⟩) hHeld ?_ ?_
       rotate_left
       ·rintro w' ⟨s0, s1, s2, s3, s4, s5, s6, s7, s8⟩
        go_simp
        with_reducible rfl
       rotate_left
       ·simp only [pz_]
        rfl
       refine one_ (i := 1) (N := some 16) #[t_,t_,f_,f_,f_,f_,f_,f_,f_,f_,f_,f_,f_,f_,f_,f_,f_,f_] rfl rfl (one_of HT_.out (by kernel_rfl)) (by decide) (fun K hK => ?_)
       refine goes_ Try.func194 (by kernel_rfl) rfl #[.agg #[.string ((rd_T177 l0 x10_1).f0), .int .i64 ((rd_T177 l0 x10_1).f1), .int .i64 ((rd_T177 l0 x10_1).f2), .int .i64 ((rd_T177 l0 x10_1).f3), .int .i64 ((rd_T177 l0 x10_1).f4), .int .i64 ((rd_T177 l0 x10_1).f5), .int .i64 ((rd_T177 l0 x10_1).f6), .int .i64 ((rd_T177 l0 x10_1).f7), .int .i64 ((rd_T177 l0 x10_1).f8)]] (by rfl) rfl rfl ag_ ?_
       with_reducible refine (impl_IsArticle.calls k1 ((rd_T177 l0 x10_1).f0) ((rd_T177 l0 x10_1).f1) ((rd_T177 l0 x10_1).f2) ((rd_T177 l0 x10_1).f3) ((rd_T177 l0 x10_1).f4) ((rd_T177 l0 x10_1).f5) ((rd_T177 l0 x10_1).f6) ((rd_T177 l0 x10_1).f7) ((rd_T177 l0 x10_1).f8) true _ A6.out).mono ?_
       rintro e w27 ⟨rfl, hb⟩
       refine ⟨_, rfl, ?_⟩
       replace BK215 := Aside0.mk (blk_below (g := gb215) (o := .cells #[.string ((rd_T177 l0 x10_1).f0), .int .i64 ((rd_T177 l0 x10_1).f1), .int .i64 ((rd_T177 l0 x10_1).f2), .int .i64 ((rd_T177 l0 x10_1).f3), .int .i64 ((rd_T177 l0 x10_1).f4), .int .i64 ((rd_T177 l0 x10_1).f5), .int .i64 ((rd_T177 l0 x10_1).f6), .int .i64 ((rd_T177 l0 x10_1).f7), .int .i64 ((rd_T177 l0 x10_1).f8)] 177 (0, 0)) (r1_ BK215.out) hb)
       replace HB := Aside0.mk (below_step (r0_ HB.out GE215.out) hb)
       (try clear hb)
       (try clear hb2)
       (try clear hk)
       (try clear hi)
       refine hK.out _ _ ⟨(blk_cell BK215.out 0).trans rfl, (blk_cell BK215.out 1).trans rfl, (blk_cell BK215.out 2).trans rfl, (blk_cell BK215.out 3).trans rfl, (blk_cell BK215.out 4).trans rfl, (blk_cell BK215.out 5).trans rfl, (blk_cell BK215.out 6).trans rfl, (blk_cell BK215.out 7).trans rfl, (blk_cell BK215.out 8).trans rfl⟩ (fun hHeld => ?_)
       clear hK K
       refine norm_ (a' := ?_) ?_ ?_
       rotate_left
       ·show Act.put _ (some 16) _ = _
        simp only [pz_]
        rfl
       refine pu_ 2 17 #[t_,t_,t_,f_,f_,f_,f_,f_,f_,f_,f_,f_,f_,f_,f_,f_,f_,f_] HT_.out ?_
       refine pu_ 3 18 #[t_,t_,t_,t_,f_,f_,f_,f_,f_,f_,f_,f_,f_,f_,f_,f_,f_,f_] HT_.out ?_
       refine pu_ 4 19 #[t_,t_,t_,t_,t_,f_,f_,f_,f_,f_,f_,f_,f_,f_,f_,f_,f_,f_] HT_.out ?_
       refine pu_ 5 20 #[t_,t_,t_,t_,t_,t_,f_,f_,f_,f_,f_,f_,f_,f_,f_,f_,f_,f_] HT_.out ?_
       refine pu_ 6 21 #[t_,t_,t_,t_,t_,t_,t_,f_,f_,f_,f_,f_,f_,f_,f_,f_,f_,f_] HT_.out ?_
       refine un_ 7 22 #[t_,t_,t_,t_,t_,t_,t_,t_,f_,f_,f_,f_,f_,f_,f_,f_,f_,f_] HT_.out ?_
       refine un_ 8 23 #[t_,t_,t_,t_,t_,t_,t_,t_,t_,f_,f_,f_,f_,f_,f_,f_,f_,f_] HT_.out ?_
       refine un_ 9 24 #[t_,t_,t_,t_,t_,t_,t_,t_,t_,t_,f_,f_,f_,f_,f_,f_,f_,f_] HT_.out ?_
       refine un_ 10 25 #[t_,t_,t_,t_,t_,t_,t_,t_,t_,t_,t_,f_,f_,f_,f_,f_,f_,f_] HT_.out ?_
       refine un_ 11 26 #[t_,t_,t_,t_,t_,t_,t_,t_,t_,t_,t_,t_,f_,f_,f_,f_,f_,f_] HT_.out ?_
       refine un_ 12 27 #[t_,t_,t_,t_,t_,t_,t_,t_,t_,t_,t_,t_,t_,f_,f_,f_,f_,f_] HT_.out ?_
       refine un_ 13 28 #[t_,t_,t_,t_,t_,t_,t_,t_,t_,t_,t_,t_,t_,t_,f_,f_,f_,f_] HT_.out ?_
       refine un_ 14 29 #[t_,t_,t_,t_,t_,t_,t_,t_,t_,t_,t_,t_,t_,t_,t_,f_,f_,f_] HT_.out ?_
       refine un_ 15 30 #[t_,t_,t_,t_,t_,t_,t_,t_,t_,t_,t_,t_,t_,t_,t_,t_,f_,f_] HT_.out ?_
       refine pu_ 16 31 #[t_,t_,t_,t_,t_,t_,t_,t_,t_,t_,t_,t_,t_,t_,t_,t_,t_,f_] HT_.out ?_
       refine pu_ 17 32 #[t_,t_,t_,t_,t_,t_,t_,t_,t_,t_,t_,t_,t_,t_,t_,t_,t_,t_] HT_.out ?_
       refine done_ (done_of HT_.out (by kernel_rfl)) ?_
       try go_wp2
       go_roundg k1
       case measure => have := HK1.out; omega
       case rel => exact ⟨(wrap64 (x10_1 + 1)), (by first | rfl | (simp; done) | (simp [*]; done)), H', ⟨by have := HK1.out; omega⟩, ⟨r0_ HB.out GE215.out⟩⟩
     ·replace c7 := Bool.eq_false_iff.mpr c7
      subst c7
      replace H : (some false) = some r := by rw [if_neg (show ¬ (false = true) by decide)] at H; exact H
      obtain rfl := Option.some.inj H
      have p214 : 0 ≤ (x10_1 : Int) := od_
      have q214 : x10_1 < (l0.length : Int) := od_
      obtain ⟨ad214, e214, hx214_0, hx214_1, hx214_2, hx214_3, hx214_4, hx214_5, hx214_6, hx214_7, hx214_8⟩ := at_T177 HR0.out x10_1 p214 q214
      cases e214
      replace hx214_0 := bc_ HB.out hx214_0
      replace hx214_1 := bc_ HB.out hx214_1
      replace hx214_2 := bc_ HB.out hx214_2
      replace hx214_3 := bc_ HB.out hx214_3
      replace hx214_4 := bc_ HB.out hx214_4
      replace hx214_5 := bc_ HB.out hx214_5
      replace hx214_6 := bc_ HB.out hx214_6
      replace hx214_7 := bc_ HB.out hx214_7
      replace hx214_8 := bc_ HB.out hx214_8
      replace p214 := eq_true p214
      replace q214 := eq_true q214
      try go_wp2_with (first | ((with_reducible refine gate_dst (N := 4) rfl ?_); refine box_event ?hg (N := 4) ?hd (cs := #[.string (⟨#[]⟩ : ByteArray), .int .i64 0, .int .i64 0, .int .i64 0, .int .i64 0, .int .i64 0, .int .i64 0, .int .i64 0, .int .i64 0]) (t := 177) ?hr ?_; (case hd => rfl); (case hg => rfl); (case hr => first | (go_simp; done) | (go_simp; rfl)); intro gb215 hg w28 hbox hb; have BK215 := Aside0.mk (hbox); have GW215 := Aside0.mk ((by rw [hg]; exact (below_size (bl_ HB.out)) : w.heap.size ≤ gb215)); have GE215 := Aside0.mk ((by rw [hg]; exact (below_size (bl_ HB.out)) : w.heap.size ≤ gb215)); replace HB := Aside0.mk (below_step (bl_ HB.out) hb); clear hb hbox hg; have hcz29_0 : w28.cell? ⟨gb215, 0, none⟩ = some (.string (⟨#[]⟩ : ByteArray)) := (blk_cell BK215.out 0).trans rfl; have hcz29_1 : w28.cell? ⟨gb215, 1, none⟩ = some (.int .i64 0) := (blk_cell BK215.out 1).trans rfl; have hcz29_2 : w28.cell? ⟨gb215, 2, none⟩ = some (.int .i64 0) := (blk_cell BK215.out 2).trans rfl; have hcz29_3 : w28.cell? ⟨gb215, 3, none⟩ = some (.int .i64 0) := (blk_cell BK215.out 3).trans rfl; have hcz29_4 : w28.cell? ⟨gb215, 4, none⟩ = some (.int .i64 0) := (blk_cell BK215.out 4).trans rfl; have hcz29_5 : w28.cell? ⟨gb215, 5, none⟩ = some (.int .i64 0) := (blk_cell BK215.out 5).trans rfl; have hcz29_6 : w28.cell? ⟨gb215, 6, none⟩ = some (.int .i64 0) := (blk_cell BK215.out 6).trans rfl; have hcz29_7 : w28.cell? ⟨gb215, 7, none⟩ = some (.int .i64 0) := (blk_cell BK215.out 7).trans rfl; have hcz29_8 : w28.cell? ⟨gb215, 8, none⟩ = some (.int .i64 0) := (blk_cell BK215.out 8).trans rfl; have hfz29_0 := blk_frozen BK215.out 0; have hfz29_1 := blk_frozen BK215.out 1; have hfz29_2 := blk_frozen BK215.out 2; have hfz29_3 := blk_frozen BK215.out 3; have hfz29_4 := blk_frozen BK215.out 4; have hfz29_5 := blk_frozen BK215.out 5; have hfz29_6 := blk_frozen BK215.out 6; have hfz29_7 := blk_frozen BK215.out 7; have hfz29_8 := blk_frozen BK215.out 8))
      have n0_ : Aside0 ((((((((((w28.setCell ⟨gb215, 0, none⟩ (.string ((rd_T177 l0 x10_1).f0))).setCell ⟨gb215, 1, none⟩ (.int .i64 ((rd_T177 l0 x10_1).f1))).setCell ⟨gb215, 2, none⟩ (.int .i64 ((rd_T177 l0 x10_1).f2))).setCell ⟨gb215, 3, none⟩ (.int .i64 ((rd_T177 l0 x10_1).f3))).setCell ⟨gb215, 4, none⟩ (.int .i64 ((rd_T177 l0 x10_1).f4))).setCell ⟨gb215, 5, none⟩ (.int .i64 ((rd_T177 l0 x10_1).f5))).setCell ⟨gb215, 6, none⟩ (.int .i64 ((rd_T177 l0 x10_1).f6))).setCell ⟨gb215, 7, none⟩ (.int .i64 ((rd_T177 l0 x10_1).f7))).setCell ⟨gb215, 8, none⟩ (.int .i64 ((rd_T177 l0 x10_1).f8))).heap[gb215]? = some (.cells #[.string ((rd_T177 l0 x10_1).f0), .int .i64 ((rd_T177 l0 x10_1).f1), .int .i64 ((rd_T177 l0 x10_1).f2), .int .i64 ((rd_T177 l0 x10_1).f3), .int .i64 ((rd_T177 l0 x10_1).f4), .int .i64 ((rd_T177 l0 x10_1).f5), .int .i64 ((rd_T177 l0 x10_1).f6), .int .i64 ((rd_T177 l0 x10_1).f7), .int .i64 ((rd_T177 l0 x10_1).f8)] 177 (0, 0))) := ⟨by (with_reducible repeat (first | refine blk_drewN ?_ _ | refine blk_drew ?_ | refine blk_alloc ?_ _)); refine blk_put (cs := #[.string ((rd_T177 l0 x10_1).f0), .int .i64 ((rd_T177 l0 x10_1).f1), .int .i64 ((rd_T177 l0 x10_1).f2), .int .i64 ((rd_T177 l0 x10_1).f3), .int .i64 ((rd_T177 l0 x10_1).f4), .int .i64 ((rd_T177 l0 x10_1).f5), .int .i64 ((rd_T177 l0 x10_1).f6), .int .i64 ((rd_T177 l0 x10_1).f7), .int .i64 0]) ?_ 8 _ rfl; (with_reducible repeat (first | refine blk_drewN ?_ _ | refine blk_drew ?_ | refine blk_alloc ?_ _)); refine blk_put (cs := #[.string ((rd_T177 l0 x10_1).f0), .int .i64 ((rd_T177 l0 x10_1).f1), .int .i64 ((rd_T177 l0 x10_1).f2), .int .i64 ((rd_T177 l0 x10_1).f3), .int .i64 ((rd_T177 l0 x10_1).f4), .int .i64 ((rd_T177 l0 x10_1).f5), .int .i64 ((rd_T177 l0 x10_1).f6), .int .i64 0, .int .i64 0]) ?_ 7 _ rfl; (with_reducible repeat (first | refine blk_drewN ?_ _ | refine blk_drew ?_ | refine blk_alloc ?_ _)); refine blk_put (cs := #[.string ((rd_T177 l0 x10_1).f0), .int .i64 ((rd_T177 l0 x10_1).f1), .int .i64 ((rd_T177 l0 x10_1).f2), .int .i64 ((rd_T177 l0 x10_1).f3), .int .i64 ((rd_T177 l0 x10_1).f4), .int .i64 ((rd_T177 l0 x10_1).f5), .int .i64 0, .int .i64 0, .int .i64 0]) ?_ 6 _ rfl; (with_reducible repeat (first | refine blk_drewN ?_ _ | refine blk_drew ?_ | refine blk_alloc ?_ _)); refine blk_put (cs := #[.string ((rd_T177 l0 x10_1).f0), .int .i64 ((rd_T177 l0 x10_1).f1), .int .i64 ((rd_T177 l0 x10_1).f2), .int .i64 ((rd_T177 l0 x10_1).f3), .int .i64 ((rd_T177 l0 x10_1).f4), .int .i64 0, .int .i64 0, .int .i64 0, .int .i64 0]) ?_ 5 _ rfl; (with_reducible repeat (first | refine blk_drewN ?_ _ | refine blk_drew ?_ | refine blk_alloc ?_ _)); refine blk_put (cs := #[.string ((rd_T177 l0 x10_1).f0), .int .i64 ((rd_T177 l0 x10_1).f1), .int .i64 ((rd_T177 l0 x10_1).f2), .int .i64 ((rd_T177 l0 x10_1).f3), .int .i64 0, .int .i64 0, .int .i64 0, .int .i64 0, .int .i64 0]) ?_ 4 _ rfl; (with_reducible repeat (first | refine blk_drewN ?_ _ | refine blk_drew ?_ | refine blk_alloc ?_ _)); refine blk_put (cs := #[.string ((rd_T177 l0 x10_1).f0), .int .i64 ((rd_T177 l0 x10_1).f1), .int .i64 ((rd_T177 l0 x10_1).f2), .int .i64 0, .int .i64 0, .int .i64 0, .int .i64 0, .int .i64 0, .int .i64 0]) ?_ 3 _ rfl; (with_reducible repeat (first | refine blk_drewN ?_ _ | refine blk_drew ?_ | refine blk_alloc ?_ _)); refine blk_put (cs := #[.string ((rd_T177 l0 x10_1).f0), .int .i64 ((rd_T177 l0 x10_1).f1), .int .i64 0, .int .i64 0, .int .i64 0, .int .i64 0, .int .i64 0, .int .i64 0, .int .i64 0]) ?_ 2 _ rfl; (with_reducible repeat (first | refine blk_drewN ?_ _ | refine blk_drew ?_ | refine blk_alloc ?_ _)); refine blk_put (cs := #[.string ((rd_T177 l0 x10_1).f0), .int .i64 0, .int .i64 0, .int .i64 0, .int .i64 0, .int .i64 0, .int .i64 0, .int .i64 0, .int .i64 0]) ?_ 1 _ rfl; (with_reducible repeat (first | refine blk_drewN ?_ _ | refine blk_drew ?_ | refine blk_alloc ?_ _)); refine blk_put (cs := #[.string (⟨#[]⟩ : ByteArray), .int .i64 0, .int .i64 0, .int .i64 0, .int .i64 0, .int .i64 0, .int .i64 0, .int .i64 0, .int .i64 0]) ?_ 0 _ rfl; (with_reducible repeat (first | refine blk_drewN ?_ _ | refine blk_drew ?_ | refine blk_alloc ?_ _)); exact BK215.out⟩
      have n1_ : Aside0 (Below w.heap.size w (((((((((w28.setCell ⟨gb215, 0, none⟩ (.string ((rd_T177 l0 x10_1).f0))).setCell ⟨gb215, 1, none⟩ (.int .i64 ((rd_T177 l0 x10_1).f1))).setCell ⟨gb215, 2, none⟩ (.int .i64 ((rd_T177 l0 x10_1).f2))).setCell ⟨gb215, 3, none⟩ (.int .i64 ((rd_T177 l0 x10_1).f3))).setCell ⟨gb215, 4, none⟩ (.int .i64 ((rd_T177 l0 x10_1).f4))).setCell ⟨gb215, 5, none⟩ (.int .i64 ((rd_T177 l0 x10_1).f5))).setCell ⟨gb215, 6, none⟩ (.int .i64 ((rd_T177 l0 x10_1).f6))).setCell ⟨gb215, 7, none⟩ (.int .i64 ((rd_T177 l0 x10_1).f7))).setCell ⟨gb215, 8, none⟩ (.int .i64 ((rd_T177 l0 x10_1).f8)))) := ⟨r0_ HB.out GE215.out⟩
      (try clear BK215)
      (try clear HB)
      generalize (((((((((w28.setCell ⟨gb215, 0, none⟩ (.string ((rd_T177 l0 x10_1).f0))).setCell ⟨gb215, 1, none⟩ (.int .i64 ((rd_T177 l0 x10_1).f1))).setCell ⟨gb215, 2, none⟩ (.int .i64 ((rd_T177 l0 x10_1).f2))).setCell ⟨gb215, 3, none⟩ (.int .i64 ((rd_T177 l0 x10_1).f3))).setCell ⟨gb215, 4, none⟩ (.int .i64 ((rd_T177 l0 x10_1).f4))).setCell ⟨gb215, 5, none⟩ (.int .i64 ((rd_T177 l0 x10_1).f5))).setCell ⟨gb215, 6, none⟩ (.int .i64 ((rd_T177 l0 x10_1).f6))).setCell ⟨gb215, 7, none⟩ (.int .i64 ((rd_T177 l0 x10_1).f7))).setCell ⟨gb215, 8, none⟩ (.int .i64 ((rd_T177 l0 x10_1).f8))) = w30 at n0_ n1_ ⊢
      have BK215 := n0_
      have HB := n1_
      clear n0_ n1_
      replace BK215 := Aside0.mk (blk_drew BK215.out)
      replace HB := Aside0.mk (below_drew1 HB.out)
      refine start_ (n := 18) (S := fun w' => w'.cell? ⟨gb215, 0, none⟩ = some (.string ((rd_T177 l0 x10_1).f0)) ∧ w'.cell? ⟨gb215, 1, none⟩ = some (.int .i64 ((rd_T177 l0 x10_1).f1)) ∧ w'.cell? ⟨gb215, 2, none⟩ = some (.int .i64 ((rd_T177 l0 x10_1).f2)) ∧ w'.cell? ⟨gb215, 3, none⟩ = some (.int .i64 ((rd_T177 l0 x10_1).f3)) ∧ w'.cell? ⟨gb215, 4, none⟩ = some (.int .i64 ((rd_T177 l0 x10_1).f4)) ∧ w'.cell? ⟨gb215, 5, none⟩ = some (.int .i64 ((rd_T177 l0 x10_1).f5)) ∧ w'.cell? ⟨gb215, 6, none⟩ = some (.int .i64 ((rd_T177 l0 x10_1).f6)) ∧ w'.cell? ⟨gb215, 7, none⟩ = some (.int .i64 ((rd_T177 l0 x10_1).f7)) ∧ w'.cell? ⟨gb215, 8, none⟩ = some (.int .i64 ((rd_T177 l0 x10_1).f8))) (ds := []) #[f_,f_,f_,f_,f_,f_,f_,f_,f_,f_,f_,f_,f_,f_,f_,f_,f_,f_] (by kernel_rfl) rfl rfl ⟨(blk_cell BK215.out 0).trans rfl, (blk_cell BK215.out 1).trans rfl, (blk_cell BK215.out 2).trans rfl, (blk_cell BK215.out 3).trans rfl, (blk_cell BK215.out 4).trans rfl, (blk_cell BK215.out 5).trans rfl, (blk_cell BK215.out 6).trans rfl, (blk_cell BK215.out 7).trans rfl, (blk_cell BK215.out 8).trans rfl⟩ (fun hHeld => ?_); refine with_tabW impl_AreArticles.tab6 impl_AreArticles.bits6 (fun HT_ HW_ => ?_)
      generalize w30.drew = w31 at BK215 HB hHeld ⊢
      refine take_ (i := 0) (N := some 15) (v := ?_) (a' := ?_) #[t_,f_,f_,f_,f_,f_,f_,f_,f_,f_,f_,f_,f_,f_,f_,f_,f_,f_] rfl rfl (take_ofW HT_.out HW_.out (by kernel_rfl)) (fun _ _ _ h => h) (Or.inl ⟨by rfl, ?_⟩) hHeld ?_ ?_
      rotate_left
      ·rintro w' ⟨s0, s1, s2, s3, s4, s5, s6, s7, s8⟩
       go_simp
       with_reducible rfl
      rotate_left
      ·simp only [pz_]
       rfl
      refine one_ (i := 1) (N := some 16) #[t_,t_,f_,f_,f_,f_,f_,f_,f_,f_,f_,f_,f_,f_,f_,f_,f_,f_] rfl rfl (one_of HT_.out (by kernel_rfl)) (by decide) (fun K hK => ?_)
      refine goes_ Try.func194 (by kernel_rfl) rfl #[.agg #[.string ((rd_T177 l0 x10_1).f0), .int .i64 ((rd_T177 l0 x10_1).f1), .int .i64 ((rd_T177 l0 x10_1).f2), .int .i64 ((rd_T177 l0 x10_1).f3), .int .i64 ((rd_T177 l0 x10_1).f4), .int .i64 ((rd_T177 l0 x10_1).f5), .int .i64 ((rd_T177 l0 x10_1).f6), .int .i64 ((rd_T177 l0 x10_1).f7), .int .i64 ((rd_T177 l0 x10_1).f8)]] (by rfl) rfl rfl ag_ ?_
      with_reducible refine (impl_IsArticle.calls k1 ((rd_T177 l0 x10_1).f0) ((rd_T177 l0 x10_1).f1) ((rd_T177 l0 x10_1).f2) ((rd_T177 l0 x10_1).f3) ((rd_T177 l0 x10_1).f4) ((rd_T177 l0 x10_1).f5) ((rd_T177 l0 x10_1).f6) ((rd_T177 l0 x10_1).f7) ((rd_T177 l0 x10_1).f8) false _ A6.out).mono ?_
      rintro e w32 ⟨rfl, hb⟩
      refine ⟨_, rfl, ?_⟩
      replace BK215 := Aside0.mk (blk_below (g := gb215) (o := .cells #[.string ((rd_T177 l0 x10_1).f0), .int .i64 ((rd_T177 l0 x10_1).f1), .int .i64 ((rd_T177 l0 x10_1).f2), .int .i64 ((rd_T177 l0 x10_1).f3), .int .i64 ((rd_T177 l0 x10_1).f4), .int .i64 ((rd_T177 l0 x10_1).f5), .int .i64 ((rd_T177 l0 x10_1).f6), .int .i64 ((rd_T177 l0 x10_1).f7), .int .i64 ((rd_T177 l0 x10_1).f8)] 177 (0, 0)) (r1_ BK215.out) hb)
      replace HB := Aside0.mk (below_step (r0_ HB.out GE215.out) hb)
      (try clear hb)
      (try clear hb2)
      (try clear hk)
      (try clear hi)
      refine hK.out _ _ ⟨(blk_cell BK215.out 0).trans rfl, (blk_cell BK215.out 1).trans rfl, (blk_cell BK215.out 2).trans rfl, (blk_cell BK215.out 3).trans rfl, (blk_cell BK215.out 4).trans rfl, (blk_cell BK215.out 5).trans rfl, (blk_cell BK215.out 6).trans rfl, (blk_cell BK215.out 7).trans rfl, (blk_cell BK215.out 8).trans rfl⟩ (fun hHeld => ?_)
      clear hK K
      refine norm_ (a' := ?_) ?_ ?_
      rotate_left
      ·show Act.put _ (some 16) _ = _
       simp only [pz_]
       rfl
      refine pu_ 2 17 #[t_,t_,t_,f_,f_,f_,f_,f_,f_,f_,f_,f_,f_,f_,f_,f_,f_,f_] HT_.out ?_
      refine pu_ 3 18 #[t_,t_,t_,t_,f_,f_,f_,f_,f_,f_,f_,f_,f_,f_,f_,f_,f_,f_] HT_.out ?_
      refine un_ 4 19 #[t_,t_,t_,t_,t_,f_,f_,f_,f_,f_,f_,f_,f_,f_,f_,f_,f_,f_] HT_.out ?_
      refine un_ 5 20 #[t_,t_,t_,t_,t_,t_,f_,f_,f_,f_,f_,f_,f_,f_,f_,f_,f_,f_] HT_.out ?_
      refine un_ 6 21 #[t_,t_,t_,t_,t_,t_,t_,f_,f_,f_,f_,f_,f_,f_,f_,f_,f_,f_] HT_.out ?_
      refine un_ 7 22 #[t_,t_,t_,t_,t_,t_,t_,t_,f_,f_,f_,f_,f_,f_,f_,f_,f_,f_] HT_.out ?_
      refine un_ 8 23 #[t_,t_,t_,t_,t_,t_,t_,t_,t_,f_,f_,f_,f_,f_,f_,f_,f_,f_] HT_.out ?_
      refine un_ 9 24 #[t_,t_,t_,t_,t_,t_,t_,t_,t_,t_,f_,f_,f_,f_,f_,f_,f_,f_] HT_.out ?_
      refine un_ 10 25 #[t_,t_,t_,t_,t_,t_,t_,t_,t_,t_,t_,f_,f_,f_,f_,f_,f_,f_] HT_.out ?_
      refine un_ 11 26 #[t_,t_,t_,t_,t_,t_,t_,t_,t_,t_,t_,t_,f_,f_,f_,f_,f_,f_] HT_.out ?_
      refine un_ 12 27 #[t_,t_,t_,t_,t_,t_,t_,t_,t_,t_,t_,t_,t_,f_,f_,f_,f_,f_] HT_.out ?_
      refine un_ 13 28 #[t_,t_,t_,t_,t_,t_,t_,t_,t_,t_,t_,t_,t_,t_,f_,f_,f_,f_] HT_.out ?_
      refine un_ 14 29 #[t_,t_,t_,t_,t_,t_,t_,t_,t_,t_,t_,t_,t_,t_,t_,f_,f_,f_] HT_.out ?_
      refine un_ 15 30 #[t_,t_,t_,t_,t_,t_,t_,t_,t_,t_,t_,t_,t_,t_,t_,t_,f_,f_] HT_.out ?_
      refine un_ 16 31 #[t_,t_,t_,t_,t_,t_,t_,t_,t_,t_,t_,t_,t_,t_,t_,t_,t_,f_] HT_.out ?_
      refine pu_ 17 32 #[t_,t_,t_,t_,t_,t_,t_,t_,t_,t_,t_,t_,t_,t_,t_,t_,t_,t_] HT_.out ?_
      refine done_ (done_of HT_.out (by kernel_rfl)) ?_
      try go_wp2
      go_ret
      exact ⟨by first | rfl | (simp [errW_none, errW_some] <;> rfl) | (simp [*, errW_none, errW_some] <;> rfl), r0_ HB.out GE215.out⟩
    ·rw [if_neg c3] at H
     have c3b0 : decide (x10_1 < (l0.length : Int)) = false := decide_eq_false c3
     clear c3
     obtain rfl := Option.some.inj H
     go_wp2
     go_ret
     exact ⟨by first | rfl | (simp [errW_none, errW_some] <;> rfl) | (simp [*, errW_none, errW_some] <;> rfl), bl_ HB.out⟩
end Go.Proofs.Ytmahecjbejffoaa.PFnExactIsRack
