/- QFnExactRackNetd of the law FnExactRackNet: taken over, declaration by declaration, as far as the law leans on it (the words and the printed functions are the kit's own print). No condition but what each says. -/
import Derived.Test.YtalcbcelalbhiaaZFnExactRackNetav
import Derived.Laws.Cover1
import Derived.Test.YtalcbcelalbhiaaZFnExactRackNetaw
import Derived.Test.YtalcbcelalbhiaaZFnExactRackNetaz
namespace Go.Proofs.Ytalcbcelalbhiaa.PFnExactRackNet
open Go.RowKit Go.Proofs.YtalcbcelalbhiaaW.PrintWords Go.Proofs.YtalcbcelalbhiaaW.PrintLast Go.Proofs.YtalcbcelalbhiaaW.PrintMore
attribute [local go_sem] max2_int min2_int max_two min_two max_three min_three max_four min_four   -- for this text's walks alone
set_option linter.unusedVariables false
set_option linter.unusedSimpArgs false
open Bool renaming true → t_, false → f_
def spec_IsWord.l0 : Nat → ByteArray → Int → Option (Bool)
  | 0, _, _ => none
  | k + 1, x0, x3 => if x3 < (x0.size : Int) then (if 0 ≤ x3 then (if (bt x0 x3) < 97 then (some false) else (if (bt x0 x3) > 122 then (some false) else (spec_IsWord.l0 k x0 (wrap64 (x3 + 1))))) else (none)) else ((spec_l01In.f (x0.size : Int) 1 16).bind fun t203 => (some t203))
def spec_IsWord.f (k : Nat) (a0 : ByteArray) : Option (Bool) := spec_IsWord.l0 k a0 0
set_option maxHeartbeats 8000000 in
set_option maxRecDepth 100000 in
theorem spec_IsWord.calls (k : Nat) (a0 : ByteArray) (r : Bool) (w : World) (h : spec_IsWord.f k a0 = some r) :
    Calls Try.prog 169 #[.string a0] w fun e w' => e = .returned (.bool r) ∧ Drawn0 w w' := by
  have H : (spec_IsWord.l0 k a0 0) = some r := h
  clear h
  have H' := Aside0.mk H
  clear H
  go_enter Try.func169, Try.ntmps169
  go_wp2
  go_loopg [3] k (fun kq v3 w' => ∃ (x3_1 : Int), v3 = .int .i64 x3_1 ∧ Aside0 (spec_IsWord.l0 kq a0 x3_1 = some r) ∧ Aside0 (kq ≤ k) ∧ Drawn0 w w')
  case atStart => exact ⟨(0), (by first | rfl | (simp; done) | (simp [*]; done)), H', ⟨Nat.le_refl _⟩, by repeat (first | exact Drawn0.refl _ | apply Drawn0.step)⟩
  case round =>
    clear H'
    try clear c1
    obtain ⟨x3_1, rfl, HA, HK1, ⟨m1, rfl⟩⟩ := hrel
    cases gk with
    | zero => exact absurd HA.out (by simp [spec_IsWord.l0])
    | succ k1 =>
      have H := HA.out
      clear HA
      simp only [spec_IsWord.l0] at H
      by_cases c2 : x3_1 < (a0.size : Int)
      · rw [if_pos c2] at H
        have c2b0 : decide (x3_1 < (a0.size : Int)) = true := decide_eq_true c2
        clear c2
        by_cases c3 : 0 ≤ x3_1
        · rw [if_pos c3] at H
          have c3b0 : decide (0 ≤ x3_1) = true := decide_eq_true c3
          clear c3
          by_cases c5 : (bt a0 x3_1) < 97
          · rw [if_pos c5] at H
            have c5b0 : decide ((bt a0 x3_1) < 97) = true := decide_eq_true c5
            clear c5
            obtain rfl := Option.some.inj H
            have p4 : 0 ≤ (x3_1 : Int) := od_
            have q4 : x3_1 < (a0.size : Int) := od_
            have hx4 := bt_at a0 x3_1
            replace p4 := eq_true p4
            replace q4 := eq_true q4
            go_wp2
            go_ret
            exact ⟨by first | rfl | (simp; done) | (simp [*]; done), by repeat (first | exact Drawn0.refl _ | apply Drawn0.step)⟩
          · rw [if_neg c5] at H
            have c5b0 : decide ((bt a0 x3_1) < 97) = false := decide_eq_false c5
            clear c5
            by_cases c7 : (bt a0 x3_1) > 122
            · rw [if_pos c7] at H
              have c7b0 : decide (122 < (bt a0 x3_1)) = true := decide_eq_true c7
              clear c7
              obtain rfl := Option.some.inj H
              have p4 : 0 ≤ (x3_1 : Int) := od_
              have q4 : x3_1 < (a0.size : Int) := od_
              have hx4 := bt_at a0 x3_1
              replace p4 := eq_true p4
              replace q4 := eq_true q4
              have p6 : 0 ≤ (x3_1 : Int) := od_
              have q6 : x3_1 < (a0.size : Int) := od_
              have hx6 := bt_at a0 x3_1
              replace p6 := eq_true p6
              replace q6 := eq_true q6
              go_wp2
              go_ret
              exact ⟨by first | rfl | (simp; done) | (simp [*]; done), by repeat (first | exact Drawn0.refl _ | apply Drawn0.step)⟩
            · rw [if_neg c7] at H
              have c7b0 : decide (122 < (bt a0 x3_1)) = false := decide_eq_false c7
              clear c7
              have H' := Aside0.mk H
              clear H
              have p4 : 0 ≤ (x3_1 : Int) := od_
              have q4 : x3_1 < (a0.size : Int) := od_
              have hx4 := bt_at a0 x3_1
              replace p4 := eq_true p4
              replace q4 := eq_true q4
              have p6 : 0 ≤ (x3_1 : Int) := od_
              have q6 : x3_1 < (a0.size : Int) := od_
              have hx6 := bt_at a0 x3_1
              replace p6 := eq_true p6
              replace q6 := eq_true q6
              go_wp2
              go_roundg k1
              case measure => have := HK1.out; omega
              case rel => exact ⟨(wrap64 (x3_1 + 1)), (by first | rfl | (simp; done) | (simp [*]; done)), H', ⟨by have := HK1.out; omega⟩, by repeat (first | exact Drawn0.refl _ | apply Drawn0.step)⟩
        · rw [if_neg c3] at H
          exact absurd H (by simp)
      · rw [if_neg c2] at H
        have c2b0 : decide (x3_1 < (a0.size : Int)) = false := decide_eq_false c2
        clear c2
        replace H := Option.bind_eq_some_iff.mp H
        obtain ⟨t203, A80, H⟩ := H
        replace H : (some t203) = some r := H
        have A8 := Aside0.mk A80
        clear A80
        obtain rfl := Option.some.inj H
        go_wp2_with (first | ((with_reducible refine gate_callee (f := 137) rfl ?_); refine goesL_ (some 22) rfl rfl Try.func137 (by kernel_rfl) rfl #[.int .i64 (a0.size : Int), .int .i64 1, .int .i64 16] rfl ag_ ?_; (with_reducible refine (spec_l01In.calls (a0.size : Int) 1 16 t203 _ A8.out).mono ?_); rintro e w' ⟨rfl, ⟨nd, rfl⟩⟩; refine ⟨_, rfl, ?_⟩))
        go_ret
        exact ⟨by first | rfl | (simp; done) | (simp [*]; done), by repeat (first | exact Drawn0.refl _ | apply Drawn0.step)⟩
def spec_IsArticle.f (k : Nat) (a0_0 : ByteArray) (a0_1 : Int) (a0_2 : Int) (a0_3 : Int) (a0_4 : Int) (a0_5 : Int) (a0_6 : Int) (a0_7 : Int) (a0_8 : Int) : Option (Bool) := (spec_IsWord.f k a0_0).bind fun t205 => (if t205 = true then ((spec_l01In.f a0_1 0 3).bind fun t206 => (if t206 = true then ((spec_l01In.f a0_2 20 300).bind fun t207 => (if t207 = true then ((spec_l01In.f a0_3 0 10000).bind fun t208 => (if t208 = true then ((spec_l01In.f a0_4 0 a0_3).bind fun t209 => (if t209 = true then ((spec_l01In.f a0_5 1 50).bind fun t210 => (if t210 = true then ((spec_l01In.f a0_6 0 10000).bind fun t211 => (if t211 = true then ((spec_l01In.f a0_7 1 100000).bind fun t212 => (if t212 = true then ((spec_l01In.f a0_8 0 3).bind fun t213 => (some t213)) else (some false))) else (some false))) else (some false))) else (some false))) else (some false))) else (some false))) else (some false))) else (some false))
set_option maxHeartbeats 8000000 in
set_option maxRecDepth 100000 in
theorem spec_IsArticle.calls (k : Nat) (a0_0 : ByteArray) (a0_1 : Int) (a0_2 : Int) (a0_3 : Int) (a0_4 : Int) (a0_5 : Int) (a0_6 : Int) (a0_7 : Int) (a0_8 : Int) (r : Bool) (w : World) (h : spec_IsArticle.f k a0_0 a0_1 a0_2 a0_3 a0_4 a0_5 a0_6 a0_7 a0_8 = some r) :
  Calls Try.prog 167 #[.agg #[.string a0_0, .int .i64 a0_1, .int .i64 a0_2, .int .i64 a0_3, .int .i64 a0_4, .int .i64 a0_5, .int .i64 a0_6, .int .i64 a0_7, .int .i64 a0_8]] w fun e w' => e = .returned (.bool r) ∧ Below w.heap.size w w' := by
 have hu130 := Try.underlying130
 have HB := Aside0.mk (Below.refl w.heap.size w)
 have H : ((spec_IsWord.f k a0_0).bind fun t205 => (if t205 = true then ((spec_l01In.f a0_1 0 3).bind fun t206 => (if t206 = true then ((spec_l01In.f a0_2 20 300).bind fun t207 => (if t207 = true then ((spec_l01In.f a0_3 0 10000).bind fun t208 => (if t208 = true then ((spec_l01In.f a0_4 0 a0_3).bind fun t209 => (if t209 = true then ((spec_l01In.f a0_5 1 50).bind fun t210 => (if t210 = true then ((spec_l01In.f a0_6 0 10000).bind fun t211 => (if t211 = true then ((spec_l01In.f a0_7 1 100000).bind fun t212 => (if t212 = true then ((spec_l01In.f a0_8 0 3).bind fun t213 => (some t213)) else (some false))) else (some false))) else (some false))) else (some false))) else (some false))) else (some false))) else (some false))) else (some false))) = some r := h
 clear h
 replace H := Option.bind_eq_some_iff.mp H
 obtain ⟨t205, A20, H⟩ := H
 replace H : (if t205 = true then ((spec_l01In.f a0_1 0 3).bind fun t206 => (if t206 = true then ((spec_l01In.f a0_2 20 300).bind fun t207 => (if t207 = true then ((spec_l01In.f a0_3 0 10000).bind fun t208 => (if t208 = true then ((spec_l01In.f a0_4 0 a0_3).bind fun t209 => (if t209 = true then ((spec_l01In.f a0_5 1 50).bind fun t210 => (if t210 = true then ((spec_l01In.f a0_6 0 10000).bind fun t211 => (if t211 = true then ((spec_l01In.f a0_7 1 100000).bind fun t212 => (if t212 = true then ((spec_l01In.f a0_8 0 3).bind fun t213 => (some t213)) else (some false))) else (some false))) else (some false))) else (some false))) else (some false))) else (some false))) else (some false))) else (some false)) = some r := H
 have A2 := Aside0.mk A20
 clear A20
 by_cases c3 : t205 = true
 ·subst c3
  replace H : ((spec_l01In.f a0_1 0 3).bind fun t206 => (if t206 = true then ((spec_l01In.f a0_2 20 300).bind fun t207 => (if t207 = true then ((spec_l01In.f a0_3 0 10000).bind fun t208 => (if t208 = true then ((spec_l01In.f a0_4 0 a0_3).bind fun t209 => (if t209 = true then ((spec_l01In.f a0_5 1 50).bind fun t210 => (if t210 = true then ((spec_l01In.f a0_6 0 10000).bind fun t211 => (if t211 = true then ((spec_l01In.f a0_7 1 100000).bind fun t212 => (if t212 = true then ((spec_l01In.f a0_8 0 3).bind fun t213 => (some t213)) else (some false))) else (some false))) else (some false))) else (some false))) else (some false))) else (some false))) else (some false))) = some r := by rw [if_pos rfl] at H; exact H
  replace H := Option.bind_eq_some_iff.mp H
  obtain ⟨t206, A40, H⟩ := H
  replace H : (if t206 = true then ((spec_l01In.f a0_2 20 300).bind fun t207 => (if t207 = true then ((spec_l01In.f a0_3 0 10000).bind fun t208 => (if t208 = true then ((spec_l01In.f a0_4 0 a0_3).bind fun t209 => (if t209 = true then ((spec_l01In.f a0_5 1 50).bind fun t210 => (if t210 = true then ((spec_l01In.f a0_6 0 10000).bind fun t211 => (if t211 = true then ((spec_l01In.f a0_7 1 100000).bind fun t212 => (if t212 = true then ((spec_l01In.f a0_8 0 3).bind fun t213 => (some t213)) else (some false))) else (some false))) else (some false))) else (some false))) else (some false))) else (some false))) else (some false)) = some r := H
  have A4 := Aside0.mk A40
  clear A40
  by_cases c5 : t206 = true
  ·subst c5
   replace H : ((spec_l01In.f a0_2 20 300).bind fun t207 => (if t207 = true then ((spec_l01In.f a0_3 0 10000).bind fun t208 => (if t208 = true then ((spec_l01In.f a0_4 0 a0_3).bind fun t209 => (if t209 = true then ((spec_l01In.f a0_5 1 50).bind fun t210 => (if t210 = true then ((spec_l01In.f a0_6 0 10000).bind fun t211 => (if t211 = true then ((spec_l01In.f a0_7 1 100000).bind fun t212 => (if t212 = true then ((spec_l01In.f a0_8 0 3).bind fun t213 => (some t213)) else (some false))) else (some false))) else (some false))) else (some false))) else (some false))) else (some false))) = some r := by rw [if_pos rfl] at H; exact H
   replace H := Option.bind_eq_some_iff.mp H
   obtain ⟨t207, A60, H⟩ := H
   replace H : (if t207 = true then ((spec_l01In.f a0_3 0 10000).bind fun t208 => (if t208 = true then ((spec_l01In.f a0_4 0 a0_3).bind fun t209 => (if t209 = true then ((spec_l01In.f a0_5 1 50).bind fun t210 => (if t210 = true then ((spec_l01In.f a0_6 0 10000).bind fun t211 => (if t211 = true then ((spec_l01In.f a0_7 1 100000).bind fun t212 => (if t212 = true then ((spec_l01In.f a0_8 0 3).bind fun t213 => (some t213)) else (some false))) else (some false))) else (some false))) else (some false))) else (some false))) else (some false)) = some r := H
   have A6 := Aside0.mk A60
   clear A60
   by_cases c7 : t207 = true
   ·subst c7
    replace H : ((spec_l01In.f a0_3 0 10000).bind fun t208 => (if t208 = true then ((spec_l01In.f a0_4 0 a0_3).bind fun t209 => (if t209 = true then ((spec_l01In.f a0_5 1 50).bind fun t210 => (if t210 = true then ((spec_l01In.f a0_6 0 10000).bind fun t211 => (if t211 = true then ((spec_l01In.f a0_7 1 100000).bind fun t212 => (if t212 = true then ((spec_l01In.f a0_8 0 3).bind fun t213 => (some t213)) else (some false))) else (some false))) else (some false))) else (some false))) else (some false))) = some r := by rw [if_pos rfl] at H; exact H
    replace H := Option.bind_eq_some_iff.mp H
    obtain ⟨t208, A80, H⟩ := H
    replace H : (if t208 = true then ((spec_l01In.f a0_4 0 a0_3).bind fun t209 => (if t209 = true then ((spec_l01In.f a0_5 1 50).bind fun t210 => (if t210 = true then ((spec_l01In.f a0_6 0 10000).bind fun t211 => (if t211 = true then ((spec_l01In.f a0_7 1 100000).bind fun t212 => (if t212 = true then ((spec_l01In.f a0_8 0 3).bind fun t213 => (some t213)) else (some false))) else (some false))) else (some false))) else (some false))) else (some false)) = some r := H
    have A8 := Aside0.mk A80
    clear A80
    by_cases c9 : t208 = true
    ·subst c9
     replace H : ((spec_l01In.f a0_4 0 a0_3).bind fun t209 => (if t209 = true then ((spec_l01In.f a0_5 1 50).bind fun t210 => (if t210 = true then ((spec_l01In.f a0_6 0 10000).bind fun t211 => (if t211 = true then ((spec_l01In.f a0_7 1 100000).bind fun t212 => (if t212 = true then ((spec_l01In.f a0_8 0 3).bind fun t213 => (some t213)) else (some false))) else (some false))) else (some false))) else (some false))) = some r := by rw [if_pos rfl] at H; exact H
     replace H := Option.bind_eq_some_iff.mp H
     obtain ⟨t209, A100, H⟩ := H
     replace H : (if t209 = true then ((spec_l01In.f a0_5 1 50).bind fun t210 => (if t210 = true then ((spec_l01In.f a0_6 0 10000).bind fun t211 => (if t211 = true then ((spec_l01In.f a0_7 1 100000).bind fun t212 => (if t212 = true then ((spec_l01In.f a0_8 0 3).bind fun t213 => (some t213)) else (some false))) else (some false))) else (some false))) else (some false)) = some r := H
     have A10 := Aside0.mk A100
     clear A100
     by_cases c11 : t209 = true
     ·subst c11
      replace H : ((spec_l01In.f a0_5 1 50).bind fun t210 => (if t210 = true then ((spec_l01In.f a0_6 0 10000).bind fun t211 => (if t211 = true then ((spec_l01In.f a0_7 1 100000).bind fun t212 => (if t212 = true then ((spec_l01In.f a0_8 0 3).bind fun t213 => (some t213)) else (some false))) else (some false))) else (some false))) = some r := by rw [if_pos rfl] at H; exact H
      replace H := Option.bind_eq_some_iff.mp H
      obtain ⟨t210, A120, H⟩ := H
      replace H : (if t210 = true then ((spec_l01In.f a0_6 0 10000).bind fun t211 => (if t211 = true then ((spec_l01In.f a0_7 1 100000).bind fun t212 => (if t212 = true then ((spec_l01In.f a0_8 0 3).bind fun t213 => (some t213)) else (some false))) else (some false))) else (some false)) = some r := H
      have A12 := Aside0.mk A120
      clear A120
      by_cases c13 : t210 = true
      ·subst c13
       replace H : ((spec_l01In.f a0_6 0 10000).bind fun t211 => (if t211 = true then ((spec_l01In.f a0_7 1 100000).bind fun t212 => (if t212 = true then ((spec_l01In.f a0_8 0 3).bind fun t213 => (some t213)) else (some false))) else (some false))) = some r := by rw [if_pos rfl] at H; exact H
       replace H := Option.bind_eq_some_iff.mp H
       obtain ⟨t211, A140, H⟩ := H
       replace H : (if t211 = true then ((spec_l01In.f a0_7 1 100000).bind fun t212 => (if t212 = true then ((spec_l01In.f a0_8 0 3).bind fun t213 => (some t213)) else (some false))) else (some false)) = some r := H
       have A14 := Aside0.mk A140
       clear A140
       by_cases c15 : t211 = true
       ·subst c15
        replace H : ((spec_l01In.f a0_7 1 100000).bind fun t212 => (if t212 = true then ((spec_l01In.f a0_8 0 3).bind fun t213 => (some t213)) else (some false))) = some r := by rw [if_pos rfl] at H; exact H
        replace H := Option.bind_eq_some_iff.mp H
        obtain ⟨t212, A160, H⟩ := H
        replace H : (if t212 = true then ((spec_l01In.f a0_8 0 3).bind fun t213 => (some t213)) else (some false)) = some r := H
        have A16 := Aside0.mk A160
        clear A160
        by_cases c17 : t212 = true
        ·subst c17
         replace H : ((spec_l01In.f a0_8 0 3).bind fun t213 => (some t213)) = some r := by rw [if_pos rfl] at H; exact H
         replace H := Option.bind_eq_some_iff.mp H
         obtain ⟨t213, A180, H⟩ := H
         replace H : (some t213) = some r := H
         have A18 := Aside0.mk A180
         clear A180
         obtain rfl := Option.some.inj H
         go_enter Try.func167, Try.ntmps167
         go_wp2_with (first | ((with_reducible refine gate_dst (N := 1) rfl ?_); refine box_event ?hg (N := 1) ?hd (cs := #[.string a0_0, .int .i64 a0_1, .int .i64 a0_2, .int .i64 a0_3, .int .i64 a0_4, .int .i64 a0_5, .int .i64 a0_6, .int .i64 a0_7, .int .i64 a0_8]) (t := 130) ?hr ?_; (case hd => rfl); (case hg => rfl); (case hr => first | (go_simp; done) | (go_simp; rfl)); intro gb204 hg w19 hbox hb; have BK204 := Aside0.mk (hbox); have GW204 := Aside0.mk ((by rw [hg]; exact (below_size (bl_ HB.out)) : w.heap.size ≤ gb204)); have GE204 := Aside0.mk ((by rw [hg]; exact (below_size (bl_ HB.out)) : w.heap.size ≤ gb204)); replace HB := Aside0.mk (below_step (bl_ HB.out) hb); clear hb hbox hg; have hcz20_0 : w19.cell? ⟨gb204, 0, none⟩ = some (.string a0_0) := (blk_cell BK204.out 0).trans rfl; have hcz20_1 : w19.cell? ⟨gb204, 1, none⟩ = some (.int .i64 a0_1) := (blk_cell BK204.out 1).trans rfl; have hcz20_2 : w19.cell? ⟨gb204, 2, none⟩ = some (.int .i64 a0_2) := (blk_cell BK204.out 2).trans rfl; have hcz20_3 : w19.cell? ⟨gb204, 3, none⟩ = some (.int .i64 a0_3) := (blk_cell BK204.out 3).trans rfl; have hcz20_4 : w19.cell? ⟨gb204, 4, none⟩ = some (.int .i64 a0_4) := (blk_cell BK204.out 4).trans rfl; have hcz20_5 : w19.cell? ⟨gb204, 5, none⟩ = some (.int .i64 a0_5) := (blk_cell BK204.out 5).trans rfl; have hcz20_6 : w19.cell? ⟨gb204, 6, none⟩ = some (.int .i64 a0_6) := (blk_cell BK204.out 6).trans rfl; have hcz20_7 : w19.cell? ⟨gb204, 7, none⟩ = some (.int .i64 a0_7) := (blk_cell BK204.out 7).trans rfl; have hcz20_8 : w19.cell? ⟨gb204, 8, none⟩ = some (.int .i64 a0_8) := (blk_cell BK204.out 8).trans rfl; have hfz20_0 := blk_frozen BK204.out 0; have hfz20_1 := blk_frozen BK204.out 1; have hfz20_2 := blk_frozen BK204.out 2; have hfz20_3 := blk_frozen BK204.out 3; have hfz20_4 := blk_frozen BK204.out 4; have hfz20_5 := blk_frozen BK204.out 5; have hfz20_6 := blk_frozen BK204.out 6; have hfz20_7 := blk_frozen BK204.out 7; have hfz20_8 := blk_frozen BK204.out 8) | ((with_reducible refine gate_callee (f := 169) rfl ?_); refine goesL_ (some 5) rfl rfl Try.func169 (by kernel_rfl) rfl #[.string a0_0] rfl ag_ ?_; (with_reducible refine (spec_IsWord.calls k a0_0 true _ A2.out).mono ?_); rintro e w' ⟨rfl, ⟨nd, rfl⟩⟩; refine ⟨_, rfl, ?_⟩) | (go_at_call 137; (with_reducible refine (spec_l01In.calls a0_1 0 3 true _ A4.out).mono ?_); rintro e w' ⟨rfl, ⟨nd, rfl⟩⟩) | (go_at_call 137; (with_reducible refine (spec_l01In.calls a0_2 20 300 true _ A6.out).mono ?_); rintro e w' ⟨rfl, ⟨nd, rfl⟩⟩) | (go_at_call 137; (with_reducible refine (spec_l01In.calls a0_3 0 10000 true _ A8.out).mono ?_); rintro e w' ⟨rfl, ⟨nd, rfl⟩⟩) | (go_at_call 137; (with_reducible refine (spec_l01In.calls a0_4 0 a0_3 true _ A10.out).mono ?_); rintro e w' ⟨rfl, ⟨nd, rfl⟩⟩) | (go_at_call 137; (with_reducible refine (spec_l01In.calls a0_5 1 50 true _ A12.out).mono ?_); rintro e w' ⟨rfl, ⟨nd, rfl⟩⟩) | (go_at_call 137; (with_reducible refine (spec_l01In.calls a0_6 0 10000 true _ A14.out).mono ?_); rintro e w' ⟨rfl, ⟨nd, rfl⟩⟩) | (go_at_call 137; (with_reducible refine (spec_l01In.calls a0_7 1 100000 true _ A16.out).mono ?_); rintro e w' ⟨rfl, ⟨nd, rfl⟩⟩) | (go_at_call 137; (with_reducible refine (spec_l01In.calls a0_8 0 3 t213 _ A18.out).mono ?_); rintro e w' ⟨rfl, ⟨nd, rfl⟩⟩))
         go_ret
         exact ⟨by first | rfl | (simp [errW_none, errW_some] <;> rfl) | (simp [*, errW_none, errW_some] <;> rfl), r0_ HB.out GE204.out⟩
        ·replace c17 := Bool.eq_false_iff.mpr c17
         subst c17
         replace H : (some false) = some r := by rw [if_neg (show ¬ (false = true) by decide)] at H; exact H
         obtain rfl := Option.some.inj H
         go_enter Try.func167, Try.ntmps167
         go_wp2_with (first | ((with_reducible refine gate_dst (N := 1) rfl ?_); refine box_event ?hg (N := 1) ?hd (cs := #[.string a0_0, .int .i64 a0_1, .int .i64 a0_2, .int .i64 a0_3, .int .i64 a0_4, .int .i64 a0_5, .int .i64 a0_6, .int .i64 a0_7, .int .i64 a0_8]) (t := 130) ?hr ?_; (case hd => rfl); (case hg => rfl); (case hr => first | (go_simp; done) | (go_simp; rfl)); intro gb204 hg w21 hbox hb; have BK204 := Aside0.mk (hbox); have GW204 := Aside0.mk ((by rw [hg]; exact (below_size (bl_ HB.out)) : w.heap.size ≤ gb204)); have GE204 := Aside0.mk ((by rw [hg]; exact (below_size (bl_ HB.out)) : w.heap.size ≤ gb204)); replace HB := Aside0.mk (below_step (bl_ HB.out) hb); clear hb hbox hg; have hcz22_0 : w21.cell? ⟨gb204, 0, none⟩ = some (.string a0_0) := (blk_cell BK204.out 0).trans rfl; have hcz22_1 : w21.cell? ⟨gb204, 1, none⟩ = some (.int .i64 a0_1) := (blk_cell BK204.out 1).trans rfl; have hcz22_2 : w21.cell? ⟨gb204, 2, none⟩ = some (.int .i64 a0_2) := (blk_cell BK204.out 2).trans rfl; have hcz22_3 : w21.cell? ⟨gb204, 3, none⟩ = some (.int .i64 a0_3) := (blk_cell BK204.out 3).trans rfl; have hcz22_4 : w21.cell? ⟨gb204, 4, none⟩ = some (.int .i64 a0_4) := (blk_cell BK204.out 4).trans rfl; have hcz22_5 : w21.cell? ⟨gb204, 5, none⟩ = some (.int .i64 a0_5) := (blk_cell BK204.out 5).trans rfl; have hcz22_6 : w21.cell? ⟨gb204, 6, none⟩ = some (.int .i64 a0_6) := (blk_cell BK204.out 6).trans rfl; have hcz22_7 : w21.cell? ⟨gb204, 7, none⟩ = some (.int .i64 a0_7) := (blk_cell BK204.out 7).trans rfl; have hcz22_8 : w21.cell? ⟨gb204, 8, none⟩ = some (.int .i64 a0_8) := (blk_cell BK204.out 8).trans rfl; have hfz22_0 := blk_frozen BK204.out 0; have hfz22_1 := blk_frozen BK204.out 1; have hfz22_2 := blk_frozen BK204.out 2; have hfz22_3 := blk_frozen BK204.out 3; have hfz22_4 := blk_frozen BK204.out 4; have hfz22_5 := blk_frozen BK204.out 5; have hfz22_6 := blk_frozen BK204.out 6; have hfz22_7 := blk_frozen BK204.out 7; have hfz22_8 := blk_frozen BK204.out 8) | ((with_reducible refine gate_callee (f := 169) rfl ?_); refine goesL_ (some 5) rfl rfl Try.func169 (by kernel_rfl) rfl #[.string a0_0] rfl ag_ ?_; (with_reducible refine (spec_IsWord.calls k a0_0 true _ A2.out).mono ?_); rintro e w' ⟨rfl, ⟨nd, rfl⟩⟩; refine ⟨_, rfl, ?_⟩) | (go_at_call 137; (with_reducible refine (spec_l01In.calls a0_1 0 3 true _ A4.out).mono ?_); rintro e w' ⟨rfl, ⟨nd, rfl⟩⟩) | (go_at_call 137; (with_reducible refine (spec_l01In.calls a0_2 20 300 true _ A6.out).mono ?_); rintro e w' ⟨rfl, ⟨nd, rfl⟩⟩) | (go_at_call 137; (with_reducible refine (spec_l01In.calls a0_3 0 10000 true _ A8.out).mono ?_); rintro e w' ⟨rfl, ⟨nd, rfl⟩⟩) | (go_at_call 137; (with_reducible refine (spec_l01In.calls a0_4 0 a0_3 true _ A10.out).mono ?_); rintro e w' ⟨rfl, ⟨nd, rfl⟩⟩) | (go_at_call 137; (with_reducible refine (spec_l01In.calls a0_5 1 50 true _ A12.out).mono ?_); rintro e w' ⟨rfl, ⟨nd, rfl⟩⟩) | (go_at_call 137; (with_reducible refine (spec_l01In.calls a0_6 0 10000 true _ A14.out).mono ?_); rintro e w' ⟨rfl, ⟨nd, rfl⟩⟩) | (go_at_call 137; (with_reducible refine (spec_l01In.calls a0_7 1 100000 false _ A16.out).mono ?_); rintro e w' ⟨rfl, ⟨nd, rfl⟩⟩))
         go_ret
         exact ⟨by first | rfl | (simp [errW_none, errW_some] <;> rfl) | (simp [*, errW_none, errW_some] <;> rfl), r0_ HB.out GE204.out⟩
       ·replace c15 := Bool.eq_false_iff.mpr c15
        subst c15
        replace H : (some false) = some r := by rw [if_neg (show ¬ (false = true) by decide)] at H; exact H
        obtain rfl := Option.some.inj H
        go_enter Try.func167, Try.ntmps167
        go_wp2_with (first | ((with_reducible refine gate_dst (N := 1) rfl ?_); refine box_event ?hg (N := 1) ?hd (cs := #[.string a0_0, .int .i64 a0_1, .int .i64 a0_2, .int .i64 a0_3, .int .i64 a0_4, .int .i64 a0_5, .int .i64 a0_6, .int .i64 a0_7, .int .i64 a0_8]) (t := 130) ?hr ?_; (case hd => rfl); (case hg => rfl); (case hr => first | (go_simp; done) | (go_simp; rfl)); intro gb204 hg w23 hbox hb; have BK204 := Aside0.mk (hbox); have GW204 := Aside0.mk ((by rw [hg]; exact (below_size (bl_ HB.out)) : w.heap.size ≤ gb204)); have GE204 := Aside0.mk ((by rw [hg]; exact (below_size (bl_ HB.out)) : w.heap.size ≤ gb204)); replace HB := Aside0.mk (below_step (bl_ HB.out) hb); clear hb hbox hg; have hcz24_0 : w23.cell? ⟨gb204, 0, none⟩ = some (.string a0_0) := (blk_cell BK204.out 0).trans rfl; have hcz24_1 : w23.cell? ⟨gb204, 1, none⟩ = some (.int .i64 a0_1) := (blk_cell BK204.out 1).trans rfl; have hcz24_2 : w23.cell? ⟨gb204, 2, none⟩ = some (.int .i64 a0_2) := (blk_cell BK204.out 2).trans rfl; have hcz24_3 : w23.cell? ⟨gb204, 3, none⟩ = some (.int .i64 a0_3) := (blk_cell BK204.out 3).trans rfl; have hcz24_4 : w23.cell? ⟨gb204, 4, none⟩ = some (.int .i64 a0_4) := (blk_cell BK204.out 4).trans rfl; have hcz24_5 : w23.cell? ⟨gb204, 5, none⟩ = some (.int .i64 a0_5) := (blk_cell BK204.out 5).trans rfl; have hcz24_6 : w23.cell? ⟨gb204, 6, none⟩ = some (.int .i64 a0_6) := (blk_cell BK204.out 6).trans rfl; have hcz24_7 : w23.cell? ⟨gb204, 7, none⟩ = some (.int .i64 a0_7) := (blk_cell BK204.out 7).trans rfl; have hcz24_8 : w23.cell? ⟨gb204, 8, none⟩ = some (.int .i64 a0_8) := (blk_cell BK204.out 8).trans rfl; have hfz24_0 := blk_frozen BK204.out 0; have hfz24_1 := blk_frozen BK204.out 1; have hfz24_2 := blk_frozen BK204.out 2; have hfz24_3 := blk_frozen BK204.out 3; have hfz24_4 := blk_frozen BK204.out 4; have hfz24_5 := blk_frozen BK204.out 5; have hfz24_6 := blk_frozen BK204.out 6; have hfz24_7 := blk_frozen BK204.out 7; have hfz24_8 := blk_frozen BK204.out 8) | ((with_reducible refine gate_callee (f := 169) rfl ?_); refine goesL_ (some 5) rfl rfl Try.func169 (by kernel_rfl) rfl #[.string a0_0] rfl ag_ ?_; (with_reducible refine (spec_IsWord.calls k a0_0 true _ A2.out).mono ?_); rintro e w' ⟨rfl, ⟨nd, rfl⟩⟩; refine ⟨_, rfl, ?_⟩) | (go_at_call 137; (with_reducible refine (spec_l01In.calls a0_1 0 3 true _ A4.out).mono ?_); rintro e w' ⟨rfl, ⟨nd, rfl⟩⟩) | (go_at_call 137; (with_reducible refine (spec_l01In.calls a0_2 20 300 true _ A6.out).mono ?_); rintro e w' ⟨rfl, ⟨nd, rfl⟩⟩) | (go_at_call 137; (with_reducible refine (spec_l01In.calls a0_3 0 10000 true _ A8.out).mono ?_); rintro e w' ⟨rfl, ⟨nd, rfl⟩⟩) | (go_at_call 137; (with_reducible refine (spec_l01In.calls a0_4 0 a0_3 true _ A10.out).mono ?_); rintro e w' ⟨rfl, ⟨nd, rfl⟩⟩) | (go_at_call 137; (with_reducible refine (spec_l01In.calls a0_5 1 50 true _ A12.out).mono ?_); rintro e w' ⟨rfl, ⟨nd, rfl⟩⟩) | (go_at_call 137; (with_reducible refine (spec_l01In.calls a0_6 0 10000 false _ A14.out).mono ?_); rintro e w' ⟨rfl, ⟨nd, rfl⟩⟩))
        go_ret
        exact ⟨by first | rfl | (simp [errW_none, errW_some] <;> rfl) | (simp [*, errW_none, errW_some] <;> rfl), r0_ HB.out GE204.out⟩
      ·replace c13 := Bool.eq_false_iff.mpr c13
       subst c13
       replace H : (some false) = some r := by rw [if_neg (show ¬ (false = true) by decide)] at H; exact H
       obtain rfl := Option.some.inj H
       go_enter Try.func167, Try.ntmps167
       go_wp2_with (first | ((with_reducible refine gate_dst (N := 1) rfl ?_); refine box_event ?hg (N := 1) ?hd (cs := #[.string a0_0, .int .i64 a0_1, .int .i64 a0_2, .int .i64 a0_3, .int .i64 a0_4, .int .i64 a0_5, .int .i64 a0_6, .int .i64 a0_7, .int .i64 a0_8]) (t := 130) ?hr ?_; (case hd => rfl); (case hg => rfl); (case hr => first | (go_simp; done) | (go_simp; rfl)); intro gb204 hg w25 hbox hb; have BK204 := Aside0.mk (hbox); have GW204 := Aside0.mk ((by rw [hg]; exact (below_size (bl_ HB.out)) : w.heap.size ≤ gb204)); have GE204 := Aside0.mk ((by rw [hg]; exact (below_size (bl_ HB.out)) : w.heap.size ≤ gb204)); replace HB := Aside0.mk (below_step (bl_ HB.out) hb); clear hb hbox hg; have hcz26_0 : w25.cell? ⟨gb204, 0, none⟩ = some (.string a0_0) := (blk_cell BK204.out 0).trans rfl; have hcz26_1 : w25.cell? ⟨gb204, 1, none⟩ = some (.int .i64 a0_1) := (blk_cell BK204.out 1).trans rfl; have hcz26_2 : w25.cell? ⟨gb204, 2, none⟩ = some (.int .i64 a0_2) := (blk_cell BK204.out 2).trans rfl; have hcz26_3 : w25.cell? ⟨gb204, 3, none⟩ = some (.int .i64 a0_3) := (blk_cell BK204.out 3).trans rfl; have hcz26_4 : w25.cell? ⟨gb204, 4, none⟩ = some (.int .i64 a0_4) := (blk_cell BK204.out 4).trans rfl; have hcz26_5 : w25.cell? ⟨gb204, 5, none⟩ = some (.int .i64 a0_5) := (blk_cell BK204.out 5).trans rfl; have hcz26_6 : w25.cell? ⟨gb204, 6, none⟩ = some (.int .i64 a0_6) := (blk_cell BK204.out 6).trans rfl; have hcz26_7 : w25.cell? ⟨gb204, 7, none⟩ = some (.int .i64 a0_7) := (blk_cell BK204.out 7).trans rfl; have hcz26_8 : w25.cell? ⟨gb204, 8, none⟩ = some (.int .i64 a0_8) := (blk_cell BK204.out 8).trans rfl; have hfz26_0 := blk_frozen BK204.out 0; have hfz26_1 := blk_frozen BK204.out 1; have hfz26_2 := blk_frozen BK204.out 2; have hfz26_3 := blk_frozen BK204.out 3; have hfz26_4 := blk_frozen BK204.out 4; have hfz26_5 := blk_frozen BK204.out 5; have hfz26_6 := blk_frozen BK204.out 6; have hfz26_7 := blk_frozen BK204.out 7; have hfz26_8 := blk_frozen BK204.out 8) | ((with_reducible refine gate_callee (f := 169) rfl ?_); refine goesL_ (some 5) rfl rfl Try.func169 (by kernel_rfl) rfl #[.string a0_0] rfl ag_ ?_; (with_reducible refine (spec_IsWord.calls k a0_0 true _ A2.out).mono ?_); rintro e w' ⟨rfl, ⟨nd, rfl⟩⟩; refine ⟨_, rfl, ?_⟩) | (go_at_call 137; (with_reducible refine (spec_l01In.calls a0_1 0 3 true _ A4.out).mono ?_); rintro e w' ⟨rfl, ⟨nd, rfl⟩⟩) | (go_at_call 137; (with_reducible refine (spec_l01In.calls a0_2 20 300 true _ A6.out).mono ?_); rintro e w' ⟨rfl, ⟨nd, rfl⟩⟩) | (go_at_call 137; (with_reducible refine (spec_l01In.calls a0_3 0 10000 true _ A8.out).mono ?_); rintro e w' ⟨rfl, ⟨nd, rfl⟩⟩) | (go_at_call 137; (with_reducible refine (spec_l01In.calls a0_4 0 a0_3 true _ A10.out).mono ?_); rintro e w' ⟨rfl, ⟨nd, rfl⟩⟩) | (go_at_call 137; (with_reducible refine (spec_l01In.calls a0_5 1 50 false _ A12.out).mono ?_); rintro e w' ⟨rfl, ⟨nd, rfl⟩⟩))
       go_ret
       exact ⟨by first | rfl | (simp [errW_none, errW_some] <;> rfl) | (simp [*, errW_none, errW_some] <;> rfl), r0_ HB.out GE204.out⟩
     ·replace c11 := Bool.eq_false_iff.mpr c11
      subst c11
      replace H : (some false) = some r := by rw [if_neg (show ¬ (false = true) by decide)] at H; exact H
      obtain rfl := Option.some.inj H
      go_enter Try.func167, Try.ntmps167
      go_wp2_with (first | ((with_reducible refine gate_dst (N := 1) rfl ?_); refine box_event ?hg (N := 1) ?hd (cs := #[.string a0_0, .int .i64 a0_1, .int .i64 a0_2, .int .i64 a0_3, .int .i64 a0_4, .int .i64 a0_5, .int .i64 a0_6, .int .i64 a0_7, .int .i64 a0_8]) (t := 130) ?hr ?_; (case hd => rfl); (case hg => rfl); (case hr => first | (go_simp; done) | (go_simp; rfl)); intro gb204 hg w27 hbox hb; have BK204 := Aside0.mk (hbox); have GW204 := Aside0.mk ((by rw [hg]; exact (below_size (bl_ HB.out)) : w.heap.size ≤ gb204)); have GE204 := Aside0.mk ((by rw [hg]; exact (below_size (bl_ HB.out)) : w.heap.size ≤ gb204)); replace HB := Aside0.mk (below_step (bl_ HB.out) hb); clear hb hbox hg; have hcz28_0 : w27.cell? ⟨gb204, 0, none⟩ = some (.string a0_0) := (blk_cell BK204.out 0).trans rfl; have hcz28_1 : w27.cell? ⟨gb204, 1, none⟩ = some (.int .i64 a0_1) := (blk_cell BK204.out 1).trans rfl; have hcz28_2 : w27.cell? ⟨gb204, 2, none⟩ = some (.int .i64 a0_2) := (blk_cell BK204.out 2).trans rfl; have hcz28_3 : w27.cell? ⟨gb204, 3, none⟩ = some (.int .i64 a0_3) := (blk_cell BK204.out 3).trans rfl; have hcz28_4 : w27.cell? ⟨gb204, 4, none⟩ = some (.int .i64 a0_4) := (blk_cell BK204.out 4).trans rfl; have hcz28_5 : w27.cell? ⟨gb204, 5, none⟩ = some (.int .i64 a0_5) := (blk_cell BK204.out 5).trans rfl; have hcz28_6 : w27.cell? ⟨gb204, 6, none⟩ = some (.int .i64 a0_6) := (blk_cell BK204.out 6).trans rfl; have hcz28_7 : w27.cell? ⟨gb204, 7, none⟩ = some (.int .i64 a0_7) := (blk_cell BK204.out 7).trans rfl; have hcz28_8 : w27.cell? ⟨gb204, 8, none⟩ = some (.int .i64 a0_8) := (blk_cell BK204.out 8).trans rfl; have hfz28_0 := blk_frozen BK204.out 0; have hfz28_1 := blk_frozen BK204.out 1; have hfz28_2 := blk_frozen BK204.out 2; have hfz28_3 := blk_frozen BK204.out 3; have hfz28_4 := blk_frozen BK204.out 4; have hfz28_5 := blk_frozen BK204.out 5; have hfz28_6 := blk_frozen BK204.out 6; have hfz28_7 := blk_frozen BK204.out 7; have hfz28_8 := blk_frozen BK204.out 8) | ((with_reducible refine gate_callee (f := 169) rfl ?_); refine goesL_ (some 5) rfl rfl Try.func169 (by kernel_rfl) rfl #[.string a0_0] rfl ag_ ?_; (with_reducible refine (spec_IsWord.calls k a0_0 true _ A2.out).mono ?_); rintro e w' ⟨rfl, ⟨nd, rfl⟩⟩; refine ⟨_, rfl, ?_⟩) | (go_at_call 137; (with_reducible refine (spec_l01In.calls a0_1 0 3 true _ A4.out).mono ?_); rintro e w' ⟨rfl, ⟨nd, rfl⟩⟩) | (go_at_call 137; (with_reducible refine (spec_l01In.calls a0_2 20 300 true _ A6.out).mono ?_); rintro e w' ⟨rfl, ⟨nd, rfl⟩⟩) | (go_at_call 137; (with_reducible refine (spec_l01In.calls a0_3 0 10000 true _ A8.out).mono ?_); rintro e w' ⟨rfl, ⟨nd, rfl⟩⟩) | (go_at_call 137; (with_reducible refine (spec_l01In.calls a0_4 0 a0_3 false _ A10.out).mono ?_); rintro e w' ⟨rfl, ⟨nd, rfl⟩⟩))
      go_ret
      exact ⟨by first | rfl | (simp [errW_none, errW_some] <;> rfl) | (simp [*, errW_none, errW_some] <;> rfl), r0_ HB.out GE204.out⟩
    ·replace c9 := Bool.eq_false_iff.mpr c9
     subst c9
     replace H : (some false) = some r := by rw [if_neg (show ¬ (false = true) by decide)] at H; exact H
     obtain rfl := Option.some.inj H
     go_enter Try.func167, Try.ntmps167
     go_wp2_with (first | ((with_reducible refine gate_dst (N := 1) rfl ?_); refine box_event ?hg (N := 1) ?hd (cs := #[.string a0_0, .int .i64 a0_1, .int .i64 a0_2, .int .i64 a0_3, .int .i64 a0_4, .int .i64 a0_5, .int .i64 a0_6, .int .i64 a0_7, .int .i64 a0_8]) (t := 130) ?hr ?_; (case hd => rfl); (case hg => rfl); (case hr => first | (go_simp; done) | (go_simp; rfl)); intro gb204 hg w29 hbox hb; have BK204 := Aside0.mk (hbox); have GW204 := Aside0.mk ((by rw [hg]; exact (below_size (bl_ HB.out)) : w.heap.size ≤ gb204)); have GE204 := Aside0.mk ((by rw [hg]; exact (below_size (bl_ HB.out)) : w.heap.size ≤ gb204)); replace HB := Aside0.mk (below_step (bl_ HB.out) hb); clear hb hbox hg; have hcz30_0 : w29.cell? ⟨gb204, 0, none⟩ = some (.string a0_0) := (blk_cell BK204.out 0).trans rfl; have hcz30_1 : w29.cell? ⟨gb204, 1, none⟩ = some (.int .i64 a0_1) := (blk_cell BK204.out 1).trans rfl; have hcz30_2 : w29.cell? ⟨gb204, 2, none⟩ = some (.int .i64 a0_2) := (blk_cell BK204.out 2).trans rfl; have hcz30_3 : w29.cell? ⟨gb204, 3, none⟩ = some (.int .i64 a0_3) := (blk_cell BK204.out 3).trans rfl; have hcz30_4 : w29.cell? ⟨gb204, 4, none⟩ = some (.int .i64 a0_4) := (blk_cell BK204.out 4).trans rfl; have hcz30_5 : w29.cell? ⟨gb204, 5, none⟩ = some (.int .i64 a0_5) := (blk_cell BK204.out 5).trans rfl; have hcz30_6 : w29.cell? ⟨gb204, 6, none⟩ = some (.int .i64 a0_6) := (blk_cell BK204.out 6).trans rfl; have hcz30_7 : w29.cell? ⟨gb204, 7, none⟩ = some (.int .i64 a0_7) := (blk_cell BK204.out 7).trans rfl; have hcz30_8 : w29.cell? ⟨gb204, 8, none⟩ = some (.int .i64 a0_8) := (blk_cell BK204.out 8).trans rfl; have hfz30_0 := blk_frozen BK204.out 0; have hfz30_1 := blk_frozen BK204.out 1; have hfz30_2 := blk_frozen BK204.out 2; have hfz30_3 := blk_frozen BK204.out 3; have hfz30_4 := blk_frozen BK204.out 4; have hfz30_5 := blk_frozen BK204.out 5; have hfz30_6 := blk_frozen BK204.out 6; have hfz30_7 := blk_frozen BK204.out 7; have hfz30_8 := blk_frozen BK204.out 8) | ((with_reducible refine gate_callee (f := 169) rfl ?_); refine goesL_ (some 5) rfl rfl Try.func169 (by kernel_rfl) rfl #[.string a0_0] rfl ag_ ?_; (with_reducible refine (spec_IsWord.calls k a0_0 true _ A2.out).mono ?_); rintro e w' ⟨rfl, ⟨nd, rfl⟩⟩; refine ⟨_, rfl, ?_⟩) | (go_at_call 137; (with_reducible refine (spec_l01In.calls a0_1 0 3 true _ A4.out).mono ?_); rintro e w' ⟨rfl, ⟨nd, rfl⟩⟩) | (go_at_call 137; (with_reducible refine (spec_l01In.calls a0_2 20 300 true _ A6.out).mono ?_); rintro e w' ⟨rfl, ⟨nd, rfl⟩⟩) | (go_at_call 137; (with_reducible refine (spec_l01In.calls a0_3 0 10000 false _ A8.out).mono ?_); rintro e w' ⟨rfl, ⟨nd, rfl⟩⟩))
     go_ret
     exact ⟨by first | rfl | (simp [errW_none, errW_some] <;> rfl) | (simp [*, errW_none, errW_some] <;> rfl), r0_ HB.out GE204.out⟩
   ·replace c7 := Bool.eq_false_iff.mpr c7
    subst c7
    replace H : (some false) = some r := by rw [if_neg (show ¬ (false = true) by decide)] at H; exact H
    obtain rfl := Option.some.inj H
    go_enter Try.func167, Try.ntmps167
    go_wp2_with (first | ((with_reducible refine gate_dst (N := 1) rfl ?_); refine box_event ?hg (N := 1) ?hd (cs := #[.string a0_0, .int .i64 a0_1, .int .i64 a0_2, .int .i64 a0_3, .int .i64 a0_4, .int .i64 a0_5, .int .i64 a0_6, .int .i64 a0_7, .int .i64 a0_8]) (t := 130) ?hr ?_; (case hd => rfl); (case hg => rfl); (case hr => first | (go_simp; done) | (go_simp; rfl)); intro gb204 hg w31 hbox hb; have BK204 := Aside0.mk (hbox); have GW204 := Aside0.mk ((by rw [hg]; exact (below_size (bl_ HB.out)) : w.heap.size ≤ gb204)); have GE204 := Aside0.mk ((by rw [hg]; exact (below_size (bl_ HB.out)) : w.heap.size ≤ gb204)); replace HB := Aside0.mk (below_step (bl_ HB.out) hb); clear hb hbox hg; have hcz32_0 : w31.cell? ⟨gb204, 0, none⟩ = some (.string a0_0) := (blk_cell BK204.out 0).trans rfl; have hcz32_1 : w31.cell? ⟨gb204, 1, none⟩ = some (.int .i64 a0_1) := (blk_cell BK204.out 1).trans rfl; have hcz32_2 : w31.cell? ⟨gb204, 2, none⟩ = some (.int .i64 a0_2) := (blk_cell BK204.out 2).trans rfl; have hcz32_3 : w31.cell? ⟨gb204, 3, none⟩ = some (.int .i64 a0_3) := (blk_cell BK204.out 3).trans rfl; have hcz32_4 : w31.cell? ⟨gb204, 4, none⟩ = some (.int .i64 a0_4) := (blk_cell BK204.out 4).trans rfl; have hcz32_5 : w31.cell? ⟨gb204, 5, none⟩ = some (.int .i64 a0_5) := (blk_cell BK204.out 5).trans rfl; have hcz32_6 : w31.cell? ⟨gb204, 6, none⟩ = some (.int .i64 a0_6) := (blk_cell BK204.out 6).trans rfl; have hcz32_7 : w31.cell? ⟨gb204, 7, none⟩ = some (.int .i64 a0_7) := (blk_cell BK204.out 7).trans rfl; have hcz32_8 : w31.cell? ⟨gb204, 8, none⟩ = some (.int .i64 a0_8) := (blk_cell BK204.out 8).trans rfl; have hfz32_0 := blk_frozen BK204.out 0; have hfz32_1 := blk_frozen BK204.out 1; have hfz32_2 := blk_frozen BK204.out 2; have hfz32_3 := blk_frozen BK204.out 3; have hfz32_4 := blk_frozen BK204.out 4; have hfz32_5 := blk_frozen BK204.out 5; have hfz32_6 := blk_frozen BK204.out 6; have hfz32_7 := blk_frozen BK204.out 7; have hfz32_8 := blk_frozen BK204.out 8) | ((with_reducible refine gate_callee (f := 169) rfl ?_); refine goesL_ (some 5) rfl rfl Try.func169 (by kernel_rfl) rfl #[.string a0_0] rfl ag_ ?_; (with_reducible refine (spec_IsWord.calls k a0_0 true _ A2.out).mono ?_); rintro e w' ⟨rfl, ⟨nd, rfl⟩⟩; refine ⟨_, rfl, ?_⟩) | (go_at_call 137; (with_reducible refine (spec_l01In.calls a0_1 0 3 true _ A4.out).mono ?_); rintro e w' ⟨rfl, ⟨nd, rfl⟩⟩) | (go_at_call 137; (with_reducible refine (spec_l01In.calls a0_2 20 300 false _ A6.out).mono ?_); rintro e w' ⟨rfl, ⟨nd, rfl⟩⟩))
    go_ret
    exact ⟨by first | rfl | (simp [errW_none, errW_some] <;> rfl) | (simp [*, errW_none, errW_some] <;> rfl), r0_ HB.out GE204.out⟩
  ·replace c5 := Bool.eq_false_iff.mpr c5
   subst c5
   replace H : (some false) = some r := by rw [if_neg (show ¬ (false = true) by decide)] at H; exact H
   obtain rfl := Option.some.inj H
   go_enter Try.func167, Try.ntmps167
   go_wp2_with (first | ((with_reducible refine gate_dst (N := 1) rfl ?_); refine box_event ?hg (N := 1) ?hd (cs := #[.string a0_0, .int .i64 a0_1, .int .i64 a0_2, .int .i64 a0_3, .int .i64 a0_4, .int .i64 a0_5, .int .i64 a0_6, .int .i64 a0_7, .int .i64 a0_8]) (t := 130) ?hr ?_; (case hd => rfl); (case hg => rfl); (case hr => first | (go_simp; done) | (go_simp; rfl)); intro gb204 hg w33 hbox hb; have BK204 := Aside0.mk (hbox); have GW204 := Aside0.mk ((by rw [hg]; exact (below_size (bl_ HB.out)) : w.heap.size ≤ gb204)); have GE204 := Aside0.mk ((by rw [hg]; exact (below_size (bl_ HB.out)) : w.heap.size ≤ gb204)); replace HB := Aside0.mk (below_step (bl_ HB.out) hb); clear hb hbox hg; have hcz34_0 : w33.cell? ⟨gb204, 0, none⟩ = some (.string a0_0) := (blk_cell BK204.out 0).trans rfl; have hcz34_1 : w33.cell? ⟨gb204, 1, none⟩ = some (.int .i64 a0_1) := (blk_cell BK204.out 1).trans rfl; have hcz34_2 : w33.cell? ⟨gb204, 2, none⟩ = some (.int .i64 a0_2) := (blk_cell BK204.out 2).trans rfl; have hcz34_3 : w33.cell? ⟨gb204, 3, none⟩ = some (.int .i64 a0_3) := (blk_cell BK204.out 3).trans rfl; have hcz34_4 : w33.cell? ⟨gb204, 4, none⟩ = some (.int .i64 a0_4) := (blk_cell BK204.out 4).trans rfl; have hcz34_5 : w33.cell? ⟨gb204, 5, none⟩ = some (.int .i64 a0_5) := (blk_cell BK204.out 5).trans rfl; have hcz34_6 : w33.cell? ⟨gb204, 6, none⟩ = some (.int .i64 a0_6) := (blk_cell BK204.out 6).trans rfl; have hcz34_7 : w33.cell? ⟨gb204, 7, none⟩ = some (.int .i64 a0_7) := (blk_cell BK204.out 7).trans rfl; have hcz34_8 : w33.cell? ⟨gb204, 8, none⟩ = some (.int .i64 a0_8) := (blk_cell BK204.out 8).trans rfl; have hfz34_0 := blk_frozen BK204.out 0; have hfz34_1 := blk_frozen BK204.out 1; have hfz34_2 := blk_frozen BK204.out 2; have hfz34_3 := blk_frozen BK204.out 3; have hfz34_4 := blk_frozen BK204.out 4; have hfz34_5 := blk_frozen BK204.out 5; have hfz34_6 := blk_frozen BK204.out 6; have hfz34_7 := blk_frozen BK204.out 7; have hfz34_8 := blk_frozen BK204.out 8) | ((with_reducible refine gate_callee (f := 169) rfl ?_); refine goesL_ (some 5) rfl rfl Try.func169 (by kernel_rfl) rfl #[.string a0_0] rfl ag_ ?_; (with_reducible refine (spec_IsWord.calls k a0_0 true _ A2.out).mono ?_); rintro e w' ⟨rfl, ⟨nd, rfl⟩⟩; refine ⟨_, rfl, ?_⟩) | (go_at_call 137; (with_reducible refine (spec_l01In.calls a0_1 0 3 false _ A4.out).mono ?_); rintro e w' ⟨rfl, ⟨nd, rfl⟩⟩))
   go_ret
   exact ⟨by first | rfl | (simp [errW_none, errW_some] <;> rfl) | (simp [*, errW_none, errW_some] <;> rfl), r0_ HB.out GE204.out⟩
 ·replace c3 := Bool.eq_false_iff.mpr c3
  subst c3
  replace H : (some false) = some r := by rw [if_neg (show ¬ (false = true) by decide)] at H; exact H
  obtain rfl := Option.some.inj H
  go_enter Try.func167, Try.ntmps167
  go_wp2_with (first | ((with_reducible refine gate_dst (N := 1) rfl ?_); refine box_event ?hg (N := 1) ?hd (cs := #[.string a0_0, .int .i64 a0_1, .int .i64 a0_2, .int .i64 a0_3, .int .i64 a0_4, .int .i64 a0_5, .int .i64 a0_6, .int .i64 a0_7, .int .i64 a0_8]) (t := 130) ?hr ?_; (case hd => rfl); (case hg => rfl); (case hr => first | (go_simp; done) | (go_simp; rfl)); intro gb204 hg w35 hbox hb; have BK204 := Aside0.mk (hbox); have GW204 := Aside0.mk ((by rw [hg]; exact (below_size (bl_ HB.out)) : w.heap.size ≤ gb204)); have GE204 := Aside0.mk ((by rw [hg]; exact (below_size (bl_ HB.out)) : w.heap.size ≤ gb204)); replace HB := Aside0.mk (below_step (bl_ HB.out) hb); clear hb hbox hg; have hcz36_0 : w35.cell? ⟨gb204, 0, none⟩ = some (.string a0_0) := (blk_cell BK204.out 0).trans rfl; have hcz36_1 : w35.cell? ⟨gb204, 1, none⟩ = some (.int .i64 a0_1) := (blk_cell BK204.out 1).trans rfl; have hcz36_2 : w35.cell? ⟨gb204, 2, none⟩ = some (.int .i64 a0_2) := (blk_cell BK204.out 2).trans rfl; have hcz36_3 : w35.cell? ⟨gb204, 3, none⟩ = some (.int .i64 a0_3) := (blk_cell BK204.out 3).trans rfl; have hcz36_4 : w35.cell? ⟨gb204, 4, none⟩ = some (.int .i64 a0_4) := (blk_cell BK204.out 4).trans rfl; have hcz36_5 : w35.cell? ⟨gb204, 5, none⟩ = some (.int .i64 a0_5) := (blk_cell BK204.out 5).trans rfl; have hcz36_6 : w35.cell? ⟨gb204, 6, none⟩ = some (.int .i64 a0_6) := (blk_cell BK204.out 6).trans rfl; have hcz36_7 : w35.cell? ⟨gb204, 7, none⟩ = some (.int .i64 a0_7) := (blk_cell BK204.out 7).trans rfl; have hcz36_8 : w35.cell? ⟨gb204, 8, none⟩ = some (.int .i64 a0_8) := (blk_cell BK204.out 8).trans rfl; have hfz36_0 := blk_frozen BK204.out 0; have hfz36_1 := blk_frozen BK204.out 1; have hfz36_2 := blk_frozen BK204.out 2; have hfz36_3 := blk_frozen BK204.out 3; have hfz36_4 := blk_frozen BK204.out 4; have hfz36_5 := blk_frozen BK204.out 5; have hfz36_6 := blk_frozen BK204.out 6; have hfz36_7 := blk_frozen BK204.out 7; have hfz36_8 := blk_frozen BK204.out 8) | ((with_reducible refine gate_callee (f := 169) rfl ?_); refine goesL_ (some 5) rfl rfl Try.func169 (by kernel_rfl) rfl #[.string a0_0] rfl ag_ ?_; (with_reducible refine (spec_IsWord.calls k a0_0 false _ A2.out).mono ?_); rintro e w' ⟨rfl, ⟨nd, rfl⟩⟩; refine ⟨_, rfl, ?_⟩))
  go_ret
  exact ⟨by first | rfl | (simp [errW_none, errW_some] <;> rfl) | (simp [*, errW_none, errW_some] <;> rfl), r0_ HB.out GE204.out⟩
def spec_AreArticles.l0 : Nat → List (S130) → Int → Option (Bool)
 | 0, _, _ => none
 | k + 1, x0, x3 => if x3 < (x0.length : Int) then (if 0 ≤ x3 then ((spec_IsArticle.f k ((rd_T130 x0 x3).f0) ((rd_T130 x0 x3).f1) ((rd_T130 x0 x3).f2) ((rd_T130 x0 x3).f3) ((rd_T130 x0 x3).f4) ((rd_T130 x0 x3).f5) ((rd_T130 x0 x3).f6) ((rd_T130 x0 x3).f7) ((rd_T130 x0 x3).f8)).bind fun t215 => (if t215 = true then (if x3 > 0 then (if 0 ≤ (wrap64 (x3 - 1)) then (if (wrap64 (x3 - 1)) < (x0.length : Int) then (if ((Op.bytesLess (((rd_T130 x0 (wrap64 (x3 - 1))).f0).toList) (((rd_T130 x0 x3).f0).toList)) = true) then (spec_AreArticles.l0 k x0 (wrap64 (x3 + 1))) else (some false)) else (none)) else (none)) else (spec_AreArticles.l0 k x0 (wrap64 (x3 + 1)))) else (some false))) else (none)) else (some (decide ((x0.length : Int) ≤ 12)))
def spec_AreArticles.f (k : Nat) (l0 : List (S130)) : Option (Bool) := spec_AreArticles.l0 k l0 0
def spec_AreArticles.T4 : Bool × List (List Nat × List Nat) := (true, [([], []), ([], []), ([0, 1], [0, 1]), ([2], [2]), ([3], [3]), ([4], [4]), ([5, 4], [5]), ([6], [6]), ([7, 6], [6, 7]), ([8, 6, 6], [6, 8]), ([9], [9]), ([9], [9]), ([11, 9], [9, 11]), ([10, 12, 9], [9, 10, 12]), ([13, 9], [9, 13]), ([14, 9], [9, 14]), ([9], [9]), ([9], [9]), ([16, 17, 9], [9, 16, 17]), ([18, 9], [9, 18]), ([19, 9], [9, 19]), ([15, 20, 9], [9, 15, 20]), ([9, 21, 6], [6, 9, 21]), ([6, 22], [6, 22])])
def spec_AreArticles.B4 : List Nat := [0, 0, 3, 7, 15, 31, 63, 127, 255, 511, 1023, 1023, 3071, 8191, 16383, 32767, 1023, 1023, 197631, 459775, 984063, 2097151, 4194303, 8388607]
theorem spec_AreArticles.tab4 : rtab .any (opsOf Try.f162 4) = spec_AreArticles.T4 := by kernel_rfl
theorem spec_AreArticles.bits4 : waitsOk spec_AreArticles.T4.2 spec_AreArticles.B4 = true := by kernel_rfl
set_option maxHeartbeats 8000000 in
set_option maxRecDepth 100000 in
theorem spec_AreArticles.calls (k : Nat) (A0 : Option Addr) (c0 : Nat) (l0 : List (S130)) (r : Bool) (w : World) (hr0 : Kd.C k130 w A0 l0.length l0) (hc0 : l0.length ≤ c0) (h : spec_AreArticles.f k l0 = some r) :
  Calls Try.prog 162 #[.slice A0 l0.length c0] w fun e w' => e = .returned (.bool r) ∧ Below w.heap.size w w' := by
 have hu130 := Try.underlying130
 have HR0 := Aside0.mk hr0
 have HC0 := Aside0.mk hc0
 clear hr0 hc0
 have HB := Aside0.mk (Below.refl w.heap.size w)
 have H : (spec_AreArticles.l0 k l0 0) = some r := h
 clear h
 have H' := Aside0.mk H
 clear H
 go_enter Try.func162, Try.ntmps162
 go_wp2
 go_loopg [3] k (fun kq v3 w' => ∃ (x3_1 : Int), v3 = .int .i64 x3_1 ∧ Aside0 (spec_AreArticles.l0 kq l0 x3_1 = some r) ∧ Aside0 (kq ≤ k) ∧ Aside0 (Below w.heap.size w w'))
 case atStart => exact ⟨(0), (by first | rfl | (simp; done) | (simp [*]; done)), H', ⟨Nat.le_refl _⟩, ⟨bl_ HB.out⟩⟩
 case round =>
  clear H'
  try clear c1
  obtain ⟨x3_1, rfl, HA, HK1, HB⟩ := hrel
  cases gk with
  | zero => exact absurd HA.out (by simp [spec_AreArticles.l0])
  | succ k1 =>
   have H := HA.out
   clear HA
   simp only [spec_AreArticles.l0] at H
   by_cases c2 : x3_1 < (l0.length : Int)
   ·rw [if_pos c2] at H
    have c2b0 : decide (x3_1 < (l0.length : Int)) = true := decide_eq_true c2
    clear c2
    by_cases c3 : 0 ≤ x3_1
    case neg =>
     rw [if_neg c3] at H
     exact absurd H (by simp)
    rw [if_pos c3] at H
    have c3b0 : decide (0 ≤ x3_1) = true := decide_eq_true c3
    clear c3
    replace H := Option.bind_eq_some_iff.mp H
    obtain ⟨t215, A40, H⟩ := H
    replace H : (if t215 = true then (if x3_1 > 0 then (if 0 ≤ (wrap64 (x3_1 - 1)) then (if (wrap64 (x3_1 - 1)) < (l0.length : Int) then (if ((Op.bytesLess (((rd_T130 l0 (wrap64 (x3_1 - 1))).f0).toList) (((rd_T130 l0 x3_1).f0).toList)) = true) then (spec_AreArticles.l0 k1 l0 (wrap64 (x3_1 + 1))) else (some false)) else (none)) else (none)) else (spec_AreArticles.l0 k1 l0 (wrap64 (x3_1 + 1)))) else (some false)) = some r := H
    have A4 := Aside0.mk A40
    clear A40
    by_cases c5 : t215 = true
    ·subst c5
     replace H : (if x3_1 > 0 then (if 0 ≤ (wrap64 (x3_1 - 1)) then (if (wrap64 (x3_1 - 1)) < (l0.length : Int) then (if ((Op.bytesLess (((rd_T130 l0 (wrap64 (x3_1 - 1))).f0).toList) (((rd_T130 l0 x3_1).f0).toList)) = true) then (spec_AreArticles.l0 k1 l0 (wrap64 (x3_1 + 1))) else (some false)) else (none)) else (none)) else (spec_AreArticles.l0 k1 l0 (wrap64 (x3_1 + 1)))) = some r := by rw [if_pos rfl] at H; exact H
     by_cases c6 : x3_1 > 0
     ·rw [if_pos c6] at H
      have c6b0 : decide (0 < x3_1) = true := decide_eq_true c6
      clear c6
      obtain ⟨ji7, hji7⟩ : ∃ j_ : Int, (wrap64 (x3_1 - 1)) = j_ := ⟨_, rfl⟩
      replace H : (if 0 ≤ (ji7) then (if (ji7) < (l0.length : Int) then (if ((Op.bytesLess (((rd_T130 l0 (ji7)).f0).toList) (((rd_T130 l0 x3_1).f0).toList)) = true) then (spec_AreArticles.l0 k1 l0 (wrap64 (x3_1 + 1))) else (some false)) else (none)) else (none)) = some r := by first | (rw [hji7] at H; exact H) | (simp only [hji7] at H ⊢; exact H)
      (try rw [hji7] at A4)
      have hji7w : (IntKind.i64.wrap (x3_1 - 1)) = ji7 := (i64_w _).trans hji7
      by_cases c8 : 0 ≤ (ji7)
      case neg =>
       rw [if_neg c8] at H
       exact absurd H (by simp)
      rw [if_pos c8] at H
      have c8b0 : decide (0 ≤ (ji7)) = true := decide_eq_true c8
      clear c8
      by_cases c9 : (ji7) < (l0.length : Int)
      case neg =>
       rw [if_neg c9] at H
       exact absurd H (by simp)
      rw [if_pos c9] at H
      have c9b0 : decide ((ji7) < (l0.length : Int)) = true := decide_eq_true c9
      clear c9
      by_cases c10 : ((Op.bytesLess (((rd_T130 l0 (ji7)).f0).toList) (((rd_T130 l0 x3_1).f0).toList)) = true)
      ·rw [if_pos c10] at H
       have c10b0 : (Op.bytesLess (((rd_T130 l0 (ji7)).f0).toList) (((rd_T130 l0 x3_1).f0).toList)) = true := c10
       clear c10
       have H' := Aside0.mk H
       clear H
       try go_wp2
       replace HB := Aside0.mk (below_drew1 HB.out)
       have p214 : 0 ≤ (x3_1 : Int) := od_
       have q214 : x3_1 < (l0.length : Int) := od_
       obtain ⟨ad214, e214, hx214_0, hx214_1, hx214_2, hx214_3, hx214_4, hx214_5, hx214_6, hx214_7, hx214_8⟩ := at_T130 HR0.out x3_1 p214 q214
       have hw214_8 := hx214_8
       have hw214_7 := hx214_7
       have hw214_6 := hx214_6
       have hw214_5 := hx214_5
       have hw214_4 := hx214_4
       have hw214_3 := hx214_3
       have hw214_2 := hx214_2
       have hw214_1 := hx214_1
       have hw214_0 := hx214_0
       cases e214
       replace hx214_0 := bc_ HB.out hx214_0
       replace hx214_1 := bc_ HB.out hx214_1
       replace hx214_2 := bc_ HB.out hx214_2
       replace hx214_3 := bc_ HB.out hx214_3
       replace hx214_4 := bc_ HB.out hx214_4
       replace hx214_5 := bc_ HB.out hx214_5
       replace hx214_6 := bc_ HB.out hx214_6
       replace hx214_7 := bc_ HB.out hx214_7
       replace hx214_8 := bc_ HB.out hx214_8
       replace p214 := eq_true p214
       replace q214 := eq_true q214
       have p216 : 0 ≤ ((ji7) : Int) := od_
       have q216 : (ji7) < (l0.length : Int) := od_
       obtain ⟨ad216, e216, hx216_0, hx216_1, hx216_2, hx216_3, hx216_4, hx216_5, hx216_6, hx216_7, hx216_8⟩ := at_T130 HR0.out (ji7) p216 q216
       have hw216_8 := hx216_8
       have hw216_7 := hx216_7
       have hw216_6 := hx216_6
       have hw216_5 := hx216_5
       have hw216_4 := hx216_4
       have hw216_3 := hx216_3
       have hw216_2 := hx216_2
       have hw216_1 := hx216_1
       have hw216_0 := hx216_0
       obtain rfl : ad214 = ad216 := (by injection e216)
       replace hx216_0 := bc_ HB.out hx216_0
       replace hx216_1 := bc_ HB.out hx216_1
       replace hx216_2 := bc_ HB.out hx216_2
       replace hx216_3 := bc_ HB.out hx216_3
       replace hx216_4 := bc_ HB.out hx216_4
       replace hx216_5 := bc_ HB.out hx216_5
       replace hx216_6 := bc_ HB.out hx216_6
       replace hx216_7 := bc_ HB.out hx216_7
       replace hx216_8 := bc_ HB.out hx216_8
       replace p216 := eq_true p216
       replace q216 := eq_true q216
       have p217 : 0 ≤ (x3_1 : Int) := od_
       have q217 : x3_1 < (l0.length : Int) := od_
       obtain ⟨ad217, e217, hx217_0, hx217_1, hx217_2, hx217_3, hx217_4, hx217_5, hx217_6, hx217_7, hx217_8⟩ := at_T130 HR0.out x3_1 p217 q217
       have hw217_8 := hx217_8
       have hw217_7 := hx217_7
       have hw217_6 := hx217_6
       have hw217_5 := hx217_5
       have hw217_4 := hx217_4
       have hw217_3 := hx217_3
       have hw217_2 := hx217_2
       have hw217_1 := hx217_1
       have hw217_0 := hx217_0
       obtain rfl : ad214 = ad217 := (by injection e217)
       replace hx217_0 := bc_ HB.out hx217_0
       replace hx217_1 := bc_ HB.out hx217_1
       replace hx217_2 := bc_ HB.out hx217_2
       replace hx217_3 := bc_ HB.out hx217_3
       replace hx217_4 := bc_ HB.out hx217_4
       replace hx217_5 := bc_ HB.out hx217_5
       replace hx217_6 := bc_ HB.out hx217_6
       replace hx217_7 := bc_ HB.out hx217_7
       replace hx217_8 := bc_ HB.out hx217_8
       replace p217 := eq_true p217
       replace q217 := eq_true q217
       refine start_ (n := 24) (S := fun w' => w'.cell? (ad214.add ((x3_1).toNat * 9)) = some (.string ((rd_T130 l0 x3_1).f0)) ∧ w'.cell? ⟨(ad214.add ((x3_1).toNat * 9)).block, (ad214.add ((x3_1).toNat * 9)).off + 1, none⟩ = some (.int .i64 ((rd_T130 l0 x3_1).f1)) ∧ w'.cell? ⟨(ad214.add ((x3_1).toNat * 9)).block, (ad214.add ((x3_1).toNat * 9)).off + 2, none⟩ = some (.int .i64 ((rd_T130 l0 x3_1).f2)) ∧ w'.cell? ⟨(ad214.add ((x3_1).toNat * 9)).block, (ad214.add ((x3_1).toNat * 9)).off + 3, none⟩ = some (.int .i64 ((rd_T130 l0 x3_1).f3)) ∧ w'.cell? ⟨(ad214.add ((x3_1).toNat * 9)).block, (ad214.add ((x3_1).toNat * 9)).off + 4, none⟩ = some (.int .i64 ((rd_T130 l0 x3_1).f4)) ∧ w'.cell? ⟨(ad214.add ((x3_1).toNat * 9)).block, (ad214.add ((x3_1).toNat * 9)).off + 5, none⟩ = some (.int .i64 ((rd_T130 l0 x3_1).f5)) ∧ w'.cell? ⟨(ad214.add ((x3_1).toNat * 9)).block, (ad214.add ((x3_1).toNat * 9)).off + 6, none⟩ = some (.int .i64 ((rd_T130 l0 x3_1).f6)) ∧ w'.cell? ⟨(ad214.add ((x3_1).toNat * 9)).block, (ad214.add ((x3_1).toNat * 9)).off + 7, none⟩ = some (.int .i64 ((rd_T130 l0 x3_1).f7)) ∧ w'.cell? ⟨(ad214.add ((x3_1).toNat * 9)).block, (ad214.add ((x3_1).toNat * 9)).off + 8, none⟩ = some (.int .i64 ((rd_T130 l0 x3_1).f8)) ∧ w'.cell? (ad214.add (((ji7)).toNat * 9)) = some (.string ((rd_T130 l0 (ji7)).f0)) ∧ w'.cell? ⟨(ad214.add (((ji7)).toNat * 9)).block, (ad214.add (((ji7)).toNat * 9)).off + 1, none⟩ = some (.int .i64 ((rd_T130 l0 (ji7)).f1)) ∧ w'.cell? ⟨(ad214.add (((ji7)).toNat * 9)).block, (ad214.add (((ji7)).toNat * 9)).off + 2, none⟩ = some (.int .i64 ((rd_T130 l0 (ji7)).f2)) ∧ w'.cell? ⟨(ad214.add (((ji7)).toNat * 9)).block, (ad214.add (((ji7)).toNat * 9)).off + 3, none⟩ = some (.int .i64 ((rd_T130 l0 (ji7)).f3)) ∧ w'.cell? ⟨(ad214.add (((ji7)).toNat * 9)).block, (ad214.add (((ji7)).toNat * 9)).off + 4, none⟩ = some (.int .i64 ((rd_T130 l0 (ji7)).f4)) ∧ w'.cell? ⟨(ad214.add (((ji7)).toNat * 9)).block, (ad214.add (((ji7)).toNat * 9)).off + 5, none⟩ = some (.int .i64 ((rd_T130 l0 (ji7)).f5)) ∧ w'.cell? ⟨(ad214.add (((ji7)).toNat * 9)).block, (ad214.add (((ji7)).toNat * 9)).off + 6, none⟩ = some (.int .i64 ((rd_T130 l0 (ji7)).f6)) ∧ w'.cell? ⟨(ad214.add (((ji7)).toNat * 9)).block, (ad214.add (((ji7)).toNat * 9)).off + 7, none⟩ = some (.int .i64 ((rd_T130 l0 (ji7)).f7)) ∧ w'.cell? ⟨(ad214.add (((ji7)).toNat * 9)).block, (ad214.add (((ji7)).toNat * 9)).off + 8, none⟩ = some (.int .i64 ((rd_T130 l0 (ji7)).f8)) ∧ w'.cell? (ad214.add ((x3_1).toNat * 9)) = some (.string ((rd_T130 l0 x3_1).f0)) ∧ w'.cell? ⟨(ad214.add ((x3_1).toNat * 9)).block, (ad214.add ((x3_1).toNat * 9)).off + 1, none⟩ = some (.int .i64 ((rd_T130 l0 x3_1).f1)) ∧ w'.cell? ⟨(ad214.add ((x3_1).toNat * 9)).block, (ad214.add ((x3_1).toNat * 9)).off + 2, none⟩ = some (.int .i64 ((rd_T130 l0 x3_1).f2)) ∧ w'.cell? ⟨(ad214.add ((x3_1).toNat * 9)).block, (ad214.add ((x3_1).toNat * 9)).off + 3, none⟩ = some (.int .i64 ((rd_T130 l0 x3_1).f3)) ∧ w'.cell? ⟨(ad214.add ((x3_1).toNat * 9)).block, (ad214.add ((x3_1).toNat * 9)).off + 4, none⟩ = some (.int .i64 ((rd_T130 l0 x3_1).f4)) ∧ w'.cell? ⟨(ad214.add ((x3_1).toNat * 9)).block, (ad214.add ((x3_1).toNat * 9)).off + 5, none⟩ = some (.int .i64 ((rd_T130 l0 x3_1).f5)) ∧ w'.cell? ⟨(ad214.add ((x3_1).toNat * 9)).block, (ad214.add ((x3_1).toNat * 9)).off + 6, none⟩ = some (.int .i64 ((rd_T130 l0 x3_1).f6)) ∧ w'.cell? ⟨(ad214.add ((x3_1).toNat * 9)).block, (ad214.add ((x3_1).toNat * 9)).off + 7, none⟩ = some (.int .i64 ((rd_T130 l0 x3_1).f7)) ∧ w'.cell? ⟨(ad214.add ((x3_1).toNat * 9)).block, (ad214.add ((x3_1).toNat * 9)).off + 8, none⟩ = some (.int .i64 ((rd_T130 l0 x3_1).f8))) (ds := []) #[f_,f_,f_,f_,f_,f_,f_,f_,f_,f_,f_,f_,f_,f_,f_,f_,f_,f_,f_,f_,f_,f_,f_,f_] (by kernel_rfl) rfl rfl ⟨(bc_ HB.out hw214_0 :), (bc_ HB.out hw214_1 :), (bc_ HB.out hw214_2 :), (bc_ HB.out hw214_3 :), (bc_ HB.out hw214_4 :), (bc_ HB.out hw214_5 :), (bc_ HB.out hw214_6 :), (bc_ HB.out hw214_7 :), (bc_ HB.out hw214_8 :), (bc_ HB.out hw216_0 :), (bc_ HB.out hw216_1 :), (bc_ HB.out hw216_2 :), (bc_ HB.out hw216_3 :), (bc_ HB.out hw216_4 :), (bc_ HB.out hw216_5 :), (bc_ HB.out hw216_6 :), (bc_ HB.out hw216_7 :), (bc_ HB.out hw216_8 :), (bc_ HB.out hw217_0 :), (bc_ HB.out hw217_1 :), (bc_ HB.out hw217_2 :), (bc_ HB.out hw217_3 :), (bc_ HB.out hw217_4 :), (bc_ HB.out hw217_5 :), (bc_ HB.out hw217_6 :), (bc_ HB.out hw217_7 :), (bc_ HB.out hw217_8 :)⟩ (fun hHeld => ?_); refine with_tabW spec_AreArticles.tab4 spec_AreArticles.bits4 (fun HT_ HW_ => ?_)
       generalize wr.drew = w11 at HB hx214_0 hx214_1 hx214_2 hx214_3 hx214_4 hx214_5 hx214_6 hx214_7 hx214_8 hx216_0 hx216_1 hx216_2 hx216_3 hx216_4 hx216_5 hx216_6 hx216_7 hx216_8 hx217_0 hx217_1 hx217_2 hx217_3 hx217_4 hx217_5 hx217_6 hx217_7 hx217_8 hHeld ⊢
       refine pu_ 0 10 #[t_,f_,f_,f_,f_,f_,f_,f_,f_,f_,f_,f_,f_,f_,f_,f_,f_,f_,f_,f_,f_,f_,f_,f_] HT_.out ?_
       refine pu_ 1 11 #[t_,t_,f_,f_,f_,f_,f_,f_,f_,f_,f_,f_,f_,f_,f_,f_,f_,f_,f_,f_,f_,f_,f_,f_] HT_.out ?_
       refine pu_ 2 12 #[t_,t_,t_,f_,f_,f_,f_,f_,f_,f_,f_,f_,f_,f_,f_,f_,f_,f_,f_,f_,f_,f_,f_,f_] HT_.out ?_
       refine take_ (i := 3) (N := some 13) (v := ?_) (a' := ?_) #[t_,t_,t_,t_,f_,f_,f_,f_,f_,f_,f_,f_,f_,f_,f_,f_,f_,f_,f_,f_,f_,f_,f_,f_] rfl rfl (take_ofW HT_.out HW_.out (by kernel_rfl)) (fun _ _ _ h => h) (Or.inl ⟨by rfl, ?_⟩) hHeld ?_ ?_
       rotate_left
       ·rintro w' ⟨s0, s1, s2, s3, s4, s5, s6, s7, s8, s9, s10, s11, s12, s13, s14, s15, s16, s17, s18, s19, s20, s21, s22, s23, s24, s25, s26⟩
        go_simp
        with_reducible rfl
       rotate_left
       ·simp only [pz_]
        rfl
       refine one_ (i := 4) (N := some 14) #[t_,t_,t_,t_,t_,f_,f_,f_,f_,f_,f_,f_,f_,f_,f_,f_,f_,f_,f_,f_,f_,f_,f_,f_] rfl rfl (one_of HT_.out (by kernel_rfl)) (by decide) (fun K hK => ?_)
       refine goes_ Try.func167 (by kernel_rfl) rfl #[.agg #[.string ((rd_T130 l0 x3_1).f0), .int .i64 ((rd_T130 l0 x3_1).f1), .int .i64 ((rd_T130 l0 x3_1).f2), .int .i64 ((rd_T130 l0 x3_1).f3), .int .i64 ((rd_T130 l0 x3_1).f4), .int .i64 ((rd_T130 l0 x3_1).f5), .int .i64 ((rd_T130 l0 x3_1).f6), .int .i64 ((rd_T130 l0 x3_1).f7), .int .i64 ((rd_T130 l0 x3_1).f8)]] (by rfl) rfl rfl ag_ ?_
       with_reducible refine (spec_IsArticle.calls k1 ((rd_T130 l0 x3_1).f0) ((rd_T130 l0 x3_1).f1) ((rd_T130 l0 x3_1).f2) ((rd_T130 l0 x3_1).f3) ((rd_T130 l0 x3_1).f4) ((rd_T130 l0 x3_1).f5) ((rd_T130 l0 x3_1).f6) ((rd_T130 l0 x3_1).f7) ((rd_T130 l0 x3_1).f8) true _ A4.out).mono ?_
       rintro e w12 ⟨rfl, hb⟩
       refine ⟨_, rfl, ?_⟩
       replace HB := Aside0.mk (below_step (bl_ HB.out) hb)
       (try clear hb)
       (try clear hb2)
       (try clear hk)
       (try clear hi)
       refine hK.out _ _ ⟨(bc_ HB.out hw214_0 :), (bc_ HB.out hw214_1 :), (bc_ HB.out hw214_2 :), (bc_ HB.out hw214_3 :), (bc_ HB.out hw214_4 :), (bc_ HB.out hw214_5 :), (bc_ HB.out hw214_6 :), (bc_ HB.out hw214_7 :), (bc_ HB.out hw214_8 :), (bc_ HB.out hw216_0 :), (bc_ HB.out hw216_1 :), (bc_ HB.out hw216_2 :), (bc_ HB.out hw216_3 :), (bc_ HB.out hw216_4 :), (bc_ HB.out hw216_5 :), (bc_ HB.out hw216_6 :), (bc_ HB.out hw216_7 :), (bc_ HB.out hw216_8 :), (bc_ HB.out hw217_0 :), (bc_ HB.out hw217_1 :), (bc_ HB.out hw217_2 :), (bc_ HB.out hw217_3 :), (bc_ HB.out hw217_4 :), (bc_ HB.out hw217_5 :), (bc_ HB.out hw217_6 :), (bc_ HB.out hw217_7 :), (bc_ HB.out hw217_8 :)⟩ (fun hHeld => ?_)
       clear hK K
       refine norm_ (a' := ?_) ?_ ?_
       rotate_left
       ·show Act.put _ (some 14) _ = _
        simp only [pz_]
        rfl
       refine pu_ 5 15 #[t_,t_,t_,t_,t_,t_,f_,f_,f_,f_,f_,f_,f_,f_,f_,f_,f_,f_,f_,f_,f_,f_,f_,f_] HT_.out ?_
       refine pu_ 6 16 #[t_,t_,t_,t_,t_,t_,t_,f_,f_,f_,f_,f_,f_,f_,f_,f_,f_,f_,f_,f_,f_,f_,f_,f_] HT_.out ?_
       refine pu_ 7 17 #[t_,t_,t_,t_,t_,t_,t_,t_,f_,f_,f_,f_,f_,f_,f_,f_,f_,f_,f_,f_,f_,f_,f_,f_] HT_.out ?_
       refine pu_ 8 18 #[t_,t_,t_,t_,t_,t_,t_,t_,t_,f_,f_,f_,f_,f_,f_,f_,f_,f_,f_,f_,f_,f_,f_,f_] HT_.out ?_
       refine pu_ 9 19 #[t_,t_,t_,t_,t_,t_,t_,t_,t_,t_,f_,f_,f_,f_,f_,f_,f_,f_,f_,f_,f_,f_,f_,f_] HT_.out ?_
       refine pu_ 10 20 #[t_,t_,t_,t_,t_,t_,t_,t_,t_,t_,t_,f_,f_,f_,f_,f_,f_,f_,f_,f_,f_,f_,f_,f_] HT_.out ?_
       refine pu_ 11 21 #[t_,t_,t_,t_,t_,t_,t_,t_,t_,t_,t_,t_,f_,f_,f_,f_,f_,f_,f_,f_,f_,f_,f_,f_] HT_.out ?_
       refine pu_ 12 22 #[t_,t_,t_,t_,t_,t_,t_,t_,t_,t_,t_,t_,t_,f_,f_,f_,f_,f_,f_,f_,f_,f_,f_,f_] HT_.out ?_
       refine pu_ 13 23 #[t_,t_,t_,t_,t_,t_,t_,t_,t_,t_,t_,t_,t_,t_,f_,f_,f_,f_,f_,f_,f_,f_,f_,f_] HT_.out ?_
       refine pu_ 14 24 #[t_,t_,t_,t_,t_,t_,t_,t_,t_,t_,t_,t_,t_,t_,t_,f_,f_,f_,f_,f_,f_,f_,f_,f_] HT_.out ?_
       refine pu_ 16 26 #[t_,t_,t_,t_,t_,t_,t_,t_,t_,t_,t_,t_,t_,t_,t_,f_,t_,f_,f_,f_,f_,f_,f_,f_] HT_.out ?_
       refine pu_ 17 27 #[t_,t_,t_,t_,t_,t_,t_,t_,t_,t_,t_,t_,t_,t_,t_,f_,t_,t_,f_,f_,f_,f_,f_,f_] HT_.out ?_
       refine pu_ 18 28 #[t_,t_,t_,t_,t_,t_,t_,t_,t_,t_,t_,t_,t_,t_,t_,f_,t_,t_,t_,f_,f_,f_,f_,f_] HT_.out ?_
       refine pu_ 19 29 #[t_,t_,t_,t_,t_,t_,t_,t_,t_,t_,t_,t_,t_,t_,t_,f_,t_,t_,t_,t_,f_,f_,f_,f_] HT_.out ?_
       refine take_ (i := 15) (N := some 25) (v := ?_) (a' := ?_) #[t_,t_,t_,t_,t_,t_,t_,t_,t_,t_,t_,t_,t_,t_,t_,t_,t_,t_,t_,t_,f_,f_,f_,f_] rfl rfl (take_ofW HT_.out HW_.out (by kernel_rfl)) (fun _ _ _ h => h) (Or.inl ⟨by rfl, ?_⟩) hHeld ?_ ?_
       rotate_left
       ·rintro w' ⟨s0, s1, s2, s3, s4, s5, s6, s7, s8, s9, s10, s11, s12, s13, s14, s15, s16, s17, s18, s19, s20, s21, s22, s23, s24, s25, s26⟩
        go_simp
        with_reducible rfl
       rotate_left
       ·simp only [pz_]
        rfl
       refine take_ (i := 20) (N := some 30) (v := ?_) (a' := ?_) #[t_,t_,t_,t_,t_,t_,t_,t_,t_,t_,t_,t_,t_,t_,t_,t_,t_,t_,t_,t_,t_,f_,f_,f_] rfl rfl (take_ofW HT_.out HW_.out (by kernel_rfl)) (fun _ _ _ h => h) (Or.inl ⟨by rfl, ?_⟩) hHeld ?_ ?_
       rotate_left
       ·rintro w' ⟨s0, s1, s2, s3, s4, s5, s6, s7, s8, s9, s10, s11, s12, s13, s14, s15, s16, s17, s18, s19, s20, s21, s22, s23, s24, s25, s26⟩
        go_simp
        with_reducible rfl
       rotate_left
       ·simp only [pz_]
        rfl
       refine pu_ 21 31 #[t_,t_,t_,t_,t_,t_,t_,t_,t_,t_,t_,t_,t_,t_,t_,t_,t_,t_,t_,t_,t_,t_,f_,f_] HT_.out ?_
       refine pu_ 22 32 #[t_,t_,t_,t_,t_,t_,t_,t_,t_,t_,t_,t_,t_,t_,t_,t_,t_,t_,t_,t_,t_,t_,t_,f_] HT_.out ?_
       refine pu_ 23 33 #[t_,t_,t_,t_,t_,t_,t_,t_,t_,t_,t_,t_,t_,t_,t_,t_,t_,t_,t_,t_,t_,t_,t_,t_] HT_.out ?_
       refine done_ (done_of HT_.out (by kernel_rfl)) ?_
       try go_wp2
       go_roundg k1
       case measure => have := HK1.out; omega
       case rel => exact ⟨(wrap64 (x3_1 + 1)), (by first | rfl | (simp; done) | (simp [*]; done)), H', ⟨by have := HK1.out; omega⟩, ⟨bl_ HB.out⟩⟩
      ·rw [if_neg c10] at H
       have c10b0 : (Op.bytesLess (((rd_T130 l0 (ji7)).f0).toList) (((rd_T130 l0 x3_1).f0).toList)) = false := by simpa using c10
       clear c10
       obtain rfl := Option.some.inj H
       try go_wp2
       replace HB := Aside0.mk (below_drew1 HB.out)
       have p214 : 0 ≤ (x3_1 : Int) := od_
       have q214 : x3_1 < (l0.length : Int) := od_
       obtain ⟨ad214, e214, hx214_0, hx214_1, hx214_2, hx214_3, hx214_4, hx214_5, hx214_6, hx214_7, hx214_8⟩ := at_T130 HR0.out x3_1 p214 q214
       have hw214_8 := hx214_8
       have hw214_7 := hx214_7
       have hw214_6 := hx214_6
       have hw214_5 := hx214_5
       have hw214_4 := hx214_4
       have hw214_3 := hx214_3
       have hw214_2 := hx214_2
       have hw214_1 := hx214_1
       have hw214_0 := hx214_0
       cases e214
       replace hx214_0 := bc_ HB.out hx214_0
       replace hx214_1 := bc_ HB.out hx214_1
       replace hx214_2 := bc_ HB.out hx214_2
       replace hx214_3 := bc_ HB.out hx214_3
       replace hx214_4 := bc_ HB.out hx214_4
       replace hx214_5 := bc_ HB.out hx214_5
       replace hx214_6 := bc_ HB.out hx214_6
       replace hx214_7 := bc_ HB.out hx214_7
       replace hx214_8 := bc_ HB.out hx214_8
       replace p214 := eq_true p214
       replace q214 := eq_true q214
       have p216 : 0 ≤ ((ji7) : Int) := od_
       have q216 : (ji7) < (l0.length : Int) := od_
       obtain ⟨ad216, e216, hx216_0, hx216_1, hx216_2, hx216_3, hx216_4, hx216_5, hx216_6, hx216_7, hx216_8⟩ := at_T130 HR0.out (ji7) p216 q216
       have hw216_8 := hx216_8
       have hw216_7 := hx216_7
       have hw216_6 := hx216_6
       have hw216_5 := hx216_5
       have hw216_4 := hx216_4
       have hw216_3 := hx216_3
       have hw216_2 := hx216_2
       have hw216_1 := hx216_1
       have hw216_0 := hx216_0
       obtain rfl : ad214 = ad216 := (by injection e216)
       replace hx216_0 := bc_ HB.out hx216_0
       replace hx216_1 := bc_ HB.out hx216_1
       replace hx216_2 := bc_ HB.out hx216_2
       replace hx216_3 := bc_ HB.out hx216_3
       replace hx216_4 := bc_ HB.out hx216_4
       replace hx216_5 := bc_ HB.out hx216_5
       replace hx216_6 := bc_ HB.out hx216_6
       replace hx216_7 := bc_ HB.out hx216_7
       replace hx216_8 := bc_ HB.out hx216_8
       replace p216 := eq_true p216
       replace q216 := eq_true q216
       have p217 : 0 ≤ (x3_1 : Int) := od_
       have q217 : x3_1 < (l0.length : Int) := od_
       obtain ⟨ad217, e217, hx217_0, hx217_1, hx217_2, hx217_3, hx217_4, hx217_5, hx217_6, hx217_7, hx217_8⟩ := at_T130 HR0.out x3_1 p217 q217
       have hw217_8 := hx217_8
       have hw217_7 := hx217_7
       have hw217_6 := hx217_6
       have hw217_5 := hx217_5
       have hw217_4 := hx217_4
       have hw217_3 := hx217_3
       have hw217_2 := hx217_2
       have hw217_1 := hx217_1
       have hw217_0 := hx217_0
       obtain rfl : ad214 = ad217 := (by injection e217)
       replace hx217_0 := bc_ HB.out hx217_0
       replace hx217_1 := bc_ HB.out hx217_1
       replace hx217_2 := bc_ HB.out hx217_2
       replace hx217_3 := bc_ HB.out hx217_3
       replace hx217_4 := bc_ HB.out hx217_4
       replace hx217_5 := bc_ HB.out hx217_5
       replace hx217_6 := bc_ HB.out hx217_6
       replace hx217_7 := bc_ HB.out hx217_7
       replace hx217_8 := bc_ HB.out hx217_8
       replace p217 := eq_true p217
       replace q217 := eq_true q217
       refine start_ (n := 24) (S := fun w' => w'.cell? (ad214.add ((x3_1).toNat * 9)) = some (.string ((rd_T130 l0 x3_1).f0)) ∧ w'.cell? ⟨(ad214.add ((x3_1).toNat * 9)).block, (ad214.add ((x3_1).toNat * 9)).off + 1, none⟩ = some (.int .i64 ((rd_T130 l0 x3_1).f1)) ∧ w'.cell? ⟨(ad214.add ((x3_1).toNat * 9)).block, (ad214.add ((x3_1).toNat * 9)).off + 2, none⟩ = some (.int .i64 ((rd_T130 l0 x3_1).f2)) ∧ w'.cell? ⟨(ad214.add ((x3_1).toNat * 9)).block, (ad214.add ((x3_1).toNat * 9)).off + 3, none⟩ = some (.int .i64 ((rd_T130 l0 x3_1).f3)) ∧ w'.cell? ⟨(ad214.add ((x3_1).toNat * 9)).block, (ad214.add ((x3_1).toNat * 9)).off + 4, none⟩ = some (.int .i64 ((rd_T130 l0 x3_1).f4)) ∧ w'.cell? ⟨(ad214.add ((x3_1).toNat * 9)).block, (ad214.add ((x3_1).toNat * 9)).off + 5, none⟩ = some (.int .i64 ((rd_T130 l0 x3_1).f5)) ∧ w'.cell? ⟨(ad214.add ((x3_1).toNat * 9)).block, (ad214.add ((x3_1).toNat * 9)).off + 6, none⟩ = some (.int .i64 ((rd_T130 l0 x3_1).f6)) ∧ w'.cell? ⟨(ad214.add ((x3_1).toNat * 9)).block, (ad214.add ((x3_1).toNat * 9)).off + 7, none⟩ = some (.int .i64 ((rd_T130 l0 x3_1).f7)) ∧ w'.cell? ⟨(ad214.add ((x3_1).toNat * 9)).block, (ad214.add ((x3_1).toNat * 9)).off + 8, none⟩ = some (.int .i64 ((rd_T130 l0 x3_1).f8)) ∧ w'.cell? (ad214.add (((ji7)).toNat * 9)) = some (.string ((rd_T130 l0 (ji7)).f0)) ∧ w'.cell? ⟨(ad214.add (((ji7)).toNat * 9)).block, (ad214.add (((ji7)).toNat * 9)).off + 1, none⟩ = some (.int .i64 ((rd_T130 l0 (ji7)).f1)) ∧ w'.cell? ⟨(ad214.add (((ji7)).toNat * 9)).block, (ad214.add (((ji7)).toNat * 9)).off + 2, none⟩ = some (.int .i64 ((rd_T130 l0 (ji7)).f2)) ∧ w'.cell? ⟨(ad214.add (((ji7)).toNat * 9)).block, (ad214.add (((ji7)).toNat * 9)).off + 3, none⟩ = some (.int .i64 ((rd_T130 l0 (ji7)).f3)) ∧ w'.cell? ⟨(ad214.add (((ji7)).toNat * 9)).block, (ad214.add (((ji7)).toNat * 9)).off + 4, none⟩ = some (.int .i64 ((rd_T130 l0 (ji7)).f4)) ∧ w'.cell? ⟨(ad214.add (((ji7)).toNat * 9)).block, (ad214.add (((ji7)).toNat * 9)).off + 5, none⟩ = some (.int .i64 ((rd_T130 l0 (ji7)).f5)) ∧ w'.cell? ⟨(ad214.add (((ji7)).toNat * 9)).block, (ad214.add (((ji7)).toNat * 9)).off + 6, none⟩ = some (.int .i64 ((rd_T130 l0 (ji7)).f6)) ∧ w'.cell? ⟨(ad214.add (((ji7)).toNat * 9)).block, (ad214.add (((ji7)).toNat * 9)).off + 7, none⟩ = some (.int .i64 ((rd_T130 l0 (ji7)).f7)) ∧ w'.cell? ⟨(ad214.add (((ji7)).toNat * 9)).block, (ad214.add (((ji7)).toNat * 9)).off + 8, none⟩ = some (.int .i64 ((rd_T130 l0 (ji7)).f8)) ∧ w'.cell? (ad214.add ((x3_1).toNat * 9)) = some (.string ((rd_T130 l0 x3_1).f0)) ∧ w'.cell? ⟨(ad214.add ((x3_1).toNat * 9)).block, (ad214.add ((x3_1).toNat * 9)).off + 1, none⟩ = some (.int .i64 ((rd_T130 l0 x3_1).f1)) ∧ w'.cell? ⟨(ad214.add ((x3_1).toNat * 9)).block, (ad214.add ((x3_1).toNat * 9)).off + 2, none⟩ = some (.int .i64 ((rd_T130 l0 x3_1).f2)) ∧ w'.cell? ⟨(ad214.add ((x3_1).toNat * 9)).block, (ad214.add ((x3_1).toNat * 9)).off + 3, none⟩ = some (.int .i64 ((rd_T130 l0 x3_1).f3)) ∧ w'.cell? ⟨(ad214.add ((x3_1).toNat * 9)).block, (ad214.add ((x3_1).toNat * 9)).off + 4, none⟩ = some (.int .i64 ((rd_T130 l0 x3_1).f4)) ∧ w'.cell? ⟨(ad214.add ((x3_1).toNat * 9)).block, (ad214.add ((x3_1).toNat * 9)).off + 5, none⟩ = some (.int .i64 ((rd_T130 l0 x3_1).f5)) ∧ w'.cell? ⟨(ad214.add ((x3_1).toNat * 9)).block, (ad214.add ((x3_1).toNat * 9)).off + 6, none⟩ = some (.int .i64 ((rd_T130 l0 x3_1).f6)) ∧ w'.cell? ⟨(ad214.add ((x3_1).toNat * 9)).block, (ad214.add ((x3_1).toNat * 9)).off + 7, none⟩ = some (.int .i64 ((rd_T130 l0 x3_1).f7)) ∧ w'.cell? ⟨(ad214.add ((x3_1).toNat * 9)).block, (ad214.add ((x3_1).toNat * 9)).off + 8, none⟩ = some (.int .i64 ((rd_T130 l0 x3_1).f8))) (ds := []) #[f_,f_,f_,f_,f_,f_,f_,f_,f_,f_,f_,f_,f_,f_,f_,f_,f_,f_,f_,f_,f_,f_,f_,f_] (by kernel_rfl) rfl rfl ⟨(bc_ HB.out hw214_0 :), (bc_ HB.out hw214_1 :), (bc_ HB.out hw214_2 :), (bc_ HB.out hw214_3 :), (bc_ HB.out hw214_4 :), (bc_ HB.out hw214_5 :), (bc_ HB.out hw214_6 :), (bc_ HB.out hw214_7 :), (bc_ HB.out hw214_8 :), (bc_ HB.out hw216_0 :), (bc_ HB.out hw216_1 :), (bc_ HB.out hw216_2 :), (bc_ HB.out hw216_3 :), (bc_ HB.out hw216_4 :), (bc_ HB.out hw216_5 :), (bc_ HB.out hw216_6 :), (bc_ HB.out hw216_7 :), (bc_ HB.out hw216_8 :), (bc_ HB.out hw217_0 :), (bc_ HB.out hw217_1 :), (bc_ HB.out hw217_2 :), (bc_ HB.out hw217_3 :), (bc_ HB.out hw217_4 :), (bc_ HB.out hw217_5 :), (bc_ HB.out hw217_6 :), (bc_ HB.out hw217_7 :), (bc_ HB.out hw217_8 :)⟩ (fun hHeld => ?_); refine with_tabW spec_AreArticles.tab4 spec_AreArticles.bits4 (fun HT_ HW_ => ?_)
       generalize wr.drew = w13 at HB hx214_0 hx214_1 hx214_2 hx214_3 hx214_4 hx214_5 hx214_6 hx214_7 hx214_8 hx216_0 hx216_1 hx216_2 hx216_3 hx216_4 hx216_5 hx216_6 hx216_7 hx216_8 hx217_0 hx217_1 hx217_2 hx217_3 hx217_4 hx217_5 hx217_6 hx217_7 hx217_8 hHeld ⊢
       refine pu_ 0 10 #[t_,f_,f_,f_,f_,f_,f_,f_,f_,f_,f_,f_,f_,f_,f_,f_,f_,f_,f_,f_,f_,f_,f_,f_] HT_.out ?_
       refine pu_ 1 11 #[t_,t_,f_,f_,f_,f_,f_,f_,f_,f_,f_,f_,f_,f_,f_,f_,f_,f_,f_,f_,f_,f_,f_,f_] HT_.out ?_
       refine pu_ 2 12 #[t_,t_,t_,f_,f_,f_,f_,f_,f_,f_,f_,f_,f_,f_,f_,f_,f_,f_,f_,f_,f_,f_,f_,f_] HT_.out ?_
       refine take_ (i := 3) (N := some 13) (v := ?_) (a' := ?_) #[t_,t_,t_,t_,f_,f_,f_,f_,f_,f_,f_,f_,f_,f_,f_,f_,f_,f_,f_,f_,f_,f_,f_,f_] rfl rfl (take_ofW HT_.out HW_.out (by kernel_rfl)) (fun _ _ _ h => h) (Or.inl ⟨by rfl, ?_⟩) hHeld ?_ ?_
       rotate_left
       ·rintro w' ⟨s0, s1, s2, s3, s4, s5, s6, s7, s8, s9, s10, s11, s12, s13, s14, s15, s16, s17, s18, s19, s20, s21, s22, s23, s24, s25, s26⟩
        go_simp
        with_reducible rfl
       rotate_left
       ·simp only [pz_]
        rfl
       refine one_ (i := 4) (N := some 14) #[t_,t_,t_,t_,t_,f_,f_,f_,f_,f_,f_,f_,f_,f_,f_,f_,f_,f_,f_,f_,f_,f_,f_,f_] rfl rfl (one_of HT_.out (by kernel_rfl)) (by decide) (fun K hK => ?_)
       refine goes_ Try.func167 (by kernel_rfl) rfl #[.agg #[.string ((rd_T130 l0 x3_1).f0), .int .i64 ((rd_T130 l0 x3_1).f1), .int .i64 ((rd_T130 l0 x3_1).f2), .int .i64 ((rd_T130 l0 x3_1).f3), .int .i64 ((rd_T130 l0 x3_1).f4), .int .i64 ((rd_T130 l0 x3_1).f5), .int .i64 ((rd_T130 l0 x3_1).f6), .int .i64 ((rd_T130 l0 x3_1).f7), .int .i64 ((rd_T130 l0 x3_1).f8)]] (by rfl) rfl rfl ag_ ?_
       with_reducible refine (spec_IsArticle.calls k1 ((rd_T130 l0 x3_1).f0) ((rd_T130 l0 x3_1).f1) ((rd_T130 l0 x3_1).f2) ((rd_T130 l0 x3_1).f3) ((rd_T130 l0 x3_1).f4) ((rd_T130 l0 x3_1).f5) ((rd_T130 l0 x3_1).f6) ((rd_T130 l0 x3_1).f7) ((rd_T130 l0 x3_1).f8) true _ A4.out).mono ?_
       rintro e w14 ⟨rfl, hb⟩
       refine ⟨_, rfl, ?_⟩
       replace HB := Aside0.mk (below_step (bl_ HB.out) hb)
       (try clear hb)
       (try clear hb2)
       (try clear hk)
       (try clear hi)
       refine hK.out _ _ ⟨(bc_ HB.out hw214_0 :), (bc_ HB.out hw214_1 :), (bc_ HB.out hw214_2 :), (bc_ HB.out hw214_3 :), (bc_ HB.out hw214_4 :), (bc_ HB.out hw214_5 :), (bc_ HB.out hw214_6 :), (bc_ HB.out hw214_7 :), (bc_ HB.out hw214_8 :), (bc_ HB.out hw216_0 :), (bc_ HB.out hw216_1 :), (bc_ HB.out hw216_2 :), (bc_ HB.out hw216_3 :), (bc_ HB.out hw216_4 :), (bc_ HB.out hw216_5 :), (bc_ HB.out hw216_6 :), (bc_ HB.out hw216_7 :), (bc_ HB.out hw216_8 :), (bc_ HB.out hw217_0 :), (bc_ HB.out hw217_1 :), (bc_ HB.out hw217_2 :), (bc_ HB.out hw217_3 :), (bc_ HB.out hw217_4 :), (bc_ HB.out hw217_5 :), (bc_ HB.out hw217_6 :), (bc_ HB.out hw217_7 :), (bc_ HB.out hw217_8 :)⟩ (fun hHeld => ?_)
       clear hK K
       refine norm_ (a' := ?_) ?_ ?_
       rotate_left
       ·show Act.put _ (some 14) _ = _
        simp only [pz_]
        rfl
       refine pu_ 5 15 #[t_,t_,t_,t_,t_,t_,f_,f_,f_,f_,f_,f_,f_,f_,f_,f_,f_,f_,f_,f_,f_,f_,f_,f_] HT_.out ?_
       refine pu_ 6 16 #[t_,t_,t_,t_,t_,t_,t_,f_,f_,f_,f_,f_,f_,f_,f_,f_,f_,f_,f_,f_,f_,f_,f_,f_] HT_.out ?_
       refine pu_ 7 17 #[t_,t_,t_,t_,t_,t_,t_,t_,f_,f_,f_,f_,f_,f_,f_,f_,f_,f_,f_,f_,f_,f_,f_,f_] HT_.out ?_
       refine pu_ 8 18 #[t_,t_,t_,t_,t_,t_,t_,t_,t_,f_,f_,f_,f_,f_,f_,f_,f_,f_,f_,f_,f_,f_,f_,f_] HT_.out ?_
       refine pu_ 9 19 #[t_,t_,t_,t_,t_,t_,t_,t_,t_,t_,f_,f_,f_,f_,f_,f_,f_,f_,f_,f_,f_,f_,f_,f_] HT_.out ?_
       refine pu_ 10 20 #[t_,t_,t_,t_,t_,t_,t_,t_,t_,t_,t_,f_,f_,f_,f_,f_,f_,f_,f_,f_,f_,f_,f_,f_] HT_.out ?_
       refine pu_ 11 21 #[t_,t_,t_,t_,t_,t_,t_,t_,t_,t_,t_,t_,f_,f_,f_,f_,f_,f_,f_,f_,f_,f_,f_,f_] HT_.out ?_
       refine pu_ 12 22 #[t_,t_,t_,t_,t_,t_,t_,t_,t_,t_,t_,t_,t_,f_,f_,f_,f_,f_,f_,f_,f_,f_,f_,f_] HT_.out ?_
       refine pu_ 13 23 #[t_,t_,t_,t_,t_,t_,t_,t_,t_,t_,t_,t_,t_,t_,f_,f_,f_,f_,f_,f_,f_,f_,f_,f_] HT_.out ?_
       refine pu_ 14 24 #[t_,t_,t_,t_,t_,t_,t_,t_,t_,t_,t_,t_,t_,t_,t_,f_,f_,f_,f_,f_,f_,f_,f_,f_] HT_.out ?_
       refine pu_ 16 26 #[t_,t_,t_,t_,t_,t_,t_,t_,t_,t_,t_,t_,t_,t_,t_,f_,t_,f_,f_,f_,f_,f_,f_,f_] HT_.out ?_
       refine pu_ 17 27 #[t_,t_,t_,t_,t_,t_,t_,t_,t_,t_,t_,t_,t_,t_,t_,f_,t_,t_,f_,f_,f_,f_,f_,f_] HT_.out ?_
       refine pu_ 18 28 #[t_,t_,t_,t_,t_,t_,t_,t_,t_,t_,t_,t_,t_,t_,t_,f_,t_,t_,t_,f_,f_,f_,f_,f_] HT_.out ?_
       refine pu_ 19 29 #[t_,t_,t_,t_,t_,t_,t_,t_,t_,t_,t_,t_,t_,t_,t_,f_,t_,t_,t_,t_,f_,f_,f_,f_] HT_.out ?_
       refine take_ (i := 15) (N := some 25) (v := ?_) (a' := ?_) #[t_,t_,t_,t_,t_,t_,t_,t_,t_,t_,t_,t_,t_,t_,t_,t_,t_,t_,t_,t_,f_,f_,f_,f_] rfl rfl (take_ofW HT_.out HW_.out (by kernel_rfl)) (fun _ _ _ h => h) (Or.inl ⟨by rfl, ?_⟩) hHeld ?_ ?_
       rotate_left
       ·rintro w' ⟨s0, s1, s2, s3, s4, s5, s6, s7, s8, s9, s10, s11, s12, s13, s14, s15, s16, s17, s18, s19, s20, s21, s22, s23, s24, s25, s26⟩
        go_simp
        with_reducible rfl
       rotate_left
       ·simp only [pz_]
        rfl
       refine take_ (i := 20) (N := some 30) (v := ?_) (a' := ?_) #[t_,t_,t_,t_,t_,t_,t_,t_,t_,t_,t_,t_,t_,t_,t_,t_,t_,t_,t_,t_,t_,f_,f_,f_] rfl rfl (take_ofW HT_.out HW_.out (by kernel_rfl)) (fun _ _ _ h => h) (Or.inl ⟨by rfl, ?_⟩) hHeld ?_ ?_
       rotate_left
       ·rintro w' ⟨s0, s1, s2, s3, s4, s5, s6, s7, s8, s9, s10, s11, s12, s13, s14, s15, s16, s17, s18, s19, s20, s21, s22, s23, s24, s25, s26⟩
        go_simp
        with_reducible rfl
       rotate_left
       ·simp only [pz_]
        rfl
       refine pu_ 21 31 #[t_,t_,t_,t_,t_,t_,t_,t_,t_,t_,t_,t_,t_,t_,t_,t_,t_,t_,t_,t_,t_,t_,f_,f_] HT_.out ?_
       refine pu_ 22 32 #[t_,t_,t_,t_,t_,t_,t_,t_,t_,t_,t_,t_,t_,t_,t_,t_,t_,t_,t_,t_,t_,t_,t_,f_] HT_.out ?_
       refine pu_ 23 33 #[t_,t_,t_,t_,t_,t_,t_,t_,t_,t_,t_,t_,t_,t_,t_,t_,t_,t_,t_,t_,t_,t_,t_,t_] HT_.out ?_
       refine done_ (done_of HT_.out (by kernel_rfl)) ?_
       try go_wp2
       go_ret
       exact ⟨by first | rfl | (simp [errW_none, errW_some] <;> rfl) | (simp only [← hji7]; first | rfl | (simp [errW_none, errW_some] <;> rfl)) | (simp [*, errW_none, errW_some] <;> rfl), bl_ HB.out⟩
     ·rw [if_neg c6] at H
      have c6b0 : decide (0 < x3_1) = false := decide_eq_false c6
      clear c6
      have H' := Aside0.mk H
      clear H
      try go_wp2
      replace HB := Aside0.mk (below_drew1 HB.out)
      have p214 : 0 ≤ (x3_1 : Int) := od_
      have q214 : x3_1 < (l0.length : Int) := od_
      obtain ⟨ad214, e214, hx214_0, hx214_1, hx214_2, hx214_3, hx214_4, hx214_5, hx214_6, hx214_7, hx214_8⟩ := at_T130 HR0.out x3_1 p214 q214
      have hw214_8 := hx214_8
      have hw214_7 := hx214_7
      have hw214_6 := hx214_6
      have hw214_5 := hx214_5
      have hw214_4 := hx214_4
      have hw214_3 := hx214_3
      have hw214_2 := hx214_2
      have hw214_1 := hx214_1
      have hw214_0 := hx214_0
      cases e214
      replace hx214_0 := bc_ HB.out hx214_0
      replace hx214_1 := bc_ HB.out hx214_1
      replace hx214_2 := bc_ HB.out hx214_2
      replace hx214_3 := bc_ HB.out hx214_3
      replace hx214_4 := bc_ HB.out hx214_4
      replace hx214_5 := bc_ HB.out hx214_5
      replace hx214_6 := bc_ HB.out hx214_6
      replace hx214_7 := bc_ HB.out hx214_7
      replace hx214_8 := bc_ HB.out hx214_8
      replace p214 := eq_true p214
      replace q214 := eq_true q214
      refine start_ (n := 24) (S := fun w' => w'.cell? (ad214.add ((x3_1).toNat * 9)) = some (.string ((rd_T130 l0 x3_1).f0)) ∧ w'.cell? ⟨(ad214.add ((x3_1).toNat * 9)).block, (ad214.add ((x3_1).toNat * 9)).off + 1, none⟩ = some (.int .i64 ((rd_T130 l0 x3_1).f1)) ∧ w'.cell? ⟨(ad214.add ((x3_1).toNat * 9)).block, (ad214.add ((x3_1).toNat * 9)).off + 2, none⟩ = some (.int .i64 ((rd_T130 l0 x3_1).f2)) ∧ w'.cell? ⟨(ad214.add ((x3_1).toNat * 9)).block, (ad214.add ((x3_1).toNat * 9)).off + 3, none⟩ = some (.int .i64 ((rd_T130 l0 x3_1).f3)) ∧ w'.cell? ⟨(ad214.add ((x3_1).toNat * 9)).block, (ad214.add ((x3_1).toNat * 9)).off + 4, none⟩ = some (.int .i64 ((rd_T130 l0 x3_1).f4)) ∧ w'.cell? ⟨(ad214.add ((x3_1).toNat * 9)).block, (ad214.add ((x3_1).toNat * 9)).off + 5, none⟩ = some (.int .i64 ((rd_T130 l0 x3_1).f5)) ∧ w'.cell? ⟨(ad214.add ((x3_1).toNat * 9)).block, (ad214.add ((x3_1).toNat * 9)).off + 6, none⟩ = some (.int .i64 ((rd_T130 l0 x3_1).f6)) ∧ w'.cell? ⟨(ad214.add ((x3_1).toNat * 9)).block, (ad214.add ((x3_1).toNat * 9)).off + 7, none⟩ = some (.int .i64 ((rd_T130 l0 x3_1).f7)) ∧ w'.cell? ⟨(ad214.add ((x3_1).toNat * 9)).block, (ad214.add ((x3_1).toNat * 9)).off + 8, none⟩ = some (.int .i64 ((rd_T130 l0 x3_1).f8))) (ds := []) #[f_,f_,f_,f_,f_,f_,f_,f_,f_,f_,f_,f_,f_,f_,f_,f_,f_,f_,f_,f_,f_,f_,f_,f_] (by kernel_rfl) rfl rfl ⟨(bc_ HB.out hw214_0 :), (bc_ HB.out hw214_1 :), (bc_ HB.out hw214_2 :), (bc_ HB.out hw214_3 :), (bc_ HB.out hw214_4 :), (bc_ HB.out hw214_5 :), (bc_ HB.out hw214_6 :), (bc_ HB.out hw214_7 :), (bc_ HB.out hw214_8 :)⟩ (fun hHeld => ?_); refine with_tabW spec_AreArticles.tab4 spec_AreArticles.bits4 (fun HT_ HW_ => ?_)
      generalize wr.drew = w15 at HB hx214_0 hx214_1 hx214_2 hx214_3 hx214_4 hx214_5 hx214_6 hx214_7 hx214_8 hHeld ⊢
      refine pu_ 0 10 #[t_,f_,f_,f_,f_,f_,f_,f_,f_,f_,f_,f_,f_,f_,f_,f_,f_,f_,f_,f_,f_,f_,f_,f_] HT_.out ?_
      refine pu_ 1 11 #[t_,t_,f_,f_,f_,f_,f_,f_,f_,f_,f_,f_,f_,f_,f_,f_,f_,f_,f_,f_,f_,f_,f_,f_] HT_.out ?_
      refine pu_ 2 12 #[t_,t_,t_,f_,f_,f_,f_,f_,f_,f_,f_,f_,f_,f_,f_,f_,f_,f_,f_,f_,f_,f_,f_,f_] HT_.out ?_
      refine take_ (i := 3) (N := some 13) (v := ?_) (a' := ?_) #[t_,t_,t_,t_,f_,f_,f_,f_,f_,f_,f_,f_,f_,f_,f_,f_,f_,f_,f_,f_,f_,f_,f_,f_] rfl rfl (take_ofW HT_.out HW_.out (by kernel_rfl)) (fun _ _ _ h => h) (Or.inl ⟨by rfl, ?_⟩) hHeld ?_ ?_
      rotate_left
      ·rintro w' ⟨s0, s1, s2, s3, s4, s5, s6, s7, s8⟩
       go_simp
       with_reducible rfl
      rotate_left
      ·simp only [pz_]
       rfl
      refine one_ (i := 4) (N := some 14) #[t_,t_,t_,t_,t_,f_,f_,f_,f_,f_,f_,f_,f_,f_,f_,f_,f_,f_,f_,f_,f_,f_,f_,f_] rfl rfl (one_of HT_.out (by kernel_rfl)) (by decide) (fun K hK => ?_)
      refine goes_ Try.func167 (by kernel_rfl) rfl #[.agg #[.string ((rd_T130 l0 x3_1).f0), .int .i64 ((rd_T130 l0 x3_1).f1), .int .i64 ((rd_T130 l0 x3_1).f2), .int .i64 ((rd_T130 l0 x3_1).f3), .int .i64 ((rd_T130 l0 x3_1).f4), .int .i64 ((rd_T130 l0 x3_1).f5), .int .i64 ((rd_T130 l0 x3_1).f6), .int .i64 ((rd_T130 l0 x3_1).f7), .int .i64 ((rd_T130 l0 x3_1).f8)]] (by rfl) rfl rfl ag_ ?_
      with_reducible refine (spec_IsArticle.calls k1 ((rd_T130 l0 x3_1).f0) ((rd_T130 l0 x3_1).f1) ((rd_T130 l0 x3_1).f2) ((rd_T130 l0 x3_1).f3) ((rd_T130 l0 x3_1).f4) ((rd_T130 l0 x3_1).f5) ((rd_T130 l0 x3_1).f6) ((rd_T130 l0 x3_1).f7) ((rd_T130 l0 x3_1).f8) true _ A4.out).mono ?_
      rintro e w16 ⟨rfl, hb⟩
      refine ⟨_, rfl, ?_⟩
      replace HB := Aside0.mk (below_step (bl_ HB.out) hb)
      (try clear hb)
      (try clear hb2)
      (try clear hk)
      (try clear hi)
      refine hK.out _ _ ⟨(bc_ HB.out hw214_0 :), (bc_ HB.out hw214_1 :), (bc_ HB.out hw214_2 :), (bc_ HB.out hw214_3 :), (bc_ HB.out hw214_4 :), (bc_ HB.out hw214_5 :), (bc_ HB.out hw214_6 :), (bc_ HB.out hw214_7 :), (bc_ HB.out hw214_8 :)⟩ (fun hHeld => ?_)
      clear hK K
      refine norm_ (a' := ?_) ?_ ?_
      rotate_left
      ·show Act.put _ (some 14) _ = _
       simp only [pz_]
       rfl
      refine pu_ 5 15 #[t_,t_,t_,t_,t_,t_,f_,f_,f_,f_,f_,f_,f_,f_,f_,f_,f_,f_,f_,f_,f_,f_,f_,f_] HT_.out ?_
      refine pu_ 6 16 #[t_,t_,t_,t_,t_,t_,t_,f_,f_,f_,f_,f_,f_,f_,f_,f_,f_,f_,f_,f_,f_,f_,f_,f_] HT_.out ?_
      refine pu_ 7 17 #[t_,t_,t_,t_,t_,t_,t_,t_,f_,f_,f_,f_,f_,f_,f_,f_,f_,f_,f_,f_,f_,f_,f_,f_] HT_.out ?_
      refine pu_ 8 18 #[t_,t_,t_,t_,t_,t_,t_,t_,t_,f_,f_,f_,f_,f_,f_,f_,f_,f_,f_,f_,f_,f_,f_,f_] HT_.out ?_
      refine pu_ 9 19 #[t_,t_,t_,t_,t_,t_,t_,t_,t_,t_,f_,f_,f_,f_,f_,f_,f_,f_,f_,f_,f_,f_,f_,f_] HT_.out ?_
      refine un_ 10 20 #[t_,t_,t_,t_,t_,t_,t_,t_,t_,t_,t_,f_,f_,f_,f_,f_,f_,f_,f_,f_,f_,f_,f_,f_] HT_.out ?_
      refine un_ 11 21 #[t_,t_,t_,t_,t_,t_,t_,t_,t_,t_,t_,t_,f_,f_,f_,f_,f_,f_,f_,f_,f_,f_,f_,f_] HT_.out ?_
      refine un_ 12 22 #[t_,t_,t_,t_,t_,t_,t_,t_,t_,t_,t_,t_,t_,f_,f_,f_,f_,f_,f_,f_,f_,f_,f_,f_] HT_.out ?_
      refine un_ 13 23 #[t_,t_,t_,t_,t_,t_,t_,t_,t_,t_,t_,t_,t_,t_,f_,f_,f_,f_,f_,f_,f_,f_,f_,f_] HT_.out ?_
      refine un_ 14 24 #[t_,t_,t_,t_,t_,t_,t_,t_,t_,t_,t_,t_,t_,t_,t_,f_,f_,f_,f_,f_,f_,f_,f_,f_] HT_.out ?_
      refine un_ 15 25 #[t_,t_,t_,t_,t_,t_,t_,t_,t_,t_,t_,t_,t_,t_,t_,t_,f_,f_,f_,f_,f_,f_,f_,f_] HT_.out ?_
      refine un_ 16 26 #[t_,t_,t_,t_,t_,t_,t_,t_,t_,t_,t_,t_,t_,t_,t_,t_,t_,f_,f_,f_,f_,f_,f_,f_] HT_.out ?_
      refine un_ 17 27 #[t_,t_,t_,t_,t_,t_,t_,t_,t_,t_,t_,t_,t_,t_,t_,t_,t_,t_,f_,f_,f_,f_,f_,f_] HT_.out ?_
      refine un_ 18 28 #[t_,t_,t_,t_,t_,t_,t_,t_,t_,t_,t_,t_,t_,t_,t_,t_,t_,t_,t_,f_,f_,f_,f_,f_] HT_.out ?_
      refine un_ 19 29 #[t_,t_,t_,t_,t_,t_,t_,t_,t_,t_,t_,t_,t_,t_,t_,t_,t_,t_,t_,t_,f_,f_,f_,f_] HT_.out ?_
      refine un_ 20 30 #[t_,t_,t_,t_,t_,t_,t_,t_,t_,t_,t_,t_,t_,t_,t_,t_,t_,t_,t_,t_,t_,f_,f_,f_] HT_.out ?_
      refine un_ 21 31 #[t_,t_,t_,t_,t_,t_,t_,t_,t_,t_,t_,t_,t_,t_,t_,t_,t_,t_,t_,t_,t_,t_,f_,f_] HT_.out ?_
      refine pu_ 22 32 #[t_,t_,t_,t_,t_,t_,t_,t_,t_,t_,t_,t_,t_,t_,t_,t_,t_,t_,t_,t_,t_,t_,t_,f_] HT_.out ?_
      refine pu_ 23 33 #[t_,t_,t_,t_,t_,t_,t_,t_,t_,t_,t_,t_,t_,t_,t_,t_,t_,t_,t_,t_,t_,t_,t_,t_] HT_.out ?_
      refine done_ (done_of HT_.out (by kernel_rfl)) ?_
      try go_wp2
      go_roundg k1
      case measure => have := HK1.out; omega
      case rel => exact ⟨(wrap64 (x3_1 + 1)), (by first | rfl | (simp; done) | (simp [*]; done)), H', ⟨by have := HK1.out; omega⟩, ⟨bl_ HB.out⟩⟩
    ·replace c5 := Bool.eq_false_iff.mpr c5
     subst c5
     replace H : (some false) = some r := by rw [if_neg (show ¬ (false = true) by decide)] at H; exact H
     obtain rfl := Option.some.inj H
     try go_wp2
     replace HB := Aside0.mk (below_drew1 HB.out)
     have p214 : 0 ≤ (x3_1 : Int) := od_
     have q214 : x3_1 < (l0.length : Int) := od_
     obtain ⟨ad214, e214, hx214_0, hx214_1, hx214_2, hx214_3, hx214_4, hx214_5, hx214_6, hx214_7, hx214_8⟩ := at_T130 HR0.out x3_1 p214 q214
     have hw214_8 := hx214_8
     have hw214_7 := hx214_7
     have hw214_6 := hx214_6
     have hw214_5 := hx214_5
     have hw214_4 := hx214_4
     have hw214_3 := hx214_3
     have hw214_2 := hx214_2
     have hw214_1 := hx214_1
     have hw214_0 := hx214_0
     cases e214
     replace hx214_0 := bc_ HB.out hx214_0
     replace hx214_1 := bc_ HB.out hx214_1
     replace hx214_2 := bc_ HB.out hx214_2
     replace hx214_3 := bc_ HB.out hx214_3
     replace hx214_4 := bc_ HB.out hx214_4
     replace hx214_5 := bc_ HB.out hx214_5
     replace hx214_6 := bc_ HB.out hx214_6
     replace hx214_7 := bc_ HB.out hx214_7
     replace hx214_8 := bc_ HB.out hx214_8
     replace p214 := eq_true p214
     replace q214 := eq_true q214
     refine start_ (n := 24) (S := fun w' => w'.cell? (ad214.add ((x3_1).toNat * 9)) = some (.string ((rd_T130 l0 x3_1).f0)) ∧ w'.cell? ⟨(ad214.add ((x3_1).toNat * 9)).block, (ad214.add ((x3_1).toNat * 9)).off + 1, none⟩ = some (.int .i64 ((rd_T130 l0 x3_1).f1)) ∧ w'.cell? ⟨(ad214.add ((x3_1).toNat * 9)).block, (ad214.add ((x3_1).toNat * 9)).off + 2, none⟩ = some (.int .i64 ((rd_T130 l0 x3_1).f2)) ∧ w'.cell? ⟨(ad214.add ((x3_1).toNat * 9)).block, (ad214.add ((x3_1).toNat * 9)).off + 3, none⟩ = some (.int .i64 ((rd_T130 l0 x3_1).f3)) ∧ w'.cell? ⟨(ad214.add ((x3_1).toNat * 9)).block, (ad214.add ((x3_1).toNat * 9)).off + 4, none⟩ = some (.int .i64 ((rd_T130 l0 x3_1).f4)) ∧ w'.cell? ⟨(ad214.add ((x3_1).toNat * 9)).block, (ad214.add ((x3_1).toNat * 9)).off + 5, none⟩ = some (.int .i64 ((rd_T130 l0 x3_1).f5)) ∧ w'.cell? ⟨(ad214.add ((x3_1).toNat * 9)).block, (ad214.add ((x3_1).toNat * 9)).off + 6, none⟩ = some (.int .i64 ((rd_T130 l0 x3_1).f6)) ∧ w'.cell? ⟨(ad214.add ((x3_1).toNat * 9)).block, (ad214.add ((x3_1).toNat * 9)).off + 7, none⟩ = some (.int .i64 ((rd_T130 l0 x3_1).f7)) ∧ w'.cell? ⟨(ad214.add ((x3_1).toNat * 9)).block, (ad214.add ((x3_1).toNat * 9)).off + 8, none⟩ = some (.int .i64 ((rd_T130 l0 x3_1).f8))) (ds := []) #[f_,f_,f_,f_,f_,f_,f_,f_,f_,f_,f_,f_,f_,f_,f_,f_,f_,f_,f_,f_,f_,f_,f_,f_] (by kernel_rfl) rfl rfl ⟨(bc_ HB.out hw214_0 :), (bc_ HB.out hw214_1 :), (bc_ HB.out hw214_2 :), (bc_ HB.out hw214_3 :), (bc_ HB.out hw214_4 :), (bc_ HB.out hw214_5 :), (bc_ HB.out hw214_6 :), (bc_ HB.out hw214_7 :), (bc_ HB.out hw214_8 :)⟩ (fun hHeld => ?_); refine with_tabW spec_AreArticles.tab4 spec_AreArticles.bits4 (fun HT_ HW_ => ?_)
     generalize wr.drew = w17 at HB hx214_0 hx214_1 hx214_2 hx214_3 hx214_4 hx214_5 hx214_6 hx214_7 hx214_8 hHeld ⊢
     refine pu_ 0 10 #[t_,f_,f_,f_,f_,f_,f_,f_,f_,f_,f_,f_,f_,f_,f_,f_,f_,f_,f_,f_,f_,f_,f_,f_] HT_.out ?_
     refine pu_ 1 11 #[t_,t_,f_,f_,f_,f_,f_,f_,f_,f_,f_,f_,f_,f_,f_,f_,f_,f_,f_,f_,f_,f_,f_,f_] HT_.out ?_
     refine pu_ 2 12 #[t_,t_,t_,f_,f_,f_,f_,f_,f_,f_,f_,f_,f_,f_,f_,f_,f_,f_,f_,f_,f_,f_,f_,f_] HT_.out ?_
     refine take_ (i := 3) (N := some 13) (v := ?_) (a' := ?_) #[t_,t_,t_,t_,f_,f_,f_,f_,f_,f_,f_,f_,f_,f_,f_,f_,f_,f_,f_,f_,f_,f_,f_,f_] rfl rfl (take_ofW HT_.out HW_.out (by kernel_rfl)) (fun _ _ _ h => h) (Or.inl ⟨by rfl, ?_⟩) hHeld ?_ ?_
     rotate_left
     ·rintro w' ⟨s0, s1, s2, s3, s4, s5, s6, s7, s8⟩
      go_simp
      with_reducible rfl
     rotate_left
     ·simp only [pz_]
      rfl
     refine one_ (i := 4) (N := some 14) #[t_,t_,t_,t_,t_,f_,f_,f_,f_,f_,f_,f_,f_,f_,f_,f_,f_,f_,f_,f_,f_,f_,f_,f_] rfl rfl (one_of HT_.out (by kernel_rfl)) (by decide) (fun K hK => ?_)
     refine goes_ Try.func167 (by kernel_rfl) rfl #[.agg #[.string ((rd_T130 l0 x3_1).f0), .int .i64 ((rd_T130 l0 x3_1).f1), .int .i64 ((rd_T130 l0 x3_1).f2), .int .i64 ((rd_T130 l0 x3_1).f3), .int .i64 ((rd_T130 l0 x3_1).f4), .int .i64 ((rd_T130 l0 x3_1).f5), .int .i64 ((rd_T130 l0 x3_1).f6), .int .i64 ((rd_T130 l0 x3_1).f7), .int .i64 ((rd_T130 l0 x3_1).f8)]] (by rfl) rfl rfl ag_ ?_
     with_reducible refine (spec_IsArticle.calls k1 ((rd_T130 l0 x3_1).f0) ((rd_T130 l0 x3_1).f1) ((rd_T130 l0 x3_1).f2) ((rd_T130 l0 x3_1).f3) ((rd_T130 l0 x3_1).f4) ((rd_T130 l0 x3_1).f5) ((rd_T130 l0 x3_1).f6) ((rd_T130 l0 x3_1).f7) ((rd_T130 l0 x3_1).f8) false _ A4.out).mono ?_
     rintro e w18 ⟨rfl, hb⟩
     refine ⟨_, rfl, ?_⟩
     replace HB := Aside0.mk (below_step (bl_ HB.out) hb)
     (try clear hb)
     (try clear hb2)
     (try clear hk)
     (try clear hi)
     refine hK.out _ _ ⟨(bc_ HB.out hw214_0 :), (bc_ HB.out hw214_1 :), (bc_ HB.out hw214_2 :), (bc_ HB.out hw214_3 :), (bc_ HB.out hw214_4 :), (bc_ HB.out hw214_5 :), (bc_ HB.out hw214_6 :), (bc_ HB.out hw214_7 :), (bc_ HB.out hw214_8 :)⟩ (fun hHeld => ?_)
     clear hK K
     refine norm_ (a' := ?_) ?_ ?_
     rotate_left
     ·show Act.put _ (some 14) _ = _
      simp only [pz_]
      rfl
     refine pu_ 5 15 #[t_,t_,t_,t_,t_,t_,f_,f_,f_,f_,f_,f_,f_,f_,f_,f_,f_,f_,f_,f_,f_,f_,f_,f_] HT_.out ?_
     refine pu_ 6 16 #[t_,t_,t_,t_,t_,t_,t_,f_,f_,f_,f_,f_,f_,f_,f_,f_,f_,f_,f_,f_,f_,f_,f_,f_] HT_.out ?_
     refine un_ 7 17 #[t_,t_,t_,t_,t_,t_,t_,t_,f_,f_,f_,f_,f_,f_,f_,f_,f_,f_,f_,f_,f_,f_,f_,f_] HT_.out ?_
     refine un_ 8 18 #[t_,t_,t_,t_,t_,t_,t_,t_,t_,f_,f_,f_,f_,f_,f_,f_,f_,f_,f_,f_,f_,f_,f_,f_] HT_.out ?_
     refine un_ 9 19 #[t_,t_,t_,t_,t_,t_,t_,t_,t_,t_,f_,f_,f_,f_,f_,f_,f_,f_,f_,f_,f_,f_,f_,f_] HT_.out ?_
     refine un_ 10 20 #[t_,t_,t_,t_,t_,t_,t_,t_,t_,t_,t_,f_,f_,f_,f_,f_,f_,f_,f_,f_,f_,f_,f_,f_] HT_.out ?_
     refine un_ 11 21 #[t_,t_,t_,t_,t_,t_,t_,t_,t_,t_,t_,t_,f_,f_,f_,f_,f_,f_,f_,f_,f_,f_,f_,f_] HT_.out ?_
     refine un_ 12 22 #[t_,t_,t_,t_,t_,t_,t_,t_,t_,t_,t_,t_,t_,f_,f_,f_,f_,f_,f_,f_,f_,f_,f_,f_] HT_.out ?_
     refine un_ 13 23 #[t_,t_,t_,t_,t_,t_,t_,t_,t_,t_,t_,t_,t_,t_,f_,f_,f_,f_,f_,f_,f_,f_,f_,f_] HT_.out ?_
     refine un_ 14 24 #[t_,t_,t_,t_,t_,t_,t_,t_,t_,t_,t_,t_,t_,t_,t_,f_,f_,f_,f_,f_,f_,f_,f_,f_] HT_.out ?_
     refine un_ 15 25 #[t_,t_,t_,t_,t_,t_,t_,t_,t_,t_,t_,t_,t_,t_,t_,t_,f_,f_,f_,f_,f_,f_,f_,f_] HT_.out ?_
     refine un_ 16 26 #[t_,t_,t_,t_,t_,t_,t_,t_,t_,t_,t_,t_,t_,t_,t_,t_,t_,f_,f_,f_,f_,f_,f_,f_] HT_.out ?_
     refine un_ 17 27 #[t_,t_,t_,t_,t_,t_,t_,t_,t_,t_,t_,t_,t_,t_,t_,t_,t_,t_,f_,f_,f_,f_,f_,f_] HT_.out ?_
     refine un_ 18 28 #[t_,t_,t_,t_,t_,t_,t_,t_,t_,t_,t_,t_,t_,t_,t_,t_,t_,t_,t_,f_,f_,f_,f_,f_] HT_.out ?_
     refine un_ 19 29 #[t_,t_,t_,t_,t_,t_,t_,t_,t_,t_,t_,t_,t_,t_,t_,t_,t_,t_,t_,t_,f_,f_,f_,f_] HT_.out ?_
     refine un_ 20 30 #[t_,t_,t_,t_,t_,t_,t_,t_,t_,t_,t_,t_,t_,t_,t_,t_,t_,t_,t_,t_,t_,f_,f_,f_] HT_.out ?_
     refine un_ 21 31 #[t_,t_,t_,t_,t_,t_,t_,t_,t_,t_,t_,t_,t_,t_,t_,t_,t_,t_,t_,t_,t_,t_,f_,f_] HT_.out ?_
     refine un_ 22 32 #[t_,t_,t_,t_,t_,t_,t_,t_,t_,t_,t_,t_,t_,t_,t_,t_,t_,t_,t_,t_,t_,t_,t_,f_] HT_.out ?_
     refine pu_ 23 33 #[t_,t_,t_,t_,t_,t_,t_,t_,t_,t_,t_,t_,t_,t_,t_,t_,t_,t_,t_,t_,t_,t_,t_,t_] HT_.out ?_
     refine done_ (done_of HT_.out (by kernel_rfl)) ?_
     try go_wp2
     go_ret
     exact ⟨by first | rfl | (simp [errW_none, errW_some] <;> rfl) | (simp [*, errW_none, errW_some] <;> rfl), bl_ HB.out⟩
   ·rw [if_neg c2] at H
    have c2b0 : decide (x3_1 < (l0.length : Int)) = false := decide_eq_false c2
    clear c2
    obtain rfl := Option.some.inj H
    go_wp2
    go_ret
    exact ⟨by first | rfl | (simp [errW_none, errW_some] <;> rfl) | (simp [*, errW_none, errW_some] <;> rfl), bl_ HB.out⟩
def spec_l17Fits.f (a0_0 : ByteArray) (a0_1 : Int) (a0_2 : Int) (a0_3 : Int) (a0_4 : Int) (a0_5 : Int) (a0_6 : Int) (a0_7 : Int) (a0_8 : Int) (a1 : Int) : Option (Bool) := if a0_2 ≤ a1 then (some (decide ((wrap64 (10 * a0_2)) > (wrap64 (9 * a1))))) else (some false)
set_option maxHeartbeats 8000000 in
set_option maxRecDepth 100000 in
theorem spec_l17Fits.calls (a0_0 : ByteArray) (a0_1 : Int) (a0_2 : Int) (a0_3 : Int) (a0_4 : Int) (a0_5 : Int) (a0_6 : Int) (a0_7 : Int) (a0_8 : Int) (a1 : Int) (r : Bool) (w : World) (h : spec_l17Fits.f a0_0 a0_1 a0_2 a0_3 a0_4 a0_5 a0_6 a0_7 a0_8 a1 = some r) :
    Calls Try.prog 163 #[.agg #[.string a0_0, .int .i64 a0_1, .int .i64 a0_2, .int .i64 a0_3, .int .i64 a0_4, .int .i64 a0_5, .int .i64 a0_6, .int .i64 a0_7, .int .i64 a0_8], .int .i64 a1] w fun e w' => e = .returned (.bool r) ∧ Below w.heap.size w w' := by
  have hu130 := Try.underlying130
  have HB := Aside0.mk (Below.refl w.heap.size w)
  have H : (if a0_2 ≤ a1 then (some (decide ((wrap64 (10 * a0_2)) > (wrap64 (9 * a1))))) else (some false)) = some r := h
  clear h
  by_cases c3 : a0_2 ≤ a1
  · rw [if_pos c3] at H
    have c3b0 : decide (a0_2 ≤ a1) = true := decide_eq_true c3
    clear c3
    obtain rfl := Option.some.inj H
    go_enter Try.func163, Try.ntmps163
    go_wp2_with (first | ((with_reducible refine gate_dst (N := 2) rfl ?_); refine box_event ?hg (N := 2) ?hd (cs := #[.string a0_0, .int .i64 a0_1, .int .i64 a0_2, .int .i64 a0_3, .int .i64 a0_4, .int .i64 a0_5, .int .i64 a0_6, .int .i64 a0_7, .int .i64 a0_8]) (t := 130) ?hr ?_; (case hd => rfl); (case hg => rfl); (case hr => first | (go_simp; done) | (go_simp; rfl)); intro gb218 hg w4 hbox hb; have BK218 := Aside0.mk (hbox); have GW218 := Aside0.mk ((by rw [hg]; exact (below_size (bl_ HB.out)) : w.heap.size ≤ gb218)); have GE218 := Aside0.mk ((by rw [hg]; exact (below_size (bl_ HB.out)) : w.heap.size ≤ gb218)); replace HB := Aside0.mk (below_step (bl_ HB.out) hb); clear hb hbox hg; have hcz5_0 : w4.cell? ⟨gb218, 0, none⟩ = some (.string a0_0) := (blk_cell BK218.out 0).trans rfl; have hcz5_1 : w4.cell? ⟨gb218, 1, none⟩ = some (.int .i64 a0_1) := (blk_cell BK218.out 1).trans rfl; have hcz5_2 : w4.cell? ⟨gb218, 2, none⟩ = some (.int .i64 a0_2) := (blk_cell BK218.out 2).trans rfl; have hcz5_3 : w4.cell? ⟨gb218, 3, none⟩ = some (.int .i64 a0_3) := (blk_cell BK218.out 3).trans rfl; have hcz5_4 : w4.cell? ⟨gb218, 4, none⟩ = some (.int .i64 a0_4) := (blk_cell BK218.out 4).trans rfl; have hcz5_5 : w4.cell? ⟨gb218, 5, none⟩ = some (.int .i64 a0_5) := (blk_cell BK218.out 5).trans rfl; have hcz5_6 : w4.cell? ⟨gb218, 6, none⟩ = some (.int .i64 a0_6) := (blk_cell BK218.out 6).trans rfl; have hcz5_7 : w4.cell? ⟨gb218, 7, none⟩ = some (.int .i64 a0_7) := (blk_cell BK218.out 7).trans rfl; have hcz5_8 : w4.cell? ⟨gb218, 8, none⟩ = some (.int .i64 a0_8) := (blk_cell BK218.out 8).trans rfl; have hfz5_0 := blk_frozen BK218.out 0; have hfz5_1 := blk_frozen BK218.out 1; have hfz5_2 := blk_frozen BK218.out 2; have hfz5_3 := blk_frozen BK218.out 3; have hfz5_4 := blk_frozen BK218.out 4; have hfz5_5 := blk_frozen BK218.out 5; have hfz5_6 := blk_frozen BK218.out 6; have hfz5_7 := blk_frozen BK218.out 7; have hfz5_8 := blk_frozen BK218.out 8))
    go_ret
    exact ⟨by first | rfl | (simp [errW_none, errW_some] <;> rfl) | (simp [*, errW_none, errW_some] <;> rfl), r0_ HB.out GE218.out⟩
  · rw [if_neg c3] at H
    have c3b0 : decide (a0_2 ≤ a1) = false := decide_eq_false c3
    clear c3
    obtain rfl := Option.some.inj H
    go_enter Try.func163, Try.ntmps163
    go_wp2_with (first | ((with_reducible refine gate_dst (N := 2) rfl ?_); refine box_event ?hg (N := 2) ?hd (cs := #[.string a0_0, .int .i64 a0_1, .int .i64 a0_2, .int .i64 a0_3, .int .i64 a0_4, .int .i64 a0_5, .int .i64 a0_6, .int .i64 a0_7, .int .i64 a0_8]) (t := 130) ?hr ?_; (case hd => rfl); (case hg => rfl); (case hr => first | (go_simp; done) | (go_simp; rfl)); intro gb218 hg w6 hbox hb; have BK218 := Aside0.mk (hbox); have GW218 := Aside0.mk ((by rw [hg]; exact (below_size (bl_ HB.out)) : w.heap.size ≤ gb218)); have GE218 := Aside0.mk ((by rw [hg]; exact (below_size (bl_ HB.out)) : w.heap.size ≤ gb218)); replace HB := Aside0.mk (below_step (bl_ HB.out) hb); clear hb hbox hg; have hcz7_0 : w6.cell? ⟨gb218, 0, none⟩ = some (.string a0_0) := (blk_cell BK218.out 0).trans rfl; have hcz7_1 : w6.cell? ⟨gb218, 1, none⟩ = some (.int .i64 a0_1) := (blk_cell BK218.out 1).trans rfl; have hcz7_2 : w6.cell? ⟨gb218, 2, none⟩ = some (.int .i64 a0_2) := (blk_cell BK218.out 2).trans rfl; have hcz7_3 : w6.cell? ⟨gb218, 3, none⟩ = some (.int .i64 a0_3) := (blk_cell BK218.out 3).trans rfl; have hcz7_4 : w6.cell? ⟨gb218, 4, none⟩ = some (.int .i64 a0_4) := (blk_cell BK218.out 4).trans rfl; have hcz7_5 : w6.cell? ⟨gb218, 5, none⟩ = some (.int .i64 a0_5) := (blk_cell BK218.out 5).trans rfl; have hcz7_6 : w6.cell? ⟨gb218, 6, none⟩ = some (.int .i64 a0_6) := (blk_cell BK218.out 6).trans rfl; have hcz7_7 : w6.cell? ⟨gb218, 7, none⟩ = some (.int .i64 a0_7) := (blk_cell BK218.out 7).trans rfl; have hcz7_8 : w6.cell? ⟨gb218, 8, none⟩ = some (.int .i64 a0_8) := (blk_cell BK218.out 8).trans rfl; have hfz7_0 := blk_frozen BK218.out 0; have hfz7_1 := blk_frozen BK218.out 1; have hfz7_2 := blk_frozen BK218.out 2; have hfz7_3 := blk_frozen BK218.out 3; have hfz7_4 := blk_frozen BK218.out 4; have hfz7_5 := blk_frozen BK218.out 5; have hfz7_6 := blk_frozen BK218.out 6; have hfz7_7 := blk_frozen BK218.out 7; have hfz7_8 := blk_frozen BK218.out 8))
    go_ret
    exact ⟨by first | rfl | (simp [errW_none, errW_some] <;> rfl) | (simp [*, errW_none, errW_some] <;> rfl), r0_ HB.out GE218.out⟩
end Go.Proofs.Ytalcbcelalbhiaa.PFnExactRackNet
