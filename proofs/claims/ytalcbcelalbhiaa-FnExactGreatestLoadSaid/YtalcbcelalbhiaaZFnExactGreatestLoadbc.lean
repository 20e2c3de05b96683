/- QFnExactGreatestLoadf of the law FnExactGreatestLoad: taken over, declaration by declaration, as far as the law leans on it (the words and the printed functions are the kit's own print). No condition but what each says. -/
import Derived.Test.YtalcbcelalbhiaaZFnExactGreatestLoadav
import Derived.Test.YtalcbcelalbhiaaZFnExactGreatestLoadaw
import Derived.Test.YtalcbcelalbhiaaZFnExactGreatestLoadba
import Derived.Test.YtalcbcelalbhiaaZFnExactGreatestLoadbb
namespace Go.Proofs.Ytalcbcelalbhiaa.PFnExactGreatestLoad
open Go.RowKit Go.Proofs.YtalcbcelalbhiaaW.PrintWords Go.Proofs.YtalcbcelalbhiaaW.PrintLast Go.Proofs.YtalcbcelalbhiaaW.PrintMore
attribute [local go_sem] max2_int min2_int max_two min_two max_three min_three max_four min_four   -- for this text's walks alone
set_option linter.unusedVariables false
set_option linter.unusedSimpArgs false
open Bool renaming true → t_, false → f_
def impl_allWithin.l0 : Nat → Int → Int → List Int → Int → Int → Option (Bool)
  | 0, _, _, _, _, _ => none
  | k + 1, x1, x2, x9, x10, x11 => if x11 < x10 then (if 0 ≤ x11 then (if x11 < (x9.length : Int) then ((impl_within.f (rd x9 x11) x1 x2).bind fun t226 => (if t226 = true then (impl_allWithin.l0 k x1 x2 x9 x10 (wrap64 (x11 + 1))) else (some false))) else (none)) else (none)) else (some true)
def impl_allWithin.f (k : Nat) (l0 : List Int) (a1 : Int) (a2 : Int) : Option (Bool) := impl_allWithin.l0 k a1 a2 l0 (l0.length : Int) 0
set_option maxHeartbeats 8000000 in
set_option maxRecDepth 100000 in
theorem impl_allWithin.calls (k : Nat) (A0 : Option Addr) (c0 : Nat) (l0 : List Int) (a1 : Int) (a2 : Int) (r : Bool) (w : World) (hr0 : Kd.C (Kd.int .i64) w A0 l0.length l0) (hc0 : l0.length ≤ c0) (h : impl_allWithin.f k l0 a1 a2 = some r) :
    Calls Try.prog 144 #[.slice A0 l0.length c0, .int .i64 a1, .int .i64 a2] w fun e w' => e = .returned (.bool r) ∧ Drawn0 w w' := by
  have HR0 := Aside0.mk hr0
  have HC0 := Aside0.mk hc0
  clear hr0 hc0
  have H : (impl_allWithin.l0 k a1 a2 l0 (l0.length : Int) 0) = some r := h
  clear h
  have H' := Aside0.mk H
  clear H
  go_enter Try.func144, Try.ntmps144
  go_wp2
  go_loopg [11] k (fun kq v11 w' => ∃ (x11_1 : Int), v11 = .int .i64 x11_1 ∧ Aside0 (impl_allWithin.l0 kq a1 a2 l0 (l0.length : Int) x11_1 = some r) ∧ Aside0 (kq ≤ k) ∧ Drawn0 w w')
  case atStart => exact ⟨(0), (by first | rfl | (simp; done) | (simp [*]; done)), H', ⟨Nat.le_refl _⟩, by repeat (first | exact Drawn0.refl _ | apply Drawn0.step)⟩
  case round =>
    clear H'
    try clear c1
    try clear p2
    obtain ⟨x11_1, rfl, HA, HK1, ⟨m1, rfl⟩⟩ := hrel
    cases gk with
    | zero => exact absurd HA.out (by simp [impl_allWithin.l0])
    | succ k1 =>
      have H := HA.out
      clear HA
      simp only [impl_allWithin.l0] at H
      by_cases c4 : x11_1 < (l0.length : Int)
      · rw [if_pos c4] at H
        have c4b0 : decide (x11_1 < (l0.length : Int)) = true := decide_eq_true c4
        clear c4
        by_cases c5 : 0 ≤ x11_1
        · rw [if_pos c5] at H
          have c5b0 : decide (0 ≤ x11_1) = true := decide_eq_true c5
          clear c5
          by_cases c6 : x11_1 < (l0.length : Int)
          · rw [if_pos c6] at H
            have c6b0 : decide (x11_1 < (l0.length : Int)) = true := decide_eq_true c6
            clear c6
            replace H := Option.bind_eq_some_iff.mp H
            obtain ⟨t226, A70, H⟩ := H
            replace H : (if t226 = true then (impl_allWithin.l0 k1 a1 a2 l0 (l0.length : Int) (wrap64 (x11_1 + 1))) else (some false)) = some r := H
            have A7 := Aside0.mk A70
            clear A70
            by_cases c8 : t226 = true
            · subst c8
              replace H : (impl_allWithin.l0 k1 a1 a2 l0 (l0.length : Int) (wrap64 (x11_1 + 1))) = some r := by rw [if_pos rfl] at H; exact H
              have H' := Aside0.mk H
              clear H
              have p225 : 0 ≤ (x11_1 : Int) := od_
              have q225 : x11_1 < (l0.length : Int) := od_
              obtain ⟨ad225, e225, hx225_0⟩ := Kd.at_int HR0.out x11_1 p225 q225
              cases e225
              replace p225 := eq_true p225
              replace q225 := eq_true q225
              go_wp2_with (first | ((with_reducible refine gate_callee (f := 78) rfl ?_); refine goesL_ (some 18) rfl rfl Try.func78 (by kernel_rfl) rfl #[.int .i64 (rd l0 x11_1), .int .i64 a1, .int .i64 a2] rfl ag_ ?_; (with_reducible refine (impl_within.calls (rd l0 x11_1) a1 a2 true _ A7.out).mono ?_); rintro e w' ⟨rfl, ⟨nd, rfl⟩⟩; refine ⟨_, rfl, ?_⟩))
              go_roundg k1
              case measure => have := HK1.out; omega
              case rel => exact ⟨(wrap64 (x11_1 + 1)), (by first | rfl | (simp; done) | (simp [*]; done)), H', ⟨by have := HK1.out; omega⟩, by repeat (first | exact Drawn0.refl _ | apply Drawn0.step)⟩
            · replace c8 := Bool.eq_false_iff.mpr c8
              subst c8
              replace H : (some false) = some r := by rw [if_neg (show ¬ (false = true) by decide)] at H; exact H
              obtain rfl := Option.some.inj H
              have p225 : 0 ≤ (x11_1 : Int) := od_
              have q225 : x11_1 < (l0.length : Int) := od_
              obtain ⟨ad225, e225, hx225_0⟩ := Kd.at_int HR0.out x11_1 p225 q225
              cases e225
              replace p225 := eq_true p225
              replace q225 := eq_true q225
              go_wp2_with (first | ((with_reducible refine gate_callee (f := 78) rfl ?_); refine goesL_ (some 18) rfl rfl Try.func78 (by kernel_rfl) rfl #[.int .i64 (rd l0 x11_1), .int .i64 a1, .int .i64 a2] rfl ag_ ?_; (with_reducible refine (impl_within.calls (rd l0 x11_1) a1 a2 false _ A7.out).mono ?_); rintro e w' ⟨rfl, ⟨nd, rfl⟩⟩; refine ⟨_, rfl, ?_⟩))
              go_ret
              exact ⟨by first | rfl | (simp; done) | (simp [*]; done), by repeat (first | exact Drawn0.refl _ | apply Drawn0.step)⟩
          · rw [if_neg c6] at H
            exact absurd H (by simp)
        · rw [if_neg c5] at H
          exact absurd H (by simp)
      · rw [if_neg c4] at H
        have c4b0 : decide (x11_1 < (l0.length : Int)) = false := decide_eq_false c4
        clear c4
        obtain rfl := Option.some.inj H
        go_wp2
        go_ret
        exact ⟨by first | rfl | (simp; done) | (simp [*]; done), by repeat (first | exact Drawn0.refl _ | apply Drawn0.step)⟩
def impl_articleOf.l0 : Nat → ByteArray → List (S130) → Int → Int → Option (Int)
 | 0, _, _, _, _ => none
 | k + 1, x1, x7, x8, x9 => if x9 < x8 then (if 0 ≤ x9 then (if x9 < (x7.length : Int) then (if ((rd_T130 x7 x9).f0).toList = x1.toList then (some x9) else (impl_articleOf.l0 k x1 x7 x8 (wrap64 (x9 + 1)))) else (none)) else (none)) else (some (-1))
def impl_articleOf.f (k : Nat) (l0 : List (S130)) (a1 : ByteArray) : Option (Int) := impl_articleOf.l0 k a1 l0 (l0.length : Int) 0
set_option maxHeartbeats 8000000 in
set_option maxRecDepth 100000 in
theorem impl_articleOf.calls (k : Nat) (A0 : Option Addr) (c0 : Nat) (l0 : List (S130)) (a1 : ByteArray) (r : Int) (w : World) (hr0 : Kd.C k130 w A0 l0.length l0) (hc0 : l0.length ≤ c0) (h : impl_articleOf.f k l0 a1 = some r) :
  Calls Try.prog 145 #[.slice A0 l0.length c0, .string a1] w fun e w' => e = .returned (.int .i64 r) ∧ Below w.heap.size w w' := by
 have hu130 := Try.underlying130
 have HR0 := Aside0.mk hr0
 have HC0 := Aside0.mk hc0
 clear hr0 hc0
 have HB := Aside0.mk (Below.refl w.heap.size w)
 have H : (impl_articleOf.l0 k a1 l0 (l0.length : Int) 0) = some r := h
 clear h
 have H' := Aside0.mk H
 clear H
 go_enter Try.func145, Try.ntmps145
 go_wp2
 go_loopg [9] k (fun kq v9 w' => ∃ (x9_1 : Int), v9 = .int .i64 x9_1 ∧ Aside0 (impl_articleOf.l0 kq a1 l0 (l0.length : Int) x9_1 = some r) ∧ Aside0 (kq ≤ k) ∧ Aside0 (Below w.heap.size w w'))
 case atStart => exact ⟨(0), (by first | rfl | (simp; done) | (simp [*]; done)), H', ⟨Nat.le_refl _⟩, ⟨bl_ HB.out⟩⟩
 case round =>
  clear H'
  try clear c1
  try clear p2
  obtain ⟨x9_1, rfl, HA, HK1, HB⟩ := hrel
  cases gk with
  | zero => exact absurd HA.out (by simp [impl_articleOf.l0])
  | succ k1 =>
   have H := HA.out
   clear HA
   simp only [impl_articleOf.l0] at H
   by_cases c3 : x9_1 < (l0.length : Int)
   ·rw [if_pos c3] at H
    have c3b0 : decide (x9_1 < (l0.length : Int)) = true := decide_eq_true c3
    clear c3
    by_cases c4 : 0 ≤ x9_1
    case neg =>
     rw [if_neg c4] at H
     exact absurd H (by simp)
    rw [if_pos c4] at H
    have c4b0 : decide (0 ≤ x9_1) = true := decide_eq_true c4
    clear c4
    by_cases c5 : x9_1 < (l0.length : Int)
    case neg =>
     rw [if_neg c5] at H
     exact absurd H (by simp)
    rw [if_pos c5] at H
    have c5b0 : decide (x9_1 < (l0.length : Int)) = true := decide_eq_true c5
    clear c5
    by_cases c6 : ((rd_T130 l0 x9_1).f0).toList = a1.toList
    ·rw [if_pos c6] at H
     have c6b0 : (((rd_T130 l0 x9_1).f0).toList == a1.toList) = true := beq_iff_eq.mpr c6
     have c6b1 : (((rd_T130 l0 x9_1).f0).toList != a1.toList) = false := bne_eq_false_iff_eq.mpr c6
     clear c6
     obtain rfl := Option.some.inj H
     have p227 : 0 ≤ (x9_1 : Int) := od_
     have q227 : x9_1 < (l0.length : Int) := od_
     obtain ⟨ad227, e227, hx227_0, hx227_1, hx227_2, hx227_3, hx227_4, hx227_5, hx227_6, hx227_7, hx227_8⟩ := at_T130 HR0.out x9_1 p227 q227
     cases e227
     replace hx227_0 := bc_ HB.out hx227_0
     replace hx227_1 := bc_ HB.out hx227_1
     replace hx227_2 := bc_ HB.out hx227_2
     replace hx227_3 := bc_ HB.out hx227_3
     replace hx227_4 := bc_ HB.out hx227_4
     replace hx227_5 := bc_ HB.out hx227_5
     replace hx227_6 := bc_ HB.out hx227_6
     replace hx227_7 := bc_ HB.out hx227_7
     replace hx227_8 := bc_ HB.out hx227_8
     replace p227 := eq_true p227
     replace q227 := eq_true q227
     go_wp2_with (first | ((with_reducible refine gate_dst (N := 6) rfl ?_); refine box_event ?hg (N := 6) ?hd (cs := #[.string (⟨#[]⟩ : ByteArray), .int .i64 0, .int .i64 0, .int .i64 0, .int .i64 0, .int .i64 0, .int .i64 0, .int .i64 0, .int .i64 0]) (t := 130) ?hr ?_; (case hd => rfl); (case hg => rfl); (case hr => first | (go_simp; done) | (go_simp; rfl)); intro gb228 hg w7 hbox hb; have BK228 := Aside0.mk (hbox); have GW228 := Aside0.mk ((by rw [hg]; exact (below_size (bl_ HB.out)) : w.heap.size ≤ gb228)); have GE228 := Aside0.mk ((by rw [hg]; exact (below_size (bl_ HB.out)) : w.heap.size ≤ gb228)); replace HB := Aside0.mk (below_step (bl_ HB.out) hb); clear hb hbox hg; have hcz8_0 : w7.cell? ⟨gb228, 0, none⟩ = some (.string (⟨#[]⟩ : ByteArray)) := (blk_cell BK228.out 0).trans rfl; have hcz8_1 : w7.cell? ⟨gb228, 1, none⟩ = some (.int .i64 0) := (blk_cell BK228.out 1).trans rfl; have hcz8_2 : w7.cell? ⟨gb228, 2, none⟩ = some (.int .i64 0) := (blk_cell BK228.out 2).trans rfl; have hcz8_3 : w7.cell? ⟨gb228, 3, none⟩ = some (.int .i64 0) := (blk_cell BK228.out 3).trans rfl; have hcz8_4 : w7.cell? ⟨gb228, 4, none⟩ = some (.int .i64 0) := (blk_cell BK228.out 4).trans rfl; have hcz8_5 : w7.cell? ⟨gb228, 5, none⟩ = some (.int .i64 0) := (blk_cell BK228.out 5).trans rfl; have hcz8_6 : w7.cell? ⟨gb228, 6, none⟩ = some (.int .i64 0) := (blk_cell BK228.out 6).trans rfl; have hcz8_7 : w7.cell? ⟨gb228, 7, none⟩ = some (.int .i64 0) := (blk_cell BK228.out 7).trans rfl; have hcz8_8 : w7.cell? ⟨gb228, 8, none⟩ = some (.int .i64 0) := (blk_cell BK228.out 8).trans rfl; have hfz8_0 := blk_frozen BK228.out 0; have hfz8_1 := blk_frozen BK228.out 1; have hfz8_2 := blk_frozen BK228.out 2; have hfz8_3 := blk_frozen BK228.out 3; have hfz8_4 := blk_frozen BK228.out 4; have hfz8_5 := blk_frozen BK228.out 5; have hfz8_6 := blk_frozen BK228.out 6; have hfz8_7 := blk_frozen BK228.out 7; have hfz8_8 := blk_frozen BK228.out 8))
     go_ret
     exact ⟨by first | rfl | (simp [errW_none, errW_some] <;> rfl) | (simp [*, errW_none, errW_some] <;> rfl), r0_ HB.out GE228.out⟩
    ·rw [if_neg c6] at H
     have c6b0 : (((rd_T130 l0 x9_1).f0).toList == a1.toList) = false := beq_eq_false_iff_ne.mpr c6
     have c6b1 : (((rd_T130 l0 x9_1).f0).toList != a1.toList) = true := bne_iff_ne.mpr c6
     have H' := Aside0.mk H
     clear H
     have p227 : 0 ≤ (x9_1 : Int) := od_
     have q227 : x9_1 < (l0.length : Int) := od_
     obtain ⟨ad227, e227, hx227_0, hx227_1, hx227_2, hx227_3, hx227_4, hx227_5, hx227_6, hx227_7, hx227_8⟩ := at_T130 HR0.out x9_1 p227 q227
     cases e227
     replace hx227_0 := bc_ HB.out hx227_0
     replace hx227_1 := bc_ HB.out hx227_1
     replace hx227_2 := bc_ HB.out hx227_2
     replace hx227_3 := bc_ HB.out hx227_3
     replace hx227_4 := bc_ HB.out hx227_4
     replace hx227_5 := bc_ HB.out hx227_5
     replace hx227_6 := bc_ HB.out hx227_6
     replace hx227_7 := bc_ HB.out hx227_7
     replace hx227_8 := bc_ HB.out hx227_8
     replace p227 := eq_true p227
     replace q227 := eq_true q227
     go_wp2_with (first | ((with_reducible refine gate_dst (N := 6) rfl ?_); refine box_event ?hg (N := 6) ?hd (cs := #[.string (⟨#[]⟩ : ByteArray), .int .i64 0, .int .i64 0, .int .i64 0, .int .i64 0, .int .i64 0, .int .i64 0, .int .i64 0, .int .i64 0]) (t := 130) ?hr ?_; (case hd => rfl); (case hg => rfl); (case hr => first | (go_simp; done) | (go_simp; rfl)); intro gb228 hg w9 hbox hb; have BK228 := Aside0.mk (hbox); have GW228 := Aside0.mk ((by rw [hg]; exact (below_size (bl_ HB.out)) : w.heap.size ≤ gb228)); have GE228 := Aside0.mk ((by rw [hg]; exact (below_size (bl_ HB.out)) : w.heap.size ≤ gb228)); replace HB := Aside0.mk (below_step (bl_ HB.out) hb); clear hb hbox hg; have hcz10_0 : w9.cell? ⟨gb228, 0, none⟩ = some (.string (⟨#[]⟩ : ByteArray)) := (blk_cell BK228.out 0).trans rfl; have hcz10_1 : w9.cell? ⟨gb228, 1, none⟩ = some (.int .i64 0) := (blk_cell BK228.out 1).trans rfl; have hcz10_2 : w9.cell? ⟨gb228, 2, none⟩ = some (.int .i64 0) := (blk_cell BK228.out 2).trans rfl; have hcz10_3 : w9.cell? ⟨gb228, 3, none⟩ = some (.int .i64 0) := (blk_cell BK228.out 3).trans rfl; have hcz10_4 : w9.cell? ⟨gb228, 4, none⟩ = some (.int .i64 0) := (blk_cell BK228.out 4).trans rfl; have hcz10_5 : w9.cell? ⟨gb228, 5, none⟩ = some (.int .i64 0) := (blk_cell BK228.out 5).trans rfl; have hcz10_6 : w9.cell? ⟨gb228, 6, none⟩ = some (.int .i64 0) := (blk_cell BK228.out 6).trans rfl; have hcz10_7 : w9.cell? ⟨gb228, 7, none⟩ = some (.int .i64 0) := (blk_cell BK228.out 7).trans rfl; have hcz10_8 : w9.cell? ⟨gb228, 8, none⟩ = some (.int .i64 0) := (blk_cell BK228.out 8).trans rfl; have hfz10_0 := blk_frozen BK228.out 0; have hfz10_1 := blk_frozen BK228.out 1; have hfz10_2 := blk_frozen BK228.out 2; have hfz10_3 := blk_frozen BK228.out 3; have hfz10_4 := blk_frozen BK228.out 4; have hfz10_5 := blk_frozen BK228.out 5; have hfz10_6 := blk_frozen BK228.out 6; have hfz10_7 := blk_frozen BK228.out 7; have hfz10_8 := blk_frozen BK228.out 8))
     go_roundg k1
     case measure => have := HK1.out; omega
     case rel => exact ⟨(wrap64 (x9_1 + 1)), (by first | rfl | (simp; done) | (simp [*]; done)), H', ⟨by have := HK1.out; omega⟩, ⟨r0_ HB.out GE228.out⟩⟩
   ·rw [if_neg c3] at H
    have c3b0 : decide (x9_1 < (l0.length : Int)) = false := decide_eq_false c3
    clear c3
    obtain rfl := Option.some.inj H
    go_wp2
    go_ret
    exact ⟨by first | rfl | (simp [errW_none, errW_some] <;> rfl) | (simp [*, errW_none, errW_some] <;> rfl), bl_ HB.out⟩
def impl_fits.f (a0_0 : ByteArray) (a0_1 : Int) (a0_2 : Int) (a0_3 : Int) (a0_4 : Int) (a0_5 : Int) (a0_6 : Int) (a0_7 : Int) (a0_8 : Int) (a1 : Int) : Option (Bool) := if a0_2 ≤ a1 then (some (decide ((wrap64 (10 * a0_2)) > (wrap64 (9 * a1))))) else (some false)
set_option maxHeartbeats 8000000 in
set_option maxRecDepth 100000 in
theorem impl_fits.calls (a0_0 : ByteArray) (a0_1 : Int) (a0_2 : Int) (a0_3 : Int) (a0_4 : Int) (a0_5 : Int) (a0_6 : Int) (a0_7 : Int) (a0_8 : Int) (a1 : Int) (r : Bool) (w : World) (h : impl_fits.f a0_0 a0_1 a0_2 a0_3 a0_4 a0_5 a0_6 a0_7 a0_8 a1 = some r) :
    Calls Try.prog 146 #[.agg #[.string a0_0, .int .i64 a0_1, .int .i64 a0_2, .int .i64 a0_3, .int .i64 a0_4, .int .i64 a0_5, .int .i64 a0_6, .int .i64 a0_7, .int .i64 a0_8], .int .i64 a1] w fun e w' => e = .returned (.bool r) ∧ Below w.heap.size w w' := by
  have hu130 := Try.underlying130
  have HB := Aside0.mk (Below.refl w.heap.size w)
  have H : (if a0_2 ≤ a1 then (some (decide ((wrap64 (10 * a0_2)) > (wrap64 (9 * a1))))) else (some false)) = some r := h
  clear h
  by_cases c3 : a0_2 ≤ a1
  · rw [if_pos c3] at H
    have c3b0 : decide (a0_2 ≤ a1) = true := decide_eq_true c3
    clear c3
    obtain rfl := Option.some.inj H
    go_enter Try.func146, Try.ntmps146
    go_wp2_with (first | ((with_reducible refine gate_dst (N := 2) rfl ?_); refine box_event ?hg (N := 2) ?hd (cs := #[.string a0_0, .int .i64 a0_1, .int .i64 a0_2, .int .i64 a0_3, .int .i64 a0_4, .int .i64 a0_5, .int .i64 a0_6, .int .i64 a0_7, .int .i64 a0_8]) (t := 130) ?hr ?_; (case hd => rfl); (case hg => rfl); (case hr => first | (go_simp; done) | (go_simp; rfl)); intro gb229 hg w4 hbox hb; have BK229 := Aside0.mk (hbox); have GW229 := Aside0.mk ((by rw [hg]; exact (below_size (bl_ HB.out)) : w.heap.size ≤ gb229)); have GE229 := Aside0.mk ((by rw [hg]; exact (below_size (bl_ HB.out)) : w.heap.size ≤ gb229)); replace HB := Aside0.mk (below_step (bl_ HB.out) hb); clear hb hbox hg; have hcz5_0 : w4.cell? ⟨gb229, 0, none⟩ = some (.string a0_0) := (blk_cell BK229.out 0).trans rfl; have hcz5_1 : w4.cell? ⟨gb229, 1, none⟩ = some (.int .i64 a0_1) := (blk_cell BK229.out 1).trans rfl; have hcz5_2 : w4.cell? ⟨gb229, 2, none⟩ = some (.int .i64 a0_2) := (blk_cell BK229.out 2).trans rfl; have hcz5_3 : w4.cell? ⟨gb229, 3, none⟩ = some (.int .i64 a0_3) := (blk_cell BK229.out 3).trans rfl; have hcz5_4 : w4.cell? ⟨gb229, 4, none⟩ = some (.int .i64 a0_4) := (blk_cell BK229.out 4).trans rfl; have hcz5_5 : w4.cell? ⟨gb229, 5, none⟩ = some (.int .i64 a0_5) := (blk_cell BK229.out 5).trans rfl; have hcz5_6 : w4.cell? ⟨gb229, 6, none⟩ = some (.int .i64 a0_6) := (blk_cell BK229.out 6).trans rfl; have hcz5_7 : w4.cell? ⟨gb229, 7, none⟩ = some (.int .i64 a0_7) := (blk_cell BK229.out 7).trans rfl; have hcz5_8 : w4.cell? ⟨gb229, 8, none⟩ = some (.int .i64 a0_8) := (blk_cell BK229.out 8).trans rfl; have hfz5_0 := blk_frozen BK229.out 0; have hfz5_1 := blk_frozen BK229.out 1; have hfz5_2 := blk_frozen BK229.out 2; have hfz5_3 := blk_frozen BK229.out 3; have hfz5_4 := blk_frozen BK229.out 4; have hfz5_5 := blk_frozen BK229.out 5; have hfz5_6 := blk_frozen BK229.out 6; have hfz5_7 := blk_frozen BK229.out 7; have hfz5_8 := blk_frozen BK229.out 8))
    go_ret
    exact ⟨by first | rfl | (simp [errW_none, errW_some] <;> rfl) | (simp [*, errW_none, errW_some] <;> rfl), r0_ HB.out GE229.out⟩
  · rw [if_neg c3] at H
    have c3b0 : decide (a0_2 ≤ a1) = false := decide_eq_false c3
    clear c3
    obtain rfl := Option.some.inj H
    go_enter Try.func146, Try.ntmps146
    go_wp2_with (first | ((with_reducible refine gate_dst (N := 2) rfl ?_); refine box_event ?hg (N := 2) ?hd (cs := #[.string a0_0, .int .i64 a0_1, .int .i64 a0_2, .int .i64 a0_3, .int .i64 a0_4, .int .i64 a0_5, .int .i64 a0_6, .int .i64 a0_7, .int .i64 a0_8]) (t := 130) ?hr ?_; (case hd => rfl); (case hg => rfl); (case hr => first | (go_simp; done) | (go_simp; rfl)); intro gb229 hg w6 hbox hb; have BK229 := Aside0.mk (hbox); have GW229 := Aside0.mk ((by rw [hg]; exact (below_size (bl_ HB.out)) : w.heap.size ≤ gb229)); have GE229 := Aside0.mk ((by rw [hg]; exact (below_size (bl_ HB.out)) : w.heap.size ≤ gb229)); replace HB := Aside0.mk (below_step (bl_ HB.out) hb); clear hb hbox hg; have hcz7_0 : w6.cell? ⟨gb229, 0, none⟩ = some (.string a0_0) := (blk_cell BK229.out 0).trans rfl; have hcz7_1 : w6.cell? ⟨gb229, 1, none⟩ = some (.int .i64 a0_1) := (blk_cell BK229.out 1).trans rfl; have hcz7_2 : w6.cell? ⟨gb229, 2, none⟩ = some (.int .i64 a0_2) := (blk_cell BK229.out 2).trans rfl; have hcz7_3 : w6.cell? ⟨gb229, 3, none⟩ = some (.int .i64 a0_3) := (blk_cell BK229.out 3).trans rfl; have hcz7_4 : w6.cell? ⟨gb229, 4, none⟩ = some (.int .i64 a0_4) := (blk_cell BK229.out 4).trans rfl; have hcz7_5 : w6.cell? ⟨gb229, 5, none⟩ = some (.int .i64 a0_5) := (blk_cell BK229.out 5).trans rfl; have hcz7_6 : w6.cell? ⟨gb229, 6, none⟩ = some (.int .i64 a0_6) := (blk_cell BK229.out 6).trans rfl; have hcz7_7 : w6.cell? ⟨gb229, 7, none⟩ = some (.int .i64 a0_7) := (blk_cell BK229.out 7).trans rfl; have hcz7_8 : w6.cell? ⟨gb229, 8, none⟩ = some (.int .i64 a0_8) := (blk_cell BK229.out 8).trans rfl; have hfz7_0 := blk_frozen BK229.out 0; have hfz7_1 := blk_frozen BK229.out 1; have hfz7_2 := blk_frozen BK229.out 2; have hfz7_3 := blk_frozen BK229.out 3; have hfz7_4 := blk_frozen BK229.out 4; have hfz7_5 := blk_frozen BK229.out 5; have hfz7_6 := blk_frozen BK229.out 6; have hfz7_7 := blk_frozen BK229.out 7; have hfz7_8 := blk_frozen BK229.out 8))
    go_ret
    exact ⟨by first | rfl | (simp [errW_none, errW_some] <;> rfl) | (simp [*, errW_none, errW_some] <;> rfl), r0_ HB.out GE229.out⟩
mutual
def impl_IsRack.j0 : Nat → List (S130) → Bool → Int → Int → List Int → List ByteArray → Option (Bool)
 | 0, _, _, _, _, _, _ => none
 | k + 1, x0, x45, x231000, x231001, x231002, x231003 => if x45 = true then (some false) else (impl_IsRack.l0 k x0 x231003 (x231003.length : Int) 0 x231000 x231001 x231002 x231003)
def impl_IsRack.l0 : Nat → List (S130) → List ByteArray → Int → Int → Int → Int → List Int → List ByteArray → Option (Bool)
 | 0, _, _, _, _, _, _, _, _ => none
 | k + 1, x0, x47, x48, x49, x231000, x231001, x231002, x231003 => if x49 < x48 then (if 0 ≤ x49 then (if x49 < (x47.length : Int) then (if (rdOf ByteArray.empty x47 x49).toList = ([] : List UInt8) then (impl_IsRack.l0 k x0 x47 x48 (wrap64 (x49 + 1)) x231000 x231001 x231002 x231003) else ((impl_articleOf.f k x0 (rdOf ByteArray.empty x47 x49)).bind fun t235 => (if t235 < 0 then (some false) else (if 0 ≤ t235 then (if t235 < (x0.length : Int) then (if x49 < (x231002.length : Int) then ((impl_fits.f ((rd_T130 x0 t235).f0) ((rd_T130 x0 t235).f1) ((rd_T130 x0 t235).f2) ((rd_T130 x0 t235).f3) ((rd_T130 x0 t235).f4) ((rd_T130 x0 t235).f5) ((rd_T130 x0 t235).f6) ((rd_T130 x0 t235).f7) ((rd_T130 x0 t235).f8) (rd x231002 x49)).bind fun t238 => (if t238 = true then (impl_IsRack.l0 k x0 x47 x48 (wrap64 (x49 + 1)) x231000 x231001 x231002 x231003) else (some false))) else (none)) else (none)) else (none))))) else (none)) else (none)) else (some true)
end
def impl_IsRack.f (k : Nat) (l0 : List (S130)) (a1_0 : Int) (a1_1 : Int) (l1_2 : List Int) (l1_3 : List ByteArray) : Option (Bool) := (impl_AreArticles.f k l0).bind fun t231 => (if t231 = true then ((impl_isPlace.f a1_0 a1_1).bind fun t232 => (if t232 = true then (if (l1_2.length : Int) < 1 then (impl_IsRack.j0 k l0 true a1_0 a1_1 l1_2 l1_3) else (if (l1_2.length : Int) > 12 then (impl_IsRack.j0 k l0 true a1_0 a1_1 l1_2 l1_3) else (if (l1_3.length : Int) = (l1_2.length : Int) then ((impl_allWithin.f k l1_2 20 300).bind fun t233 => (impl_IsRack.j0 k l0 (!t233) a1_0 a1_1 l1_2 l1_3)) else (impl_IsRack.j0 k l0 true a1_0 a1_1 l1_2 l1_3)))) else (impl_IsRack.j0 k l0 true a1_0 a1_1 l1_2 l1_3))) else (impl_IsRack.j0 k l0 true a1_0 a1_1 l1_2 l1_3))
def impl_IsRack.T8 : Bool × List (List Nat × List Nat) := (true, [([], []), ([0], [0]), ([1], [1]), ([2], [2]), ([2], [2]), ([3, 4, 2], [2, 3, 4]), ([5, 2], [2, 5]), ([2], [2]), ([7, 2], [2, 7]), ([2], [2]), ([8, 9, 2], [2, 8, 9]), ([10, 2], [2, 10]), ([6, 11, 2, 2], [2, 6, 11]), ([12, 2], [2, 12]), ([2, 13], [2, 13])])
def impl_IsRack.B8 : List Nat := [0, 1, 3, 7, 7, 31, 63, 7, 135, 7, 903, 1927, 4095, 8191, 16383]
theorem impl_IsRack.tab8 : rtab .any (opsOf Try.f108 8) = impl_IsRack.T8 := by kernel_rfl
theorem impl_IsRack.bits8 : waitsOk impl_IsRack.T8.2 impl_IsRack.B8 = true := by kernel_rfl
set_option maxHeartbeats 8000000 in
set_option maxRecDepth 100000 in
theorem impl_IsRack.calls (k : Nat) (A0 : Option Addr) (c0 : Nat) (l0 : List (S130)) (a1_0 : Int) (a1_1 : Int) (A1_2 : Option Addr) (c1_2 : Nat) (l1_2 : List Int) (A1_3 : Option Addr) (c1_3 : Nat) (l1_3 : List ByteArray) (r : Bool) (w : World) (hr0 : Kd.C k130 w A0 l0.length l0) (hc0 : l0.length ≤ c0) (hr1_2 : Kd.C (Kd.int .i64) w A1_2 l1_2.length l1_2) (hc1_2 : l1_2.length ≤ c1_2) (hr1_3 : Kd.C Kd.string w A1_3 l1_3.length l1_3) (hc1_3 : l1_3.length ≤ c1_3) (h : impl_IsRack.f k l0 a1_0 a1_1 l1_2 l1_3 = some r) :
  Calls Try.prog 108 #[.slice A0 l0.length c0, .agg #[.int .i64 a1_0, .int .i64 a1_1, .slice A1_2 l1_2.length c1_2, .slice A1_3 l1_3.length c1_3]] w fun e w' => e = .returned (.bool r) ∧ Below w.heap.size w w' := by
 have hu67 := Try.underlying67
 have hu130 := Try.underlying130
 have HR0 := Aside0.mk hr0
 have HC0 := Aside0.mk hc0
 clear hr0 hc0
 have HR1_2 := Aside0.mk hr1_2
 have HC1_2 := Aside0.mk hc1_2
 clear hr1_2 hc1_2
 have HR1_3 := Aside0.mk hr1_3
 have HC1_3 := Aside0.mk hc1_3
 clear hr1_3 hc1_3
 have HB := Aside0.mk (Below.refl w.heap.size w)
 have H : ((impl_AreArticles.f k l0).bind fun t231 => (if t231 = true then ((impl_isPlace.f a1_0 a1_1).bind fun t232 => (if t232 = true then (if (l1_2.length : Int) < 1 then (impl_IsRack.j0 k l0 true a1_0 a1_1 l1_2 l1_3) else (if (l1_2.length : Int) > 12 then (impl_IsRack.j0 k l0 true a1_0 a1_1 l1_2 l1_3) else (if (l1_3.length : Int) = (l1_2.length : Int) then ((impl_allWithin.f k l1_2 20 300).bind fun t233 => (impl_IsRack.j0 k l0 (!t233) a1_0 a1_1 l1_2 l1_3)) else (impl_IsRack.j0 k l0 true a1_0 a1_1 l1_2 l1_3)))) else (impl_IsRack.j0 k l0 true a1_0 a1_1 l1_2 l1_3))) else (impl_IsRack.j0 k l0 true a1_0 a1_1 l1_2 l1_3))) = some r := h
 clear h
 have HC3 := Aside0.mk H
 clear H
 go_enter Try.func108, Try.ntmps108
 go_upto_region 1 with (first | ((with_reducible refine gate_dst (N := 3) rfl ?_); (try (refine gate_guard (by rfl) ?_; dsimp only)); refine box_event ?hg (N := 3) ?hd (cs := #[.int .i64 a1_0, .int .i64 a1_1, .slice A1_2 l1_2.length c1_2, .slice A1_3 l1_3.length c1_3]) (t := 67) ?hr ?_; (case hd => rfl); (case hg => rfl); (case hr => first | (go_simp; done) | (go_simp; rfl)); intro gb230 hg w4 hbox hb; have BK230 := Aside0.mk (hbox); have GW230 := Aside0.mk ((by rw [hg]; exact (below_size (bl_ HB.out)) : w.heap.size ≤ gb230)); have GE230 := Aside0.mk ((by rw [hg]; exact (below_size (bl_ HB.out)) : w.heap.size ≤ gb230)); replace HB := Aside0.mk (below_step (bl_ HB.out) hb); clear hb hbox hg))
 (try simp only [Act.put, List.setIfInBounds_toArray, List.set_cons_zero, List.set_cons_succ])
 go_cut [45] (fun v45 wc => ∃ (kq : Nat) (x45_2 : Bool), v45 = .bool x45_2 ∧ Aside0 (impl_IsRack.j0 kq l0 x45_2 a1_0 a1_1 l1_2 l1_3 = some r) ∧ Aside0 (kq ≤ k) ∧ Aside0 (wc.heap[gb230]? = some (.cells #[.int .i64 a1_0, .int .i64 a1_1, (.slice A1_2 l1_2.length c1_2), (.slice A1_3 l1_3.length c1_3)] 67 (0, 0))) ∧ Aside0 (Below w.heap.size w wc))
 case first =>
  have H := HC3.out
  clear HC3
  replace H := Option.bind_eq_some_iff.mp H
  obtain ⟨t231, A50, H⟩ := H
  replace H : (if t231 = true then ((impl_isPlace.f a1_0 a1_1).bind fun t232 => (if t232 = true then (if (l1_2.length : Int) < 1 then (impl_IsRack.j0 k l0 true a1_0 a1_1 l1_2 l1_3) else (if (l1_2.length : Int) > 12 then (impl_IsRack.j0 k l0 true a1_0 a1_1 l1_2 l1_3) else (if (l1_3.length : Int) = (l1_2.length : Int) then ((impl_allWithin.f k l1_2 20 300).bind fun t233 => (impl_IsRack.j0 k l0 (!t233) a1_0 a1_1 l1_2 l1_3)) else (impl_IsRack.j0 k l0 true a1_0 a1_1 l1_2 l1_3)))) else (impl_IsRack.j0 k l0 true a1_0 a1_1 l1_2 l1_3))) else (impl_IsRack.j0 k l0 true a1_0 a1_1 l1_2 l1_3)) = some r := H
  have A5 := Aside0.mk A50
  clear A50
  by_cases c6 : t231 = true
  ·subst c6
   replace H : ((impl_isPlace.f a1_0 a1_1).bind fun t232 => (if t232 = true then (if (l1_2.length : Int) < 1 then (impl_IsRack.j0 k l0 true a1_0 a1_1 l1_2 l1_3) else (if (l1_2.length : Int) > 12 then (impl_IsRack.j0 k l0 true a1_0 a1_1 l1_2 l1_3) else (if (l1_3.length : Int) = (l1_2.length : Int) then ((impl_allWithin.f k l1_2 20 300).bind fun t233 => (impl_IsRack.j0 k l0 (!t233) a1_0 a1_1 l1_2 l1_3)) else (impl_IsRack.j0 k l0 true a1_0 a1_1 l1_2 l1_3)))) else (impl_IsRack.j0 k l0 true a1_0 a1_1 l1_2 l1_3))) = some r := by rw [if_pos rfl] at H; exact H
   replace H := Option.bind_eq_some_iff.mp H
   obtain ⟨t232, A70, H⟩ := H
   replace H : (if t232 = true then (if (l1_2.length : Int) < 1 then (impl_IsRack.j0 k l0 true a1_0 a1_1 l1_2 l1_3) else (if (l1_2.length : Int) > 12 then (impl_IsRack.j0 k l0 true a1_0 a1_1 l1_2 l1_3) else (if (l1_3.length : Int) = (l1_2.length : Int) then ((impl_allWithin.f k l1_2 20 300).bind fun t233 => (impl_IsRack.j0 k l0 (!t233) a1_0 a1_1 l1_2 l1_3)) else (impl_IsRack.j0 k l0 true a1_0 a1_1 l1_2 l1_3)))) else (impl_IsRack.j0 k l0 true a1_0 a1_1 l1_2 l1_3)) = some r := H
   have A7 := Aside0.mk A70
   clear A70
   by_cases c8 : t232 = true
   ·subst c8
    replace H : (if (l1_2.length : Int) < 1 then (impl_IsRack.j0 k l0 true a1_0 a1_1 l1_2 l1_3) else (if (l1_2.length : Int) > 12 then (impl_IsRack.j0 k l0 true a1_0 a1_1 l1_2 l1_3) else (if (l1_3.length : Int) = (l1_2.length : Int) then ((impl_allWithin.f k l1_2 20 300).bind fun t233 => (impl_IsRack.j0 k l0 (!t233) a1_0 a1_1 l1_2 l1_3)) else (impl_IsRack.j0 k l0 true a1_0 a1_1 l1_2 l1_3)))) = some r := by rw [if_pos rfl] at H; exact H
    by_cases c9 : (l1_2.length : Int) < 1
    ·rw [if_pos c9] at H
     have c9b0 : decide ((l1_2.length : Int) < 1) = true := decide_eq_true c9
     have c9b1 : decide (l1_2.length < 1) = true := decide_eq_true (by omega)
     clear c9
     (first | rw [c9b0] | (simp only [i64_w, i32_w]; rw [c9b0]) | skip)
     have H' := Aside0.mk H
     clear H
     go_wp2_with (first | ((with_reducible refine gate_callee (f := 143) rfl ?_); refine goesL_ (some 9) rfl rfl Try.func143 (by kernel_rfl) rfl #[.slice A0 l0.length c0] rfl ag_ ?_; (with_reducible refine (impl_AreArticles.calls k _ _ l0 true _ ?side1 ?side2 A5.out).mono ?_); (case side1 => exact r2_ HR0.out HB.out); (case side2 => exact HC0.out); rintro e w10 ⟨rfl, hb⟩; refine ⟨_, rfl, ?_⟩; replace BK230 := Aside0.mk (blk_below (g := gb230) (o := .cells #[.int .i64 a1_0, .int .i64 a1_1, .slice A1_2 l1_2.length c1_2, .slice A1_3 l1_3.length c1_3] 67 (0, 0)) (r1_ BK230.out) hb); replace HB := Aside0.mk (below_step (r0_ HB.out GE230.out) hb); (try clear hb); (try clear hb2); (try clear hk); (try clear hi); have hcz11_0 : w10.cell? ⟨gb230, 0, none⟩ = some (.int .i64 a1_0) := (blk_cell BK230.out 0).trans rfl; have hcz11_1 : w10.cell? ⟨gb230, 1, none⟩ = some (.int .i64 a1_1) := (blk_cell BK230.out 1).trans rfl; have hcz11_2 : w10.cell? ⟨gb230, 2, none⟩ = some (.slice A1_2 l1_2.length c1_2) := (blk_cell BK230.out 2).trans rfl; have hcz11_3 : w10.cell? ⟨gb230, 3, none⟩ = some (.slice A1_3 l1_3.length c1_3) := (blk_cell BK230.out 3).trans rfl; have hfz11_0 := blk_frozen BK230.out 0; have hfz11_1 := blk_frozen BK230.out 1; have hfz11_2 := blk_frozen BK230.out 2; have hfz11_3 := blk_frozen BK230.out 3) | (go_at_call 92; (with_reducible refine (impl_isPlace.calls a1_0 a1_1 true _ A7.out).mono ?_); rintro e w' ⟨rfl, ⟨nd, rfl⟩⟩))
     go_meet
     case rel => exact ⟨_, (true), (by first | rfl | (simp; done) | (simp [*]; done)), H', ⟨by first | omega | exact Nat.le_refl _⟩, ⟨r1_ BK230.out⟩, ⟨r0_ HB.out GE230.out⟩⟩
    ·rw [if_neg c9] at H
     have c9b0 : decide ((l1_2.length : Int) < 1) = false := decide_eq_false c9
     have c9b1 : decide (l1_2.length < 1) = false := decide_eq_false (by omega)
     clear c9
     (first | rw [c9b0] | (simp only [i64_w, i32_w]; rw [c9b0]) | skip)
     by_cases c12 : (l1_2.length : Int) > 12
     ·rw [if_pos c12] at H
      have c12b0 : decide (12 < (l1_2.length : Int)) = true := decide_eq_true c12
      have c12b1 : decide (12 < l1_2.length) = true := decide_eq_true (by omega)
      clear c12
      have H' := Aside0.mk H
      clear H
      go_wp2_with (first | ((with_reducible refine gate_callee (f := 143) rfl ?_); refine goesL_ (some 9) rfl rfl Try.func143 (by kernel_rfl) rfl #[.slice A0 l0.length c0] rfl ag_ ?_; (with_reducible refine (impl_AreArticles.calls k _ _ l0 true _ ?side1 ?side2 A5.out).mono ?_); (case side1 => exact r2_ HR0.out HB.out); (case side2 => exact HC0.out); rintro e w13 ⟨rfl, hb⟩; refine ⟨_, rfl, ?_⟩; replace BK230 := Aside0.mk (blk_below (g := gb230) (o := .cells #[.int .i64 a1_0, .int .i64 a1_1, .slice A1_2 l1_2.length c1_2, .slice A1_3 l1_3.length c1_3] 67 (0, 0)) (r1_ BK230.out) hb); replace HB := Aside0.mk (below_step (r0_ HB.out GE230.out) hb); (try clear hb); (try clear hb2); (try clear hk); (try clear hi); have hcz14_0 : w13.cell? ⟨gb230, 0, none⟩ = some (.int .i64 a1_0) := (blk_cell BK230.out 0).trans rfl; have hcz14_1 : w13.cell? ⟨gb230, 1, none⟩ = some (.int .i64 a1_1) := (blk_cell BK230.out 1).trans rfl; have hcz14_2 : w13.cell? ⟨gb230, 2, none⟩ = some (.slice A1_2 l1_2.length c1_2) := (blk_cell BK230.out 2).trans rfl; have hcz14_3 : w13.cell? ⟨gb230, 3, none⟩ = some (.slice A1_3 l1_3.length c1_3) := (blk_cell BK230.out 3).trans rfl; have hfz14_0 := blk_frozen BK230.out 0; have hfz14_1 := blk_frozen BK230.out 1; have hfz14_2 := blk_frozen BK230.out 2; have hfz14_3 := blk_frozen BK230.out 3) | (go_at_call 92; (with_reducible refine (impl_isPlace.calls a1_0 a1_1 true _ A7.out).mono ?_); rintro e w' ⟨rfl, ⟨nd, rfl⟩⟩))
      go_meet
      case rel => exact ⟨_, (true), (by first | rfl | (simp; done) | (simp [*]; done)), H', ⟨by first | omega | exact Nat.le_refl _⟩, ⟨r1_ BK230.out⟩, ⟨r0_ HB.out GE230.out⟩⟩
     ·rw [if_neg c12] at H
      have c12b0 : decide (12 < (l1_2.length : Int)) = false := decide_eq_false c12
      have c12b1 : decide (12 < l1_2.length) = false := decide_eq_false (by omega)
      clear c12
      by_cases c15 : (l1_3.length : Int) = (l1_2.length : Int)
      ·rw [if_pos c15] at H
       have c15b0 : ((l1_3.length : Int) == (l1_2.length : Int)) = true := beq_iff_eq.mpr c15
       have c15b1 : ((l1_3.length : Int) != (l1_2.length : Int)) = false := bne_eq_false_iff_eq.mpr c15
       have c15b2 : (l1_3.length == l1_2.length) = true := by first | simpa using c15 | (simp at c15 ⊢; omega)
       clear c15
       replace H := Option.bind_eq_some_iff.mp H
       obtain ⟨t233, A160, H⟩ := H
       replace H : (impl_IsRack.j0 k l0 (!t233) a1_0 a1_1 l1_2 l1_3) = some r := H
       have A16 := Aside0.mk A160
       clear A160
       have H' := Aside0.mk H
       clear H
       go_wp2_with (first | ((with_reducible refine gate_callee (f := 143) rfl ?_); refine goesL_ (some 9) rfl rfl Try.func143 (by kernel_rfl) rfl #[.slice A0 l0.length c0] rfl ag_ ?_; (with_reducible refine (impl_AreArticles.calls k _ _ l0 true _ ?side1 ?side2 A5.out).mono ?_); (case side1 => exact r2_ HR0.out HB.out); (case side2 => exact HC0.out); rintro e w17 ⟨rfl, hb⟩; refine ⟨_, rfl, ?_⟩; replace BK230 := Aside0.mk (blk_below (g := gb230) (o := .cells #[.int .i64 a1_0, .int .i64 a1_1, .slice A1_2 l1_2.length c1_2, .slice A1_3 l1_3.length c1_3] 67 (0, 0)) (r1_ BK230.out) hb); replace HB := Aside0.mk (below_step (r0_ HB.out GE230.out) hb); (try clear hb); (try clear hb2); (try clear hk); (try clear hi); have hcz18_0 : w17.cell? ⟨gb230, 0, none⟩ = some (.int .i64 a1_0) := (blk_cell BK230.out 0).trans rfl; have hcz18_1 : w17.cell? ⟨gb230, 1, none⟩ = some (.int .i64 a1_1) := (blk_cell BK230.out 1).trans rfl; have hcz18_2 : w17.cell? ⟨gb230, 2, none⟩ = some (.slice A1_2 l1_2.length c1_2) := (blk_cell BK230.out 2).trans rfl; have hcz18_3 : w17.cell? ⟨gb230, 3, none⟩ = some (.slice A1_3 l1_3.length c1_3) := (blk_cell BK230.out 3).trans rfl; have hfz18_0 := blk_frozen BK230.out 0; have hfz18_1 := blk_frozen BK230.out 1; have hfz18_2 := blk_frozen BK230.out 2; have hfz18_3 := blk_frozen BK230.out 3) | (go_at_call 92; (with_reducible refine (impl_isPlace.calls a1_0 a1_1 true _ A7.out).mono ?_); rintro e w' ⟨rfl, ⟨nd, rfl⟩⟩) | (go_at_call 144; (with_reducible refine (impl_allWithin.calls k _ _ l1_2 20 300 t233 _ ?side1 ?side2 A16.out).mono ?_); (case side1 => exact r4_ HR1_2.out HB.out GE230.out); (case side2 => exact HC1_2.out); rintro e w' ⟨rfl, ⟨nd, rfl⟩⟩))
       go_meet
       case rel => exact ⟨_, (!t233), (by first | rfl | (simp; done) | (simp [*]; done)), H', ⟨by first | omega | exact Nat.le_refl _⟩, ⟨r1_ BK230.out⟩, ⟨r0_ HB.out GE230.out⟩⟩
      ·rw [if_neg c15] at H
       have c15b0 : ((l1_3.length : Int) == (l1_2.length : Int)) = false := beq_eq_false_iff_ne.mpr c15
       have c15b1 : ((l1_3.length : Int) != (l1_2.length : Int)) = true := bne_iff_ne.mpr c15
       have c15b2 : (l1_3.length == l1_2.length) = false := by first | simpa using c15 | (simp at c15 ⊢; omega)
       have H' := Aside0.mk H
       clear H
       go_wp2_with (first | ((with_reducible refine gate_callee (f := 143) rfl ?_); refine goesL_ (some 9) rfl rfl Try.func143 (by kernel_rfl) rfl #[.slice A0 l0.length c0] rfl ag_ ?_; (with_reducible refine (impl_AreArticles.calls k _ _ l0 true _ ?side1 ?side2 A5.out).mono ?_); (case side1 => exact r2_ HR0.out HB.out); (case side2 => exact HC0.out); rintro e w19 ⟨rfl, hb⟩; refine ⟨_, rfl, ?_⟩; replace BK230 := Aside0.mk (blk_below (g := gb230) (o := .cells #[.int .i64 a1_0, .int .i64 a1_1, .slice A1_2 l1_2.length c1_2, .slice A1_3 l1_3.length c1_3] 67 (0, 0)) (r1_ BK230.out) hb); replace HB := Aside0.mk (below_step (r0_ HB.out GE230.out) hb); (try clear hb); (try clear hb2); (try clear hk); (try clear hi); have hcz20_0 : w19.cell? ⟨gb230, 0, none⟩ = some (.int .i64 a1_0) := (blk_cell BK230.out 0).trans rfl; have hcz20_1 : w19.cell? ⟨gb230, 1, none⟩ = some (.int .i64 a1_1) := (blk_cell BK230.out 1).trans rfl; have hcz20_2 : w19.cell? ⟨gb230, 2, none⟩ = some (.slice A1_2 l1_2.length c1_2) := (blk_cell BK230.out 2).trans rfl; have hcz20_3 : w19.cell? ⟨gb230, 3, none⟩ = some (.slice A1_3 l1_3.length c1_3) := (blk_cell BK230.out 3).trans rfl; have hfz20_0 := blk_frozen BK230.out 0; have hfz20_1 := blk_frozen BK230.out 1; have hfz20_2 := blk_frozen BK230.out 2; have hfz20_3 := blk_frozen BK230.out 3) | (go_at_call 92; (with_reducible refine (impl_isPlace.calls a1_0 a1_1 true _ A7.out).mono ?_); rintro e w' ⟨rfl, ⟨nd, rfl⟩⟩))
       go_meet
       case rel => exact ⟨_, (true), (by first | rfl | (simp; done) | (simp [*]; done)), H', ⟨by first | omega | exact Nat.le_refl _⟩, ⟨r1_ BK230.out⟩, ⟨r0_ HB.out GE230.out⟩⟩
   ·replace c8 := Bool.eq_false_iff.mpr c8
    subst c8
    replace H : (impl_IsRack.j0 k l0 true a1_0 a1_1 l1_2 l1_3) = some r := by rw [if_neg (show ¬ (false = true) by decide)] at H; exact H
    have H' := Aside0.mk H
    clear H
    go_wp2_with (first | ((with_reducible refine gate_callee (f := 143) rfl ?_); refine goesL_ (some 9) rfl rfl Try.func143 (by kernel_rfl) rfl #[.slice A0 l0.length c0] rfl ag_ ?_; (with_reducible refine (impl_AreArticles.calls k _ _ l0 true _ ?side1 ?side2 A5.out).mono ?_); (case side1 => exact r2_ HR0.out HB.out); (case side2 => exact HC0.out); rintro e w21 ⟨rfl, hb⟩; refine ⟨_, rfl, ?_⟩; replace BK230 := Aside0.mk (blk_below (g := gb230) (o := .cells #[.int .i64 a1_0, .int .i64 a1_1, .slice A1_2 l1_2.length c1_2, .slice A1_3 l1_3.length c1_3] 67 (0, 0)) (r1_ BK230.out) hb); replace HB := Aside0.mk (below_step (r0_ HB.out GE230.out) hb); (try clear hb); (try clear hb2); (try clear hk); (try clear hi); have hcz22_0 : w21.cell? ⟨gb230, 0, none⟩ = some (.int .i64 a1_0) := (blk_cell BK230.out 0).trans rfl; have hcz22_1 : w21.cell? ⟨gb230, 1, none⟩ = some (.int .i64 a1_1) := (blk_cell BK230.out 1).trans rfl; have hcz22_2 : w21.cell? ⟨gb230, 2, none⟩ = some (.slice A1_2 l1_2.length c1_2) := (blk_cell BK230.out 2).trans rfl; have hcz22_3 : w21.cell? ⟨gb230, 3, none⟩ = some (.slice A1_3 l1_3.length c1_3) := (blk_cell BK230.out 3).trans rfl; have hfz22_0 := blk_frozen BK230.out 0; have hfz22_1 := blk_frozen BK230.out 1; have hfz22_2 := blk_frozen BK230.out 2; have hfz22_3 := blk_frozen BK230.out 3) | (go_at_call 92; (with_reducible refine (impl_isPlace.calls a1_0 a1_1 false _ A7.out).mono ?_); rintro e w' ⟨rfl, ⟨nd, rfl⟩⟩))
    go_meet
    case rel => exact ⟨_, (true), (by first | rfl | (simp; done) | (simp [*]; done)), H', ⟨by first | omega | exact Nat.le_refl _⟩, ⟨r1_ BK230.out⟩, ⟨r0_ HB.out GE230.out⟩⟩
  ·replace c6 := Bool.eq_false_iff.mpr c6
   subst c6
   replace H : (impl_IsRack.j0 k l0 true a1_0 a1_1 l1_2 l1_3) = some r := by rw [if_neg (show ¬ (false = true) by decide)] at H; exact H
   have H' := Aside0.mk H
   clear H
   go_wp2_with (first | ((with_reducible refine gate_callee (f := 143) rfl ?_); refine goesL_ (some 9) rfl rfl Try.func143 (by kernel_rfl) rfl #[.slice A0 l0.length c0] rfl ag_ ?_; (with_reducible refine (impl_AreArticles.calls k _ _ l0 false _ ?side1 ?side2 A5.out).mono ?_); (case side1 => exact r2_ HR0.out HB.out); (case side2 => exact HC0.out); rintro e w23 ⟨rfl, hb⟩; refine ⟨_, rfl, ?_⟩; replace BK230 := Aside0.mk (blk_below (g := gb230) (o := .cells #[.int .i64 a1_0, .int .i64 a1_1, .slice A1_2 l1_2.length c1_2, .slice A1_3 l1_3.length c1_3] 67 (0, 0)) (r1_ BK230.out) hb); replace HB := Aside0.mk (below_step (r0_ HB.out GE230.out) hb); (try clear hb); (try clear hb2); (try clear hk); (try clear hi)))
   go_meet
   case rel => exact ⟨_, (true), (by first | rfl | (simp; done) | (simp [*]; done)), H', ⟨by first | omega | exact Nat.le_refl _⟩, ⟨r1_ BK230.out⟩, ⟨r0_ HB.out GE230.out⟩⟩
 case rest =>
  clear HC3
  try clear c1
  try clear p2
  try clear c6
  try clear c8
  try clear c9
  try clear c9b0
  try clear c9b1
  try clear c10
  try clear c12
  try clear c12b0
  try clear c12b1
  try clear c14
  try clear c15
  try clear c15b0
  try clear c15b1
  try clear c15b2
  try clear hcz11_0
  try clear hcz11_1
  try clear hcz11_2
  try clear hcz11_3
  try clear hcz14_0
  try clear hcz14_1
  try clear hcz14_2
  try clear hcz14_3
  try clear hcz18_0
  try clear hcz18_1
  try clear hcz18_2
  try clear hcz18_3
  try clear hcz20_0
  try clear hcz20_1
  try clear hcz20_2
  try clear hcz20_3
  try clear hcz22_0
  try clear hcz22_1
  try clear hcz22_2
  try clear hcz22_3
  try clear hfz11_0
  try clear hfz11_1
  try clear hfz11_2
  try clear hfz11_3
  try clear hfz14_0
  try clear hfz14_1
  try clear hfz14_2
  try clear hfz14_3
  try clear hfz18_0
  try clear hfz18_1
  try clear hfz18_2
  try clear hfz18_3
  try clear hfz20_0
  try clear hfz20_1
  try clear hfz20_2
  try clear hfz20_3
  try clear hfz22_0
  try clear hfz22_1
  try clear hfz22_2
  try clear hfz22_3
  obtain ⟨kq, x45_2, rfl, HA, HJ2, BK230, HB⟩ := hcut
  cases kq with
  | zero => exact absurd HA.out (by simp [impl_IsRack.j0])
  | succ kj2 =>
   have H := HA.out
   clear HA
   simp only [impl_IsRack.j0] at H
   by_cases c24 : x45_2 = true
   ·subst c24
    replace H : (some false) = some r := by rw [if_pos rfl] at H; exact H
    obtain rfl := Option.some.inj H
    go_wp2
    go_ret
    exact ⟨by first | rfl | (simp [errW_none, errW_some] <;> rfl) | (simp [*, errW_none, errW_some] <;> rfl), r0_ HB.out GE230.out⟩
   ·replace c24 := Bool.eq_false_iff.mpr c24
    subst c24
    replace H : (impl_IsRack.l0 kj2 l0 l1_3 (l1_3.length : Int) 0 a1_0 a1_1 l1_2 l1_3) = some r := by rw [if_neg (show ¬ (false = true) by decide)] at H; exact H
    have H' := Aside0.mk H
    clear H
    have hcz25_0 : wc.cell? ⟨gb230, 0, none⟩ = some (.int .i64 a1_0) := (blk_cell BK230.out 0).trans rfl
    have hcz25_1 : wc.cell? ⟨gb230, 1, none⟩ = some (.int .i64 a1_1) := (blk_cell BK230.out 1).trans rfl
    have hcz25_2 : wc.cell? ⟨gb230, 2, none⟩ = some (.slice A1_2 l1_2.length c1_2) := (blk_cell BK230.out 2).trans rfl
    have hcz25_3 : wc.cell? ⟨gb230, 3, none⟩ = some (.slice A1_3 l1_3.length c1_3) := (blk_cell BK230.out 3).trans rfl
    have hfz25_0 := blk_frozen BK230.out 0
    have hfz25_1 := blk_frozen BK230.out 1
    have hfz25_2 := blk_frozen BK230.out 2
    have hfz25_3 := blk_frozen BK230.out 3
    go_wp2
    go_loopg [49] kj2 (fun kq v49 w' => ∃ (x49_2 : Int), v49 = .int .i64 x49_2 ∧ Aside0 (impl_IsRack.l0 kq l0 l1_3 (l1_3.length : Int) x49_2 a1_0 a1_1 l1_2 l1_3 = some r) ∧ Aside0 (kq ≤ kj2) ∧ Aside0 (w'.heap[gb230]? = some (.cells #[.int .i64 a1_0, .int .i64 a1_1, (.slice A1_2 l1_2.length c1_2), (.slice A1_3 l1_3.length c1_3)] 67 (0, 0))) ∧ Aside0 (Below w.heap.size w w'))
    case atStart => exact ⟨(0), (by first | rfl | (simp; done) | (simp [*]; done)), H', ⟨Nat.le_refl _⟩, ⟨r1_ BK230.out⟩, ⟨r0_ HB.out GE230.out⟩⟩
    case round =>
     clear H'
     try clear c1
     try clear c2
     try clear p2
     try clear c6
     try clear c8
     try clear c9
     try clear c9b0
     try clear c9b1
     try clear c10
     try clear c12
     try clear c12b0
     try clear c12b1
     try clear c14
     try clear c15
     try clear c15b0
     try clear c15b1
     try clear c15b2
     try clear c24
     try clear hcz11_0
     try clear hcz11_1
     try clear hcz11_2
     try clear hcz11_3
     try clear hcz14_0
     try clear hcz14_1
     try clear hcz14_2
     try clear hcz14_3
     try clear hcz18_0
     try clear hcz18_1
     try clear hcz18_2
     try clear hcz18_3
     try clear hcz20_0
     try clear hcz20_1
     try clear hcz20_2
     try clear hcz20_3
     try clear hcz22_0
     try clear hcz22_1
     try clear hcz22_2
     try clear hcz22_3
     try clear hcz25_0
     try clear hcz25_1
     try clear hcz25_2
     try clear hcz25_3
     try clear hfz11_0
     try clear hfz11_1
     try clear hfz11_2
     try clear hfz11_3
     try clear hfz14_0
     try clear hfz14_1
     try clear hfz14_2
     try clear hfz14_3
     try clear hfz18_0
     try clear hfz18_1
     try clear hfz18_2
     try clear hfz18_3
     try clear hfz20_0
     try clear hfz20_1
     try clear hfz20_2
     try clear hfz20_3
     try clear hfz22_0
     try clear hfz22_1
     try clear hfz22_2
     try clear hfz22_3
     try clear hfz25_0
     try clear hfz25_1
     try clear hfz25_2
     try clear hfz25_3
     try clear p2
     obtain ⟨x49_2, rfl, HA, HK2, BK230, HB⟩ := hrel
     cases gk with
     | zero => exact absurd HA.out (by simp [impl_IsRack.l0])
     | succ k2 =>
      have H := HA.out
      clear HA
      simp only [impl_IsRack.l0] at H
      by_cases c26 : x49_2 < (l1_3.length : Int)
      ·rw [if_pos c26] at H
       have c26b0 : decide (x49_2 < (l1_3.length : Int)) = true := decide_eq_true c26
       clear c26
       by_cases c27 : 0 ≤ x49_2
       case neg =>
        rw [if_neg c27] at H
        exact absurd H (by simp)
       rw [if_pos c27] at H
       have c27b0 : decide (0 ≤ x49_2) = true := decide_eq_true c27
       clear c27
       by_cases c28 : x49_2 < (l1_3.length : Int)
       case neg =>
        rw [if_neg c28] at H
        exact absurd H (by simp)
       rw [if_pos c28] at H
       have c28b0 : decide (x49_2 < (l1_3.length : Int)) = true := decide_eq_true c28
       clear c28
       by_cases c29 : (rdOf ByteArray.empty l1_3 x49_2).toList = ([] : List UInt8)
       ·rw [if_pos c29] at H
        have c29b0 : ((rdOf ByteArray.empty l1_3 x49_2).toList == ([] : List UInt8)) = true := beq_iff_eq.mpr c29
        have c29b1 : ((rdOf ByteArray.empty l1_3 x49_2).toList != ([] : List UInt8)) = false := bne_eq_false_iff_eq.mpr c29
        clear c29
        have H' := Aside0.mk H
        clear H
        have p234 : 0 ≤ (x49_2 : Int) := od_
        have q234 : x49_2 < (l1_3.length : Int) := od_
        obtain ⟨ad234, e234, hx234_0⟩ := Kd.at_string HR1_3.out x49_2 p234 q234
        cases e234
        replace hx234_0 := bc_ HB.out hx234_0
        replace p234 := eq_true p234
        replace q234 := eq_true q234
        go_wp2
        go_roundg k2
        case measure => have := HJ2.out; have := HK2.out; omega
        case rel => exact ⟨(wrap64 (x49_2 + 1)), (by first | rfl | (simp; done) | (simp [*]; done)), H', ⟨by have := HJ2.out; have := HK2.out; omega⟩, ⟨r1_ BK230.out⟩, ⟨r0_ HB.out GE230.out⟩⟩
       ·rw [if_neg c29] at H
        have c29b0 : ((rdOf ByteArray.empty l1_3 x49_2).toList == ([] : List UInt8)) = false := beq_eq_false_iff_ne.mpr c29
        have c29b1 : ((rdOf ByteArray.empty l1_3 x49_2).toList != ([] : List UInt8)) = true := bne_iff_ne.mpr c29
        replace H := Option.bind_eq_some_iff.mp H
        obtain ⟨t235, A300, H⟩ := H
        replace H : (if t235 < 0 then (some false) else (if 0 ≤ t235 then (if t235 < (l0.length : Int) then (if x49_2 < (l1_2.length : Int) then ((impl_fits.f ((rd_T130 l0 t235).f0) ((rd_T130 l0 t235).f1) ((rd_T130 l0 t235).f2) ((rd_T130 l0 t235).f3) ((rd_T130 l0 t235).f4) ((rd_T130 l0 t235).f5) ((rd_T130 l0 t235).f6) ((rd_T130 l0 t235).f7) ((rd_T130 l0 t235).f8) (rd l1_2 x49_2)).bind fun t238 => (if t238 = true then (impl_IsRack.l0 k2 l0 l1_3 (l1_3.length : Int) (wrap64 (x49_2 + 1)) a1_0 a1_1 l1_2 l1_3) else (some false))) else (none)) else (none)) else (none))) = some r := H
        have A30 := Aside0.mk A300
        clear A300
        by_cases c31 : t235 < 0
        ·rw [if_pos c31] at H
         have c31b0 : decide (t235 < 0) = true := decide_eq_true c31
         clear c31
         obtain rfl := Option.some.inj H
         have p234 : 0 ≤ (x49_2 : Int) := od_
         have q234 : x49_2 < (l1_3.length : Int) := od_
         obtain ⟨ad234, e234, hx234_0⟩ := Kd.at_string HR1_3.out x49_2 p234 q234
         cases e234
         replace hx234_0 := bc_ HB.out hx234_0
         replace p234 := eq_true p234
         replace q234 := eq_true q234
         try go_wp2_with (first | ((with_reducible refine gate_callee (f := 145) rfl ?_); refine goesL_ (some 58) rfl rfl Try.func145 (by kernel_rfl) rfl #[.slice A0 l0.length c0, .string (rdOf ByteArray.empty l1_3 x49_2)] rfl ag_ ?_; (with_reducible refine (impl_articleOf.calls k2 _ _ l0 (rdOf ByteArray.empty l1_3 x49_2) t235 _ ?side1 ?side2 A30.out).mono ?_); (case side1 => exact r2_ HR0.out HB.out); (case side2 => exact HC0.out); rintro e w32 ⟨rfl, hb⟩; refine ⟨_, rfl, ?_⟩; replace BK230 := Aside0.mk (blk_below (g := gb230) (o := .cells #[.int .i64 a1_0, .int .i64 a1_1, .slice A1_2 l1_2.length c1_2, .slice (some ad234) l1_3.length c1_3] 67 (0, 0)) (r1_ BK230.out) hb); replace HB := Aside0.mk (below_step (r0_ HB.out GE230.out) hb); (try clear hb); (try clear hb2); (try clear hk); (try clear hi)))
         replace BK230 := Aside0.mk (blk_drew BK230.out)
         replace HB := Aside0.mk (below_drew1 HB.out)
         refine start_ (n := 15) (S := fun w' => True) (ds := []) #[f_,f_,f_,f_,f_,f_,f_,f_,f_,f_,f_,f_,f_,f_,f_] (by kernel_rfl) rfl rfl trivial (fun hHeld => ?_); refine with_tabW impl_IsRack.tab8 impl_IsRack.bits8 (fun HT_ HW_ => ?_)
         generalize w32.drew = w33 at BK230 HB hHeld ⊢
         refine pu_ 0 59 #[t_,f_,f_,f_,f_,f_,f_,f_,f_,f_,f_,f_,f_,f_,f_] HT_.out ?_
         refine pu_ 1 60 #[t_,t_,f_,f_,f_,f_,f_,f_,f_,f_,f_,f_,f_,f_,f_] HT_.out ?_
         refine pu_ 2 61 #[t_,t_,t_,f_,f_,f_,f_,f_,f_,f_,f_,f_,f_,f_,f_] HT_.out ?_
         refine un_ 3 62 #[t_,t_,t_,t_,f_,f_,f_,f_,f_,f_,f_,f_,f_,f_,f_] HT_.out ?_
         refine un_ 4 63 #[t_,t_,t_,t_,t_,f_,f_,f_,f_,f_,f_,f_,f_,f_,f_] HT_.out ?_
         refine un_ 5 64 #[t_,t_,t_,t_,t_,t_,f_,f_,f_,f_,f_,f_,f_,f_,f_] HT_.out ?_
         refine un_ 6 65 #[t_,t_,t_,t_,t_,t_,t_,f_,f_,f_,f_,f_,f_,f_,f_] HT_.out ?_
         refine un_ 7 66 #[t_,t_,t_,t_,t_,t_,t_,t_,f_,f_,f_,f_,f_,f_,f_] HT_.out ?_
         refine un_ 8 67 #[t_,t_,t_,t_,t_,t_,t_,t_,t_,f_,f_,f_,f_,f_,f_] HT_.out ?_
         refine un_ 9 68 #[t_,t_,t_,t_,t_,t_,t_,t_,t_,t_,f_,f_,f_,f_,f_] HT_.out ?_
         refine un_ 10 69 #[t_,t_,t_,t_,t_,t_,t_,t_,t_,t_,t_,f_,f_,f_,f_] HT_.out ?_
         refine un_ 11 70 #[t_,t_,t_,t_,t_,t_,t_,t_,t_,t_,t_,t_,f_,f_,f_] HT_.out ?_
         refine un_ 12 71 #[t_,t_,t_,t_,t_,t_,t_,t_,t_,t_,t_,t_,t_,f_,f_] HT_.out ?_
         refine un_ 13 72 #[t_,t_,t_,t_,t_,t_,t_,t_,t_,t_,t_,t_,t_,t_,f_] HT_.out ?_
         refine pu_ 14 73 #[t_,t_,t_,t_,t_,t_,t_,t_,t_,t_,t_,t_,t_,t_,t_] HT_.out ?_
         refine done_ (done_of HT_.out (by kernel_rfl)) ?_
         try go_wp2
         go_ret
         exact ⟨by first | rfl | (simp [errW_none, errW_some] <;> rfl) | (simp [*, errW_none, errW_some] <;> rfl), r0_ HB.out GE230.out⟩
        ·rw [if_neg c31] at H
         have c31b0 : decide (t235 < 0) = false := decide_eq_false c31
         clear c31
         by_cases c34 : 0 ≤ t235
         case neg =>
          rw [if_neg c34] at H
          exact absurd H (by simp)
         rw [if_pos c34] at H
         have c34b0 : decide (0 ≤ t235) = true := decide_eq_true c34
         clear c34
         by_cases c35 : t235 < (l0.length : Int)
         case neg =>
          rw [if_neg c35] at H
          exact absurd H (by simp)
         rw [if_pos c35] at H
         have c35b0 : decide (t235 < (l0.length : Int)) = true := decide_eq_true c35
         clear c35
         by_cases c36 : x49_2 < (l1_2.length : Int)
         case neg =>
          rw [if_neg c36] at H
          exact absurd H (by simp)
         rw [if_pos c36] at H
         have c36b0 : decide (x49_2 < (l1_2.length : Int)) = true := decide_eq_true c36
         clear c36
         replace H := Option.bind_eq_some_iff.mp H
         obtain ⟨t238, A370, H⟩ := H
         replace H : (if t238 = true then (impl_IsRack.l0 k2 l0 l1_3 (l1_3.length : Int) (wrap64 (x49_2 + 1)) a1_0 a1_1 l1_2 l1_3) else (some false)) = some r := H
         have A37 := Aside0.mk A370
         clear A370
         by_cases c38 : t238 = true
         ·subst c38
          replace H : (impl_IsRack.l0 k2 l0 l1_3 (l1_3.length : Int) (wrap64 (x49_2 + 1)) a1_0 a1_1 l1_2 l1_3) = some r := by rw [if_pos rfl] at H; exact H
          have H' := Aside0.mk H
          clear H
          have p234 : 0 ≤ (x49_2 : Int) := od_
          have q234 : x49_2 < (l1_3.length : Int) := od_
          obtain ⟨ad234, e234, hx234_0⟩ := Kd.at_string HR1_3.out x49_2 p234 q234
          cases e234
          replace hx234_0 := bc_ HB.out hx234_0
          replace p234 := eq_true p234
          replace q234 := eq_true q234
          try go_wp2_with (first | ((with_reducible refine gate_callee (f := 145) rfl ?_); refine goesL_ (some 58) rfl rfl Try.func145 (by kernel_rfl) rfl #[.slice A0 l0.length c0, .string (rdOf ByteArray.empty l1_3 x49_2)] rfl ag_ ?_; (with_reducible refine (impl_articleOf.calls k2 _ _ l0 (rdOf ByteArray.empty l1_3 x49_2) t235 _ ?side1 ?side2 A30.out).mono ?_); (case side1 => exact r2_ HR0.out HB.out); (case side2 => exact HC0.out); rintro e w39 ⟨rfl, hb⟩; refine ⟨_, rfl, ?_⟩; replace BK230 := Aside0.mk (blk_below (g := gb230) (o := .cells #[.int .i64 a1_0, .int .i64 a1_1, .slice A1_2 l1_2.length c1_2, .slice (some ad234) l1_3.length c1_3] 67 (0, 0)) (r1_ BK230.out) hb); replace HB := Aside0.mk (below_step (r0_ HB.out GE230.out) hb); (try clear hb); (try clear hb2); (try clear hk); (try clear hi)))
          replace BK230 := Aside0.mk (blk_drew BK230.out)
          replace HB := Aside0.mk (below_drew1 HB.out)
          have p236 : 0 ≤ (t235 : Int) := od_
          have q236 : t235 < (l0.length : Int) := od_
          obtain ⟨ad236, e236, hx236_0, hx236_1, hx236_2, hx236_3, hx236_4, hx236_5, hx236_6, hx236_7, hx236_8⟩ := at_T130 HR0.out t235 p236 q236
          have hw236_8 := hx236_8
          have hw236_7 := hx236_7
          have hw236_6 := hx236_6
          have hw236_5 := hx236_5
          have hw236_4 := hx236_4
          have hw236_3 := hx236_3
          have hw236_2 := hx236_2
          have hw236_1 := hx236_1
          have hw236_0 := hx236_0
          cases e236
          replace hx236_0 := bc_ HB.out hx236_0
          replace hx236_1 := bc_ HB.out hx236_1
          replace hx236_2 := bc_ HB.out hx236_2
          replace hx236_3 := bc_ HB.out hx236_3
          replace hx236_4 := bc_ HB.out hx236_4
          replace hx236_5 := bc_ HB.out hx236_5
          replace hx236_6 := bc_ HB.out hx236_6
          replace hx236_7 := bc_ HB.out hx236_7
          replace hx236_8 := bc_ HB.out hx236_8
          replace p236 := eq_true p236
          replace q236 := eq_true q236
          have p237 : 0 ≤ (x49_2 : Int) := od_
          have q237 : x49_2 < (l1_2.length : Int) := od_
          obtain ⟨ad237, e237, hx237_0⟩ := Kd.at_int HR1_2.out x49_2 p237 q237
          have hw237_0 := hx237_0
          cases e237
          replace hx237_0 := bc_ HB.out hx237_0
          replace p237 := eq_true p237
          replace q237 := eq_true q237
          refine start_ (n := 15) (S := fun w' => w'.cell? ⟨gb230, 0, none⟩ = some (.int .i64 a1_0) ∧ w'.cell? ⟨gb230, 1, none⟩ = some (.int .i64 a1_1) ∧ w'.cell? ⟨gb230, 2, none⟩ = some (.slice (some ad237) l1_2.length c1_2) ∧ w'.cell? ⟨gb230, 3, none⟩ = some (.slice (some ad234) l1_3.length c1_3) ∧ w'.cell? (ad236.add ((t235).toNat * 9)) = some (.string ((rd_T130 l0 t235).f0)) ∧ w'.cell? ⟨(ad236.add ((t235).toNat * 9)).block, (ad236.add ((t235).toNat * 9)).off + 1, none⟩ = some (.int .i64 ((rd_T130 l0 t235).f1)) ∧ w'.cell? ⟨(ad236.add ((t235).toNat * 9)).block, (ad236.add ((t235).toNat * 9)).off + 2, none⟩ = some (.int .i64 ((rd_T130 l0 t235).f2)) ∧ w'.cell? ⟨(ad236.add ((t235).toNat * 9)).block, (ad236.add ((t235).toNat * 9)).off + 3, none⟩ = some (.int .i64 ((rd_T130 l0 t235).f3)) ∧ w'.cell? ⟨(ad236.add ((t235).toNat * 9)).block, (ad236.add ((t235).toNat * 9)).off + 4, none⟩ = some (.int .i64 ((rd_T130 l0 t235).f4)) ∧ w'.cell? ⟨(ad236.add ((t235).toNat * 9)).block, (ad236.add ((t235).toNat * 9)).off + 5, none⟩ = some (.int .i64 ((rd_T130 l0 t235).f5)) ∧ w'.cell? ⟨(ad236.add ((t235).toNat * 9)).block, (ad236.add ((t235).toNat * 9)).off + 6, none⟩ = some (.int .i64 ((rd_T130 l0 t235).f6)) ∧ w'.cell? ⟨(ad236.add ((t235).toNat * 9)).block, (ad236.add ((t235).toNat * 9)).off + 7, none⟩ = some (.int .i64 ((rd_T130 l0 t235).f7)) ∧ w'.cell? ⟨(ad236.add ((t235).toNat * 9)).block, (ad236.add ((t235).toNat * 9)).off + 8, none⟩ = some (.int .i64 ((rd_T130 l0 t235).f8)) ∧ w'.cell? (ad237.add (x49_2).toNat) = some (.int .i64 (rd l1_2 x49_2))) (ds := []) #[f_,f_,f_,f_,f_,f_,f_,f_,f_,f_,f_,f_,f_,f_,f_] (by kernel_rfl) rfl rfl ⟨(blk_cell BK230.out 0).trans rfl, (blk_cell BK230.out 1).trans rfl, (blk_cell BK230.out 2).trans rfl, (blk_cell BK230.out 3).trans rfl, (bc_ HB.out hw236_0 :), (bc_ HB.out hw236_1 :), (bc_ HB.out hw236_2 :), (bc_ HB.out hw236_3 :), (bc_ HB.out hw236_4 :), (bc_ HB.out hw236_5 :), (bc_ HB.out hw236_6 :), (bc_ HB.out hw236_7 :), (bc_ HB.out hw236_8 :), (bc_ HB.out hw237_0 :)⟩ (fun hHeld => ?_); refine with_tabW impl_IsRack.tab8 impl_IsRack.bits8 (fun HT_ HW_ => ?_)
          generalize w39.drew = w40 at BK230 HB hx236_0 hx236_1 hx236_2 hx236_3 hx236_4 hx236_5 hx236_6 hx236_7 hx236_8 hx237_0 hHeld ⊢
          refine pu_ 0 59 #[t_,f_,f_,f_,f_,f_,f_,f_,f_,f_,f_,f_,f_,f_,f_] HT_.out ?_
          refine pu_ 1 60 #[t_,t_,f_,f_,f_,f_,f_,f_,f_,f_,f_,f_,f_,f_,f_] HT_.out ?_
          refine pu_ 2 61 #[t_,t_,t_,f_,f_,f_,f_,f_,f_,f_,f_,f_,f_,f_,f_] HT_.out ?_
          refine pu_ 3 62 #[t_,t_,t_,t_,f_,f_,f_,f_,f_,f_,f_,f_,f_,f_,f_] HT_.out ?_
          refine pu_ 4 63 #[t_,t_,t_,t_,t_,f_,f_,f_,f_,f_,f_,f_,f_,f_,f_] HT_.out ?_
          refine pu_ 5 64 #[t_,t_,t_,t_,t_,t_,f_,f_,f_,f_,f_,f_,f_,f_,f_] HT_.out ?_
          refine pu_ 7 66 #[t_,t_,t_,t_,t_,t_,f_,t_,f_,f_,f_,f_,f_,f_,f_] HT_.out ?_
          refine pu_ 9 68 #[t_,t_,t_,t_,t_,t_,f_,t_,f_,t_,f_,f_,f_,f_,f_] HT_.out ?_
          refine take_ (i := 6) (N := some 65) (v := ?_) (a' := ?_) #[t_,t_,t_,t_,t_,t_,t_,t_,f_,t_,f_,f_,f_,f_,f_] rfl rfl (take_ofW HT_.out HW_.out (by kernel_rfl)) (fun _ _ _ h => h) (Or.inl ⟨by rfl, ?_⟩) hHeld ?_ ?_
          rotate_left
          ·rintro w' ⟨s0, s1, s2, s3, s4, s5, s6, s7, s8, s9, s10, s11, s12, s13⟩
           go_simp
           with_reducible rfl
          rotate_left
          ·simp only [pz_]
           rfl
          refine take_ (i := 8) (N := some 67) (v := ?_) (a' := ?_) #[t_,t_,t_,t_,t_,t_,t_,t_,t_,t_,f_,f_,f_,f_,f_] rfl rfl (take_ofW HT_.out HW_.out (by kernel_rfl)) (fun _ _ _ h => h) (Or.inl ⟨by rfl, ?_⟩) hHeld ?_ ?_
          rotate_left
          ·rintro w' ⟨s0, s1, s2, s3, s4, s5, s6, s7, s8, s9, s10, s11, s12, s13⟩
           go_simp
           with_reducible rfl
          rotate_left
          ·simp only [pz_]
           rfl
          refine pu_ 10 69 #[t_,t_,t_,t_,t_,t_,t_,t_,t_,t_,t_,f_,f_,f_,f_] HT_.out ?_
          refine take_ (i := 11) (N := some 70) (v := ?_) (a' := ?_) #[t_,t_,t_,t_,t_,t_,t_,t_,t_,t_,t_,t_,f_,f_,f_] rfl rfl (take_ofW HT_.out HW_.out (by kernel_rfl)) (fun _ _ _ h => h) (Or.inl ⟨by rfl, ?_⟩) hHeld ?_ ?_
          rotate_left
          ·rintro w' ⟨s0, s1, s2, s3, s4, s5, s6, s7, s8, s9, s10, s11, s12, s13⟩
           go_simp
           with_reducible rfl
          rotate_left
          ·simp only [pz_]
           rfl
          refine one_ (i := 12) (N := some 71) #[t_,t_,t_,t_,t_,t_,t_,t_,t_,t_,t_,t_,t_,f_,f_] rfl rfl (one_of HT_.out (by kernel_rfl)) (by decide) (fun K hK => ?_)
          refine goes_ Try.func146 (by kernel_rfl) rfl #[.agg #[.string ((rd_T130 l0 t235).f0), .int .i64 ((rd_T130 l0 t235).f1), .int .i64 ((rd_T130 l0 t235).f2), .int .i64 ((rd_T130 l0 t235).f3), .int .i64 ((rd_T130 l0 t235).f4), .int .i64 ((rd_T130 l0 t235).f5), .int .i64 ((rd_T130 l0 t235).f6), .int .i64 ((rd_T130 l0 t235).f7), .int .i64 ((rd_T130 l0 t235).f8)], .int .i64 (rd l1_2 x49_2)] (by rfl) rfl rfl ag_ ?_
          with_reducible refine (impl_fits.calls ((rd_T130 l0 t235).f0) ((rd_T130 l0 t235).f1) ((rd_T130 l0 t235).f2) ((rd_T130 l0 t235).f3) ((rd_T130 l0 t235).f4) ((rd_T130 l0 t235).f5) ((rd_T130 l0 t235).f6) ((rd_T130 l0 t235).f7) ((rd_T130 l0 t235).f8) (rd l1_2 x49_2) true _ A37.out).mono ?_
          rintro e w41 ⟨rfl, hb⟩
          refine ⟨_, rfl, ?_⟩
          replace BK230 := Aside0.mk (blk_below (g := gb230) (o := .cells #[.int .i64 a1_0, .int .i64 a1_1, .slice (some ad237) l1_2.length c1_2, .slice (some ad234) l1_3.length c1_3] 67 (0, 0)) (r1_ BK230.out) hb)
          replace HB := Aside0.mk (below_step (r0_ HB.out GE230.out) hb)
          (try clear hb)
          (try clear hb2)
          (try clear hk)
          (try clear hi)
          refine hK.out _ _ ⟨(blk_cell BK230.out 0).trans rfl, (blk_cell BK230.out 1).trans rfl, (blk_cell BK230.out 2).trans rfl, (blk_cell BK230.out 3).trans rfl, (bc_ HB.out hw236_0 :), (bc_ HB.out hw236_1 :), (bc_ HB.out hw236_2 :), (bc_ HB.out hw236_3 :), (bc_ HB.out hw236_4 :), (bc_ HB.out hw236_5 :), (bc_ HB.out hw236_6 :), (bc_ HB.out hw236_7 :), (bc_ HB.out hw236_8 :), (bc_ HB.out hw237_0 :)⟩ (fun hHeld => ?_)
          clear hK K
          refine norm_ (a' := ?_) ?_ ?_
          rotate_left
          ·show Act.put _ (some 71) _ = _
           simp only [pz_]
           rfl
          refine pu_ 13 72 #[t_,t_,t_,t_,t_,t_,t_,t_,t_,t_,t_,t_,t_,t_,f_] HT_.out ?_
          refine pu_ 14 73 #[t_,t_,t_,t_,t_,t_,t_,t_,t_,t_,t_,t_,t_,t_,t_] HT_.out ?_
          refine done_ (done_of HT_.out (by kernel_rfl)) ?_
          try go_wp2
          go_roundg k2
          case measure => have := HJ2.out; have := HK2.out; omega
          case rel => exact ⟨(wrap64 (x49_2 + 1)), (by first | rfl | (simp; done) | (simp [*]; done)), H', ⟨by have := HJ2.out; have := HK2.out; omega⟩, ⟨r1_ BK230.out⟩, ⟨r0_ HB.out GE230.out⟩⟩
         ·replace c38 := Bool.eq_false_iff.mpr c38
          subst c38
          replace H : (some false) = some r := by rw [if_neg (show ¬ (false = true) by decide)] at H; exact H
          obtain rfl := Option.some.inj H
          have p234 : 0 ≤ (x49_2 : Int) := od_
          have q234 : x49_2 < (l1_3.length : Int) := od_
          obtain ⟨ad234, e234, hx234_0⟩ := Kd.at_string HR1_3.out x49_2 p234 q234
          cases e234
          replace hx234_0 := bc_ HB.out hx234_0
          replace p234 := eq_true p234
          replace q234 := eq_true q234
          try go_wp2_with (first | ((with_reducible refine gate_callee (f := 145) rfl ?_); refine goesL_ (some 58) rfl rfl Try.func145 (by kernel_rfl) rfl #[.slice A0 l0.length c0, .string (rdOf ByteArray.empty l1_3 x49_2)] rfl ag_ ?_; (with_reducible refine (impl_articleOf.calls k2 _ _ l0 (rdOf ByteArray.empty l1_3 x49_2) t235 _ ?side1 ?side2 A30.out).mono ?_); (case side1 => exact r2_ HR0.out HB.out); (case side2 => exact HC0.out); rintro e w42 ⟨rfl, hb⟩; refine ⟨_, rfl, ?_⟩; replace BK230 := Aside0.mk (blk_below (g := gb230) (o := .cells #[.int .i64 a1_0, .int .i64 a1_1, .slice A1_2 l1_2.length c1_2, .slice (some ad234) l1_3.length c1_3] 67 (0, 0)) (r1_ BK230.out) hb); replace HB := Aside0.mk (below_step (r0_ HB.out GE230.out) hb); (try clear hb); (try clear hb2); (try clear hk); (try clear hi)))
          replace BK230 := Aside0.mk (blk_drew BK230.out)
          replace HB := Aside0.mk (below_drew1 HB.out)
          have p236 : 0 ≤ (t235 : Int) := od_
          have q236 : t235 < (l0.length : Int) := od_
          obtain ⟨ad236, e236, hx236_0, hx236_1, hx236_2, hx236_3, hx236_4, hx236_5, hx236_6, hx236_7, hx236_8⟩ := at_T130 HR0.out t235 p236 q236
          have hw236_8 := hx236_8
          have hw236_7 := hx236_7
          have hw236_6 := hx236_6
          have hw236_5 := hx236_5
          have hw236_4 := hx236_4
          have hw236_3 := hx236_3
          have hw236_2 := hx236_2
          have hw236_1 := hx236_1
          have hw236_0 := hx236_0
          cases e236
          replace hx236_0 := bc_ HB.out hx236_0
          replace hx236_1 := bc_ HB.out hx236_1
          replace hx236_2 := bc_ HB.out hx236_2
          replace hx236_3 := bc_ HB.out hx236_3
          replace hx236_4 := bc_ HB.out hx236_4
          replace hx236_5 := bc_ HB.out hx236_5
          replace hx236_6 := bc_ HB.out hx236_6
          replace hx236_7 := bc_ HB.out hx236_7
          replace hx236_8 := bc_ HB.out hx236_8
          replace p236 := eq_true p236
          replace q236 := eq_true q236
          have p237 : 0 ≤ (x49_2 : Int) := od_
          have q237 : x49_2 < (l1_2.length : Int) := od_
          obtain ⟨ad237, e237, hx237_0⟩ := Kd.at_int HR1_2.out x49_2 p237 q237
          have hw237_0 := hx237_0
          cases e237
          replace hx237_0 := bc_ HB.out hx237_0
          replace p237 := eq_true p237
          replace q237 := eq_true q237
          refine start_ (n := 15) (S := fun w' => w'.cell? ⟨gb230, 0, none⟩ = some (.int .i64 a1_0) ∧ w'.cell? ⟨gb230, 1, none⟩ = some (.int .i64 a1_1) ∧ w'.cell? ⟨gb230, 2, none⟩ = some (.slice (some ad237) l1_2.length c1_2) ∧ w'.cell? ⟨gb230, 3, none⟩ = some (.slice (some ad234) l1_3.length c1_3) ∧ w'.cell? (ad236.add ((t235).toNat * 9)) = some (.string ((rd_T130 l0 t235).f0)) ∧ w'.cell? ⟨(ad236.add ((t235).toNat * 9)).block, (ad236.add ((t235).toNat * 9)).off + 1, none⟩ = some (.int .i64 ((rd_T130 l0 t235).f1)) ∧ w'.cell? ⟨(ad236.add ((t235).toNat * 9)).block, (ad236.add ((t235).toNat * 9)).off + 2, none⟩ = some (.int .i64 ((rd_T130 l0 t235).f2)) ∧ w'.cell? ⟨(ad236.add ((t235).toNat * 9)).block, (ad236.add ((t235).toNat * 9)).off + 3, none⟩ = some (.int .i64 ((rd_T130 l0 t235).f3)) ∧ w'.cell? ⟨(ad236.add ((t235).toNat * 9)).block, (ad236.add ((t235).toNat * 9)).off + 4, none⟩ = some (.int .i64 ((rd_T130 l0 t235).f4)) ∧ w'.cell? ⟨(ad236.add ((t235).toNat * 9)).block, (ad236.add ((t235).toNat * 9)).off + 5, none⟩ = some (.int .i64 ((rd_T130 l0 t235).f5)) ∧ w'.cell? ⟨(ad236.add ((t235).toNat * 9)).block, (ad236.add ((t235).toNat * 9)).off + 6, none⟩ = some (.int .i64 ((rd_T130 l0 t235).f6)) ∧ w'.cell? ⟨(ad236.add ((t235).toNat * 9)).block, (ad236.add ((t235).toNat * 9)).off + 7, none⟩ = some (.int .i64 ((rd_T130 l0 t235).f7)) ∧ w'.cell? ⟨(ad236.add ((t235).toNat * 9)).block, (ad236.add ((t235).toNat * 9)).off + 8, none⟩ = some (.int .i64 ((rd_T130 l0 t235).f8)) ∧ w'.cell? (ad237.add (x49_2).toNat) = some (.int .i64 (rd l1_2 x49_2))) (ds := []) #[f_,f_,f_,f_,f_,f_,f_,f_,f_,f_,f_,f_,f_,f_,f_] (by kernel_rfl) rfl rfl ⟨(blk_cell BK230.out 0).trans rfl, (blk_cell BK230.out 1).trans rfl, (blk_cell BK230.out 2).trans rfl, (blk_cell BK230.out 3).trans rfl, (bc_ HB.out hw236_0 :), (bc_ HB.out hw236_1 :), (bc_ HB.out hw236_2 :), (bc_ HB.out hw236_3 :), (bc_ HB.out hw236_4 :), (bc_ HB.out hw236_5 :), (bc_ HB.out hw236_6 :), (bc_ HB.out hw236_7 :), (bc_ HB.out hw236_8 :), (bc_ HB.out hw237_0 :)⟩ (fun hHeld => ?_); refine with_tabW impl_IsRack.tab8 impl_IsRack.bits8 (fun HT_ HW_ => ?_)
          generalize w42.drew = w43 at BK230 HB hx236_0 hx236_1 hx236_2 hx236_3 hx236_4 hx236_5 hx236_6 hx236_7 hx236_8 hx237_0 hHeld ⊢
          refine pu_ 0 59 #[t_,f_,f_,f_,f_,f_,f_,f_,f_,f_,f_,f_,f_,f_,f_] HT_.out ?_
          refine pu_ 1 60 #[t_,t_,f_,f_,f_,f_,f_,f_,f_,f_,f_,f_,f_,f_,f_] HT_.out ?_
          refine pu_ 2 61 #[t_,t_,t_,f_,f_,f_,f_,f_,f_,f_,f_,f_,f_,f_,f_] HT_.out ?_
          refine pu_ 3 62 #[t_,t_,t_,t_,f_,f_,f_,f_,f_,f_,f_,f_,f_,f_,f_] HT_.out ?_
          refine pu_ 4 63 #[t_,t_,t_,t_,t_,f_,f_,f_,f_,f_,f_,f_,f_,f_,f_] HT_.out ?_
          refine pu_ 5 64 #[t_,t_,t_,t_,t_,t_,f_,f_,f_,f_,f_,f_,f_,f_,f_] HT_.out ?_
          refine pu_ 7 66 #[t_,t_,t_,t_,t_,t_,f_,t_,f_,f_,f_,f_,f_,f_,f_] HT_.out ?_
          refine pu_ 9 68 #[t_,t_,t_,t_,t_,t_,f_,t_,f_,t_,f_,f_,f_,f_,f_] HT_.out ?_
          refine take_ (i := 6) (N := some 65) (v := ?_) (a' := ?_) #[t_,t_,t_,t_,t_,t_,t_,t_,f_,t_,f_,f_,f_,f_,f_] rfl rfl (take_ofW HT_.out HW_.out (by kernel_rfl)) (fun _ _ _ h => h) (Or.inl ⟨by rfl, ?_⟩) hHeld ?_ ?_
          rotate_left
          ·rintro w' ⟨s0, s1, s2, s3, s4, s5, s6, s7, s8, s9, s10, s11, s12, s13⟩
           go_simp
           with_reducible rfl
          rotate_left
          ·simp only [pz_]
           rfl
          refine take_ (i := 8) (N := some 67) (v := ?_) (a' := ?_) #[t_,t_,t_,t_,t_,t_,t_,t_,t_,t_,f_,f_,f_,f_,f_] rfl rfl (take_ofW HT_.out HW_.out (by kernel_rfl)) (fun _ _ _ h => h) (Or.inl ⟨by rfl, ?_⟩) hHeld ?_ ?_
          rotate_left
          ·rintro w' ⟨s0, s1, s2, s3, s4, s5, s6, s7, s8, s9, s10, s11, s12, s13⟩
           go_simp
           with_reducible rfl
          rotate_left
          ·simp only [pz_]
           rfl
          refine pu_ 10 69 #[t_,t_,t_,t_,t_,t_,t_,t_,t_,t_,t_,f_,f_,f_,f_] HT_.out ?_
          refine take_ (i := 11) (N := some 70) (v := ?_) (a' := ?_) #[t_,t_,t_,t_,t_,t_,t_,t_,t_,t_,t_,t_,f_,f_,f_] rfl rfl (take_ofW HT_.out HW_.out (by kernel_rfl)) (fun _ _ _ h => h) (Or.inl ⟨by rfl, ?_⟩) hHeld ?_ ?_
          rotate_left
          ·rintro w' ⟨s0, s1, s2, s3, s4, s5, s6, s7, s8, s9, s10, s11, s12, s13⟩
           go_simp
           with_reducible rfl
          rotate_left
          ·simp only [pz_]
           rfl
          refine one_ (i := 12) (N := some 71) #[t_,t_,t_,t_,t_,t_,t_,t_,t_,t_,t_,t_,t_,f_,f_] rfl rfl (one_of HT_.out (by kernel_rfl)) (by decide) (fun K hK => ?_)
          refine goes_ Try.func146 (by kernel_rfl) rfl #[.agg #[.string ((rd_T130 l0 t235).f0), .int .i64 ((rd_T130 l0 t235).f1), .int .i64 ((rd_T130 l0 t235).f2), .int .i64 ((rd_T130 l0 t235).f3), .int .i64 ((rd_T130 l0 t235).f4), .int .i64 ((rd_T130 l0 t235).f5), .int .i64 ((rd_T130 l0 t235).f6), .int .i64 ((rd_T130 l0 t235).f7), .int .i64 ((rd_T130 l0 t235).f8)], .int .i64 (rd l1_2 x49_2)] (by rfl) rfl rfl ag_ ?_
          with_reducible refine (impl_fits.calls ((rd_T130 l0 t235).f0) ((rd_T130 l0 t235).f1) ((rd_T130 l0 t235).f2) ((rd_T130 l0 t235).f3) ((rd_T130 l0 t235).f4) ((rd_T130 l0 t235).f5) ((rd_T130 l0 t235).f6) ((rd_T130 l0 t235).f7) ((rd_T130 l0 t235).f8) (rd l1_2 x49_2) false _ A37.out).mono ?_
          rintro e w44 ⟨rfl, hb⟩
          refine ⟨_, rfl, ?_⟩
          replace BK230 := Aside0.mk (blk_below (g := gb230) (o := .cells #[.int .i64 a1_0, .int .i64 a1_1, .slice (some ad237) l1_2.length c1_2, .slice (some ad234) l1_3.length c1_3] 67 (0, 0)) (r1_ BK230.out) hb)
          replace HB := Aside0.mk (below_step (r0_ HB.out GE230.out) hb)
          (try clear hb)
          (try clear hb2)
          (try clear hk)
          (try clear hi)
          refine hK.out _ _ ⟨(blk_cell BK230.out 0).trans rfl, (blk_cell BK230.out 1).trans rfl, (blk_cell BK230.out 2).trans rfl, (blk_cell BK230.out 3).trans rfl, (bc_ HB.out hw236_0 :), (bc_ HB.out hw236_1 :), (bc_ HB.out hw236_2 :), (bc_ HB.out hw236_3 :), (bc_ HB.out hw236_4 :), (bc_ HB.out hw236_5 :), (bc_ HB.out hw236_6 :), (bc_ HB.out hw236_7 :), (bc_ HB.out hw236_8 :), (bc_ HB.out hw237_0 :)⟩ (fun hHeld => ?_)
          clear hK K
          refine norm_ (a' := ?_) ?_ ?_
          rotate_left
          ·show Act.put _ (some 71) _ = _
           simp only [pz_]
           rfl
          refine pu_ 13 72 #[t_,t_,t_,t_,t_,t_,t_,t_,t_,t_,t_,t_,t_,t_,f_] HT_.out ?_
          refine pu_ 14 73 #[t_,t_,t_,t_,t_,t_,t_,t_,t_,t_,t_,t_,t_,t_,t_] HT_.out ?_
          refine done_ (done_of HT_.out (by kernel_rfl)) ?_
          try go_wp2
          go_ret
          exact ⟨by first | rfl | (simp [errW_none, errW_some] <;> rfl) | (simp [*, errW_none, errW_some] <;> rfl), r0_ HB.out GE230.out⟩
      ·rw [if_neg c26] at H
       have c26b0 : decide (x49_2 < (l1_3.length : Int)) = false := decide_eq_false c26
       clear c26
       obtain rfl := Option.some.inj H
       go_wp2
       go_ret
       exact ⟨by first | rfl | (simp [errW_none, errW_some] <;> rfl) | (simp [*, errW_none, errW_some] <;> rfl), r0_ HB.out GE230.out⟩
def impl_loaded.l0 : Nat → List (S130) → List (S130) → List ByteArray → Int → Int → Option ((List (S130)))
 | 0, _, _, _, _, _ => none
 | k + 1, x0, x5, x9, x10, x11 => if x11 < x10 then (if 0 ≤ x11 then (if x11 < (x9.length : Int) then (if (rdOf ByteArray.empty x9 x11).toList = ([] : List UInt8) then (impl_loaded.l0 k x0 x5 x9 x10 (wrap64 (x11 + 1))) else ((impl_articleOf.f k x0 (rdOf ByteArray.empty x9 x11)).bind fun t241 => (if 0 ≤ t241 then (if t241 < (x0.length : Int) then (if x5.length < 1759218604441 then (impl_loaded.l0 k x0 (x5 ++ [(⟨(rd_T130 x0 t241).f0, (rd_T130 x0 t241).f1, (rd_T130 x0 t241).f2, (rd_T130 x0 t241).f3, (rd_T130 x0 t241).f4, (rd_T130 x0 t241).f5, (rd_T130 x0 t241).f6, (rd_T130 x0 t241).f7, (rd_T130 x0 t241).f8⟩ : S130)]) x9 x10 (wrap64 (x11 + 1))) else (none)) else (none)) else (none)))) else (none)) else (none)) else (some x5)
def impl_loaded.f (k : Nat) (l0 : List (S130)) (a1_0 : Int) (a1_1 : Int) (l1_2 : List Int) (l1_3 : List ByteArray) : Option ((List (S130))) := impl_loaded.l0 k l0 ([] : List (S130)) l1_3 (l1_3.length : Int) 0
set_option maxHeartbeats 8000000 in
set_option maxRecDepth 100000 in
theorem impl_loaded.calls (k : Nat) (A0 : Option Addr) (c0 : Nat) (l0 : List (S130)) (a1_0 : Int) (a1_1 : Int) (A1_2 : Option Addr) (c1_2 : Nat) (l1_2 : List Int) (A1_3 : Option Addr) (c1_3 : Nat) (l1_3 : List ByteArray) (r : List (S130)) (w : World) (hr0 : Kd.C k130 w A0 l0.length l0) (hc0 : l0.length ≤ c0) (hr1_2 : Kd.C (Kd.int .i64) w A1_2 l1_2.length l1_2) (hc1_2 : l1_2.length ≤ c1_2) (hr1_3 : Kd.C Kd.string w A1_3 l1_3.length l1_3) (hc1_3 : l1_3.length ≤ c1_3) (h : impl_loaded.f k l0 a1_0 a1_1 l1_2 l1_3 = some r) :
  Calls Try.prog 109 #[.slice A0 l0.length c0, .agg #[.int .i64 a1_0, .int .i64 a1_1, .slice A1_2 l1_2.length c1_2, .slice A1_3 l1_3.length c1_3]] w fun e w' => ∃ v0_ : Value, e = .returned (v0_) ∧ Kd.R k130 130 w' w.heap.size (fun _ => True) v0_ r ∧ Below w.heap.size w w' := by
 have hu67 := Try.underlying67
 have hu130 := Try.underlying130
 have HR0 := Aside0.mk hr0
 have HC0 := Aside0.mk hc0
 clear hr0 hc0
 have HR1_2 := Aside0.mk hr1_2
 have HC1_2 := Aside0.mk hc1_2
 clear hr1_2 hc1_2
 have HR1_3 := Aside0.mk hr1_3
 have HC1_3 := Aside0.mk hc1_3
 clear hr1_3 hc1_3
 have HB := Aside0.mk (Below.refl w.heap.size w)
 have H : (impl_loaded.l0 k l0 ([] : List (S130)) l1_3 (l1_3.length : Int) 0) = some r := h
 clear h
 have H' := Aside0.mk H
 clear H
 go_enter Try.func109, Try.ntmps109
 go_wp2_with (first | ((with_reducible refine gate_dst (N := 3) rfl ?_); refine box_event ?hg (N := 3) ?hd (cs := #[.int .i64 a1_0, .int .i64 a1_1, .slice A1_2 l1_2.length c1_2, .slice A1_3 l1_3.length c1_3]) (t := 67) ?hr ?_; (case hd => rfl); (case hg => rfl); (case hr => first | (go_simp; done) | (go_simp; rfl)); intro gb239 hg w3 hbox hb; have BK239 := Aside0.mk (hbox); have GW239 := Aside0.mk ((by rw [hg]; exact (below_size (bl_ HB.out)) : w.heap.size ≤ gb239)); have GE239 := Aside0.mk ((by rw [hg]; exact (below_size (bl_ HB.out)) : w.heap.size ≤ gb239)); replace HB := Aside0.mk (below_step (bl_ HB.out) hb); clear hb hbox hg; have hcz4_0 : w3.cell? ⟨gb239, 0, none⟩ = some (.int .i64 a1_0) := (blk_cell BK239.out 0).trans rfl; have hcz4_1 : w3.cell? ⟨gb239, 1, none⟩ = some (.int .i64 a1_1) := (blk_cell BK239.out 1).trans rfl; have hcz4_2 : w3.cell? ⟨gb239, 2, none⟩ = some (.slice A1_2 l1_2.length c1_2) := (blk_cell BK239.out 2).trans rfl; have hcz4_3 : w3.cell? ⟨gb239, 3, none⟩ = some (.slice A1_3 l1_3.length c1_3) := (blk_cell BK239.out 3).trans rfl; have hfz4_0 := blk_frozen BK239.out 0; have hfz4_1 := blk_frozen BK239.out 1; have hfz4_2 := blk_frozen BK239.out 2; have hfz4_3 := blk_frozen BK239.out 3))
 go_loopg [5, 11] k (fun kq v5 v11 w' => ∃ (x5_1 : List (S130)) (x11_1 : Int), v11 = .int .i64 x11_1 ∧ Aside0 (impl_loaded.l0 kq l0 x5_1 l1_3 (l1_3.length : Int) x11_1 = some r) ∧ Aside0 (kq ≤ k) ∧ Aside0 (Kd.R k130 130 w' w.heap.size (fun _ => True) v5 x5_1) ∧ Aside0 (w'.heap[gb239]? = some (.cells #[.int .i64 a1_0, .int .i64 a1_1, (.slice A1_2 l1_2.length c1_2), (.slice A1_3 l1_3.length c1_3)] 67 (0, 0))) ∧ Aside0 (Below w.heap.size w w'))
 case atStart => exact ⟨(([] : List (S130))), (0), (by first | rfl | (simp; done) | (simp [*]; done)), H', ⟨Nat.le_refl _⟩, ⟨by first | exact Kd.R_nil _ _ _ _ _ | exact Kd.N_nil _ _ _ _ _ | exact Kd.V_nil _ _ _ _ _ | exact Kd.Q_nil _ _ _ _ _ | exact Kd.S_nil _ _ _ _ _⟩, ⟨r1_ BK239.out⟩, ⟨r0_ HB.out GE239.out⟩⟩
 case round =>
  clear H'
  try clear c1
  try clear p2
  try clear hcz4_0
  try clear hcz4_1
  try clear hcz4_2
  try clear hcz4_3
  try clear hfz4_0
  try clear hfz4_1
  try clear hfz4_2
  try clear hfz4_3
  obtain ⟨x5_1, x11_1, rfl, HA, HK1, HO_5, BK239, HB⟩ := hrel
  cases gk with
  | zero => exact absurd HA.out (by simp [impl_loaded.l0])
  | succ k1 =>
   have H := HA.out
   clear HA
   simp only [impl_loaded.l0] at H
   by_cases c5 : x11_1 < (l1_3.length : Int)
   ·rw [if_pos c5] at H
    have c5b0 : decide (x11_1 < (l1_3.length : Int)) = true := decide_eq_true c5
    clear c5
    by_cases c6 : 0 ≤ x11_1
    case neg =>
     rw [if_neg c6] at H
     exact absurd H (by simp)
    rw [if_pos c6] at H
    have c6b0 : decide (0 ≤ x11_1) = true := decide_eq_true c6
    clear c6
    by_cases c7 : x11_1 < (l1_3.length : Int)
    case neg =>
     rw [if_neg c7] at H
     exact absurd H (by simp)
    rw [if_pos c7] at H
    have c7b0 : decide (x11_1 < (l1_3.length : Int)) = true := decide_eq_true c7
    clear c7
    by_cases c8 : (rdOf ByteArray.empty l1_3 x11_1).toList = ([] : List UInt8)
    ·rw [if_pos c8] at H
     have c8b0 : ((rdOf ByteArray.empty l1_3 x11_1).toList == ([] : List UInt8)) = true := beq_iff_eq.mpr c8
     have c8b1 : ((rdOf ByteArray.empty l1_3 x11_1).toList != ([] : List UInt8)) = false := bne_eq_false_iff_eq.mpr c8
     clear c8
     have H' := Aside0.mk H
     clear H
     have p240 : 0 ≤ (x11_1 : Int) := od_
     have q240 : x11_1 < (l1_3.length : Int) := od_
     obtain ⟨ad240, e240, hx240_0⟩ := Kd.at_string HR1_3.out x11_1 p240 q240
     cases e240
     replace hx240_0 := bc_ HB.out hx240_0
     replace p240 := eq_true p240
     replace q240 := eq_true q240
     go_wp2
     go_roundg k1
     case measure => have := HK1.out; omega
     case rel => exact ⟨(x5_1), (wrap64 (x11_1 + 1)), (by first | rfl | (simp; done) | (simp [*]; done)), H', ⟨by have := HK1.out; omega⟩, ⟨rk_ HO_5.out⟩, ⟨r1_ BK239.out⟩, ⟨r0_ HB.out GE239.out⟩⟩
    ·rw [if_neg c8] at H
     have c8b0 : ((rdOf ByteArray.empty l1_3 x11_1).toList == ([] : List UInt8)) = false := beq_eq_false_iff_ne.mpr c8
     have c8b1 : ((rdOf ByteArray.empty l1_3 x11_1).toList != ([] : List UInt8)) = true := bne_iff_ne.mpr c8
     replace H := Option.bind_eq_some_iff.mp H
     obtain ⟨t241, A90, H⟩ := H
     replace H : (if 0 ≤ t241 then (if t241 < (l0.length : Int) then (if x5_1.length < 1759218604441 then (impl_loaded.l0 k1 l0 (x5_1 ++ [(⟨(rd_T130 l0 t241).f0, (rd_T130 l0 t241).f1, (rd_T130 l0 t241).f2, (rd_T130 l0 t241).f3, (rd_T130 l0 t241).f4, (rd_T130 l0 t241).f5, (rd_T130 l0 t241).f6, (rd_T130 l0 t241).f7, (rd_T130 l0 t241).f8⟩ : S130)]) l1_3 (l1_3.length : Int) (wrap64 (x11_1 + 1))) else (none)) else (none)) else (none)) = some r := H
     have A9 := Aside0.mk A90
     clear A90
     by_cases c10 : 0 ≤ t241
     case neg =>
      rw [if_neg c10] at H
      exact absurd H (by simp)
     rw [if_pos c10] at H
     have c10b0 : decide (0 ≤ t241) = true := decide_eq_true c10
     clear c10
     by_cases c11 : t241 < (l0.length : Int)
     case neg =>
      rw [if_neg c11] at H
      exact absurd H (by simp)
     rw [if_pos c11] at H
     have c11b0 : decide (t241 < (l0.length : Int)) = true := decide_eq_true c11
     clear c11
     by_cases c12 : x5_1.length < 1759218604441
     case neg =>
      rw [if_neg c12] at H
      exact absurd H (by simp)
     rw [if_pos c12] at H
     have LMc12 := Aside0.mk c12
     clear c12
     obtain ⟨y243, hy243⟩ : ∃ y_ : List (S130), y_ = (x5_1 ++ [(⟨(rd_T130 l0 t241).f0, (rd_T130 l0 t241).f1, (rd_T130 l0 t241).f2, (rd_T130 l0 t241).f3, (rd_T130 l0 t241).f4, (rd_T130 l0 t241).f5, (rd_T130 l0 t241).f6, (rd_T130 l0 t241).f7, (rd_T130 l0 t241).f8⟩ : S130)]) := ⟨_, rfl⟩
     replace H : (impl_loaded.l0 k1 l0 y243 l1_3 (l1_3.length : Int) (wrap64 (x11_1 + 1))) = some r := by first | (rw [hy243]; with_reducible exact H) | (have H2_ := (Option.bind_some _ _).symm.trans H; rw [hy243]; with_reducible exact H2_) | (have H2_ := (Option.bind_some _ _).symm.trans H; with_reducible exact H2_) | with_reducible exact H | (rw [hy243]; exact H) | exact H
     have Ny243 := Aside0.mk hy243
     clear hy243
     have H' := Aside0.mk H
     clear H
     have p240 : 0 ≤ (x11_1 : Int) := od_
     have q240 : x11_1 < (l1_3.length : Int) := od_
     obtain ⟨ad240, e240, hx240_0⟩ := Kd.at_string HR1_3.out x11_1 p240 q240
     cases e240
     replace hx240_0 := bc_ HB.out hx240_0
     replace p240 := eq_true p240
     replace q240 := eq_true q240
     go_wp2_with (first | ((with_reducible refine gate_callee (f := 145) rfl ?_); refine goesL_ (some 21) rfl rfl Try.func145 (by kernel_rfl) rfl #[.slice A0 l0.length c0, .string (rdOf ByteArray.empty l1_3 x11_1)] rfl ag_ ?_; (with_reducible refine (impl_articleOf.calls k1 _ _ l0 (rdOf ByteArray.empty l1_3 x11_1) t241 _ ?side1 ?side2 A9.out).mono ?_); (case side1 => exact r2_ HR0.out HB.out); (case side2 => exact HC0.out); rintro e w13 ⟨rfl, hb⟩; refine ⟨_, rfl, ?_⟩; replace HO_5 := Aside0.mk (Kd.R_below (rk_ HO_5.out) hb); replace BK239 := Aside0.mk (blk_below (g := gb239) (o := .cells #[.int .i64 a1_0, .int .i64 a1_1, .slice A1_2 l1_2.length c1_2, .slice (some ad240) l1_3.length c1_3] 67 (0, 0)) (r1_ BK239.out) hb); replace HB := Aside0.mk (below_step (r0_ HB.out GE239.out) hb); (try clear hb); (try clear hb2); (try clear hk); (try clear hi); have p242 : 0 ≤ (t241 : Int) := od_; have q242 : t241 < (l0.length : Int) := od_; obtain ⟨ad242, e242, hx242_0, hx242_1, hx242_2, hx242_3, hx242_4, hx242_5, hx242_6, hx242_7, hx242_8⟩ := at_T130 HR0.out t241 p242 q242; cases e242; replace hx242_0 := bc_ HB.out hx242_0; replace hx242_1 := bc_ HB.out hx242_1; replace hx242_2 := bc_ HB.out hx242_2; replace hx242_3 := bc_ HB.out hx242_3; replace hx242_4 := bc_ HB.out hx242_4; replace hx242_5 := bc_ HB.out hx242_5; replace hx242_6 := bc_ HB.out hx242_6; replace hx242_7 := bc_ HB.out hx242_7; replace hx242_8 := bc_ HB.out hx242_8; replace p242 := eq_true p242; replace q242 := eq_true q242) | ((with_reducible refine gate_builtin (b := .append) (xs := #[.tmp 17, .tmp 24]) rfl ?_); at_builtin; refine Kd.R_append k130 (w0 := w) w.heap.size rfl (.tmp 17) (.tmp 24) 65 130 (.agg #[(.string ⟨#[]⟩), (.int .i64 0), (.int .i64 0), (.int .i64 0), (.int .i64 0), (.int .i64 0), (.int .i64 0), (.int .i64 0), (.int .i64 0)]) 80 rfl Try.underlying65 info130 rfl (by decide) (by omega) u5 x5_1 (⟨(rd_T130 l0 t241).f0, (rd_T130 l0 t241).f1, (rd_T130 l0 t241).f2, (rd_T130 l0 t241).f3, (rd_T130 l0 t241).f4, (rd_T130 l0 t241).f5, (rd_T130 l0 t241).f6, (rd_T130 l0 t241).f7, (rd_T130 l0 t241).f8⟩ : S130) [.string ((rd_T130 l0 t241).f0), .int .i64 ((rd_T130 l0 t241).f1), .int .i64 ((rd_T130 l0 t241).f2), .int .i64 ((rd_T130 l0 t241).f3), .int .i64 ((rd_T130 l0 t241).f4), .int .i64 ((rd_T130 l0 t241).f5), .int .i64 ((rd_T130 l0 t241).f6), .int .i64 ((rd_T130 l0 t241).f7), .int .i64 ((rd_T130 l0 t241).f8)] (fun _ => True) (fun _ => False) rfl rfl ?aP (fun _ hk => hk.elim) ?aF ?aO ?aB ?aS ?aL ?_; (case aP => exact k130_mkM _ _ _ (⟨(rd_T130 l0 t241).f0, (rd_T130 l0 t241).f1, (rd_T130 l0 t241).f2, (rd_T130 l0 t241).f3, (rd_T130 l0 t241).f4, (rd_T130 l0 t241).f5, (rd_T130 l0 t241).f6, (rd_T130 l0 t241).f7, (rd_T130 l0 t241).f8⟩ : S130)); (case aB => exact (r0_ HB.out GE239.out)); (case aF => exact (fun _ _ => trivial)); (case aO => exact (rk_ HO_5.out)); (case aS => exact (below_size (r0_ HB.out GE239.out))); (case aL => have := LMc12.out; omega); intro v244 w14 ho hb hg hat; rw [← Ny243.out] at ho; have n0_ := Aside0.mk (blk_grown (g := gb239) (o := .cells #[.int .i64 a1_0, .int .i64 a1_1, .slice A1_2 l1_2.length c1_2, .slice (some ad240) l1_3.length c1_3] 67 (0, 0)) (r1_ BK239.out) hg (Kd.R_ne HO_5.out BK239.out (by decide))); have n1_ := Aside0.mk (hb); have n2_ := Aside0.mk (ho); clear BK239; clear HB; clear HO_5; have BK239 := n0_; have HB := n1_; have HO245 := n2_; clear n0_ n1_ n2_; clear ho hb hg hat))
     go_roundg k1
     case measure => have := HK1.out; omega
     case rel => exact ⟨(y243), (wrap64 (x11_1 + 1)), (by first | rfl | (simp; done) | (simp [*]; done)), H', ⟨by have := HK1.out; omega⟩, ⟨rk_ HO245.out⟩, ⟨r1_ BK239.out⟩, ⟨r0_ HB.out GE239.out⟩⟩
   ·rw [if_neg c5] at H
    have c5b0 : decide (x11_1 < (l1_3.length : Int)) = false := decide_eq_false c5
    clear c5
    obtain rfl := Option.some.inj H
    go_wp2
    go_ret
    exact ⟨_, by first | rfl | (simp [errW_none, errW_some] <;> rfl) | (simp [*, errW_none, errW_some] <;> rfl), rk_ HO_5.out, r0_ HB.out GE239.out⟩
end Go.Proofs.Ytalcbcelalbhiaa.PFnExactGreatestLoad
