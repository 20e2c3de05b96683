/- QFnExactGreatestLoade of the law FnExactGreatestLoad: taken over, declaration by declaration, as far as the law leans on it (the words and the printed functions are the kit's own print). No condition but what each says. -/
import Derived.Test.YtalcbcelalbhiaaZFnExactGreatestLoadav
import Derived.Laws.Cover1
import Derived.Test.YtalcbcelalbhiaaZFnExactGreatestLoadaw
import Derived.Test.YtalcbcelalbhiaaZFnExactGreatestLoadba
namespace Go.Proofs.Ytalcbcelalbhiaa.PFnExactGreatestLoad
open Go.RowKit Go.Proofs.YtalcbcelalbhiaaW.PrintWords Go.Proofs.YtalcbcelalbhiaaW.PrintLast Go.Proofs.YtalcbcelalbhiaaW.PrintMore
attribute [local go_sem] max2_int min2_int max_two min_two max_three min_three max_four min_four   -- for this text's walks alone
set_option linter.unusedVariables false
set_option linter.unusedSimpArgs false
open Bool renaming true → t_, false → f_
def impl_IsArticle.f (k : Nat) (a0_0 : ByteArray) (a0_1 : Int) (a0_2 : Int) (a0_3 : Int) (a0_4 : Int) (a0_5 : Int) (a0_6 : Int) (a0_7 : Int) (a0_8 : Int) : Option (Bool) := (impl_IsWord.f k a0_0).bind fun t212 => (if t212 = true then ((impl_within.f a0_1 0 3).bind fun t213 => (if t213 = true then ((impl_within.f a0_2 20 300).bind fun t214 => (if t214 = true then ((impl_within.f a0_3 0 10000).bind fun t215 => (if t215 = true then ((impl_within.f a0_4 0 a0_3).bind fun t216 => (if t216 = true then ((impl_within.f a0_5 1 50).bind fun t217 => (if t217 = true then ((impl_within.f a0_6 0 10000).bind fun t218 => (if t218 = true then ((impl_within.f a0_7 1 100000).bind fun t219 => (if t219 = true then ((impl_within.f a0_8 0 3).bind fun t220 => (some t220)) else (some false))) else (some false))) else (some false))) else (some false))) else (some false))) else (some false))) else (some false))) else (some false))
set_option maxHeartbeats 8000000 in
set_option maxRecDepth 100000 in
theorem impl_IsArticle.calls (k : Nat) (a0_0 : ByteArray) (a0_1 : Int) (a0_2 : Int) (a0_3 : Int) (a0_4 : Int) (a0_5 : Int) (a0_6 : Int) (a0_7 : Int) (a0_8 : Int) (r : Bool) (w : World) (h : impl_IsArticle.f k a0_0 a0_1 a0_2 a0_3 a0_4 a0_5 a0_6 a0_7 a0_8 = some r) :
  Calls Try.prog 164 #[.agg #[.string a0_0, .int .i64 a0_1, .int .i64 a0_2, .int .i64 a0_3, .int .i64 a0_4, .int .i64 a0_5, .int .i64 a0_6, .int .i64 a0_7, .int .i64 a0_8]] w fun e w' => e = .returned (.bool r) ∧ Below w.heap.size w w' := by
 have hu130 := Try.underlying130
 have HB := Aside0.mk (Below.refl w.heap.size w)
 have H : ((impl_IsWord.f k a0_0).bind fun t212 => (if t212 = true then ((impl_within.f a0_1 0 3).bind fun t213 => (if t213 = true then ((impl_within.f a0_2 20 300).bind fun t214 => (if t214 = true then ((impl_within.f a0_3 0 10000).bind fun t215 => (if t215 = true then ((impl_within.f a0_4 0 a0_3).bind fun t216 => (if t216 = true then ((impl_within.f a0_5 1 50).bind fun t217 => (if t217 = true then ((impl_within.f a0_6 0 10000).bind fun t218 => (if t218 = true then ((impl_within.f a0_7 1 100000).bind fun t219 => (if t219 = true then ((impl_within.f a0_8 0 3).bind fun t220 => (some t220)) else (some false))) else (some false))) else (some false))) else (some false))) else (some false))) else (some false))) else (some false))) else (some false))) = some r := h
 clear h
 replace H := Option.bind_eq_some_iff.mp H
 obtain ⟨t212, A20, H⟩ := H
 replace H : (if t212 = true then ((impl_within.f a0_1 0 3).bind fun t213 => (if t213 = true then ((impl_within.f a0_2 20 300).bind fun t214 => (if t214 = true then ((impl_within.f a0_3 0 10000).bind fun t215 => (if t215 = true then ((impl_within.f a0_4 0 a0_3).bind fun t216 => (if t216 = true then ((impl_within.f a0_5 1 50).bind fun t217 => (if t217 = true then ((impl_within.f a0_6 0 10000).bind fun t218 => (if t218 = true then ((impl_within.f a0_7 1 100000).bind fun t219 => (if t219 = true then ((impl_within.f a0_8 0 3).bind fun t220 => (some t220)) else (some false))) else (some false))) else (some false))) else (some false))) else (some false))) else (some false))) else (some false))) else (some false)) = some r := H
 have A2 := Aside0.mk A20
 clear A20
 by_cases c3 : t212 = true
 ·subst c3
  replace H : ((impl_within.f a0_1 0 3).bind fun t213 => (if t213 = true then ((impl_within.f a0_2 20 300).bind fun t214 => (if t214 = true then ((impl_within.f a0_3 0 10000).bind fun t215 => (if t215 = true then ((impl_within.f a0_4 0 a0_3).bind fun t216 => (if t216 = true then ((impl_within.f a0_5 1 50).bind fun t217 => (if t217 = true then ((impl_within.f a0_6 0 10000).bind fun t218 => (if t218 = true then ((impl_within.f a0_7 1 100000).bind fun t219 => (if t219 = true then ((impl_within.f a0_8 0 3).bind fun t220 => (some t220)) else (some false))) else (some false))) else (some false))) else (some false))) else (some false))) else (some false))) else (some false))) = some r := by rw [if_pos rfl] at H; exact H
  replace H := Option.bind_eq_some_iff.mp H
  obtain ⟨t213, A40, H⟩ := H
  replace H : (if t213 = true then ((impl_within.f a0_2 20 300).bind fun t214 => (if t214 = true then ((impl_within.f a0_3 0 10000).bind fun t215 => (if t215 = true then ((impl_within.f a0_4 0 a0_3).bind fun t216 => (if t216 = true then ((impl_within.f a0_5 1 50).bind fun t217 => (if t217 = true then ((impl_within.f a0_6 0 10000).bind fun t218 => (if t218 = true then ((impl_within.f a0_7 1 100000).bind fun t219 => (if t219 = true then ((impl_within.f a0_8 0 3).bind fun t220 => (some t220)) else (some false))) else (some false))) else (some false))) else (some false))) else (some false))) else (some false))) else (some false)) = some r := H
  have A4 := Aside0.mk A40
  clear A40
  by_cases c5 : t213 = true
  ·subst c5
   replace H : ((impl_within.f a0_2 20 300).bind fun t214 => (if t214 = true then ((impl_within.f a0_3 0 10000).bind fun t215 => (if t215 = true then ((impl_within.f a0_4 0 a0_3).bind fun t216 => (if t216 = true then ((impl_within.f a0_5 1 50).bind fun t217 => (if t217 = true then ((impl_within.f a0_6 0 10000).bind fun t218 => (if t218 = true then ((impl_within.f a0_7 1 100000).bind fun t219 => (if t219 = true then ((impl_within.f a0_8 0 3).bind fun t220 => (some t220)) else (some false))) else (some false))) else (some false))) else (some false))) else (some false))) else (some false))) = some r := by rw [if_pos rfl] at H; exact H
   replace H := Option.bind_eq_some_iff.mp H
   obtain ⟨t214, A60, H⟩ := H
   replace H : (if t214 = true then ((impl_within.f a0_3 0 10000).bind fun t215 => (if t215 = true then ((impl_within.f a0_4 0 a0_3).bind fun t216 => (if t216 = true then ((impl_within.f a0_5 1 50).bind fun t217 => (if t217 = true then ((impl_within.f a0_6 0 10000).bind fun t218 => (if t218 = true then ((impl_within.f a0_7 1 100000).bind fun t219 => (if t219 = true then ((impl_within.f a0_8 0 3).bind fun t220 => (some t220)) else (some false))) else (some false))) else (some false))) else (some false))) else (some false))) else (some false)) = some r := H
   have A6 := Aside0.mk A60
   clear A60
   by_cases c7 : t214 = true
   ·subst c7
    replace H : ((impl_within.f a0_3 0 10000).bind fun t215 => (if t215 = true then ((impl_within.f a0_4 0 a0_3).bind fun t216 => (if t216 = true then ((impl_within.f a0_5 1 50).bind fun t217 => (if t217 = true then ((impl_within.f a0_6 0 10000).bind fun t218 => (if t218 = true then ((impl_within.f a0_7 1 100000).bind fun t219 => (if t219 = true then ((impl_within.f a0_8 0 3).bind fun t220 => (some t220)) else (some false))) else (some false))) else (some false))) else (some false))) else (some false))) = some r := by rw [if_pos rfl] at H; exact H
    replace H := Option.bind_eq_some_iff.mp H
    obtain ⟨t215, A80, H⟩ := H
    replace H : (if t215 = true then ((impl_within.f a0_4 0 a0_3).bind fun t216 => (if t216 = true then ((impl_within.f a0_5 1 50).bind fun t217 => (if t217 = true then ((impl_within.f a0_6 0 10000).bind fun t218 => (if t218 = true then ((impl_within.f a0_7 1 100000).bind fun t219 => (if t219 = true then ((impl_within.f a0_8 0 3).bind fun t220 => (some t220)) else (some false))) else (some false))) else (some false))) else (some false))) else (some false)) = some r := H
    have A8 := Aside0.mk A80
    clear A80
    by_cases c9 : t215 = true
    ·subst c9
     replace H : ((impl_within.f a0_4 0 a0_3).bind fun t216 => (if t216 = true then ((impl_within.f a0_5 1 50).bind fun t217 => (if t217 = true then ((impl_within.f a0_6 0 10000).bind fun t218 => (if t218 = true then ((impl_within.f a0_7 1 100000).bind fun t219 => (if t219 = true then ((impl_within.f a0_8 0 3).bind fun t220 => (some t220)) else (some false))) else (some false))) else (some false))) else (some false))) = some r := by rw [if_pos rfl] at H; exact H
     replace H := Option.bind_eq_some_iff.mp H
     obtain ⟨t216, A100, H⟩ := H
     replace H : (if t216 = true then ((impl_within.f a0_5 1 50).bind fun t217 => (if t217 = true then ((impl_within.f a0_6 0 10000).bind fun t218 => (if t218 = true then ((impl_within.f a0_7 1 100000).bind fun t219 => (if t219 = true then ((impl_within.f a0_8 0 3).bind fun t220 => (some t220)) else (some false))) else (some false))) else (some false))) else (some false)) = some r := H
     have A10 := Aside0.mk A100
     clear A100
     by_cases c11 : t216 = true
     ·subst c11
      replace H : ((impl_within.f a0_5 1 50).bind fun t217 => (if t217 = true then ((impl_within.f a0_6 0 10000).bind fun t218 => (if t218 = true then ((impl_within.f a0_7 1 100000).bind fun t219 => (if t219 = true then ((impl_within.f a0_8 0 3).bind fun t220 => (some t220)) else (some false))) else (some false))) else (some false))) = some r := by rw [if_pos rfl] at H; exact H
      replace H := Option.bind_eq_some_iff.mp H
      obtain ⟨t217, A120, H⟩ := H
      replace H : (if t217 = true then ((impl_within.f a0_6 0 10000).bind fun t218 => (if t218 = true then ((impl_within.f a0_7 1 100000).bind fun t219 => (if t219 = true then ((impl_within.f a0_8 0 3).bind fun t220 => (some t220)) else (some false))) else (some false))) else (some false)) = some r := H
      have A12 := Aside0.mk A120
      clear A120
      by_cases c13 : t217 = true
      ·subst c13
       replace H : ((impl_within.f a0_6 0 10000).bind fun t218 => (if t218 = true then ((impl_within.f a0_7 1 100000).bind fun t219 => (if t219 = true then ((impl_within.f a0_8 0 3).bind fun t220 => (some t220)) else (some false))) else (some false))) = some r := by rw [if_pos rfl] at H; exact H
       replace H := Option.bind_eq_some_iff.mp H
       obtain ⟨t218, A140, H⟩ := H
       replace H : (if t218 = true then ((impl_within.f a0_7 1 100000).bind fun t219 => (if t219 = true then ((impl_within.f a0_8 0 3).bind fun t220 => (some t220)) else (some false))) else (some false)) = some r := H
       have A14 := Aside0.mk A140
       clear A140
       by_cases c15 : t218 = true
       ·subst c15
        replace H : ((impl_within.f a0_7 1 100000).bind fun t219 => (if t219 = true then ((impl_within.f a0_8 0 3).bind fun t220 => (some t220)) else (some false))) = some r := by rw [if_pos rfl] at H; exact H
        replace H := Option.bind_eq_some_iff.mp H
        obtain ⟨t219, A160, H⟩ := H
        replace H : (if t219 = true then ((impl_within.f a0_8 0 3).bind fun t220 => (some t220)) else (some false)) = some r := H
        have A16 := Aside0.mk A160
        clear A160
        by_cases c17 : t219 = true
        ·subst c17
         replace H : ((impl_within.f a0_8 0 3).bind fun t220 => (some t220)) = some r := by rw [if_pos rfl] at H; exact H
         replace H := Option.bind_eq_some_iff.mp H
         obtain ⟨t220, A180, H⟩ := H
         replace H : (some t220) = some r := H
         have A18 := Aside0.mk A180
         clear A180
         obtain rfl := Option.some.inj H
         go_enter Try.func164, Try.ntmps164
         go_wp2_with (first | ((with_reducible refine gate_dst (N := 1) rfl ?_); refine box_event ?hg (N := 1) ?hd (cs := #[.string a0_0, .int .i64 a0_1, .int .i64 a0_2, .int .i64 a0_3, .int .i64 a0_4, .int .i64 a0_5, .int .i64 a0_6, .int .i64 a0_7, .int .i64 a0_8]) (t := 130) ?hr ?_; (case hd => rfl); (case hg => rfl); (case hr => first | (go_simp; done) | (go_simp; rfl)); intro gb211 hg w19 hbox hb; have BK211 := Aside0.mk (hbox); have GW211 := Aside0.mk ((by rw [hg]; exact (below_size (bl_ HB.out)) : w.heap.size ≤ gb211)); have GE211 := Aside0.mk ((by rw [hg]; exact (below_size (bl_ HB.out)) : w.heap.size ≤ gb211)); replace HB := Aside0.mk (below_step (bl_ HB.out) hb); clear hb hbox hg; have hcz20_0 : w19.cell? ⟨gb211, 0, none⟩ = some (.string a0_0) := (blk_cell BK211.out 0).trans rfl; have hcz20_1 : w19.cell? ⟨gb211, 1, none⟩ = some (.int .i64 a0_1) := (blk_cell BK211.out 1).trans rfl; have hcz20_2 : w19.cell? ⟨gb211, 2, none⟩ = some (.int .i64 a0_2) := (blk_cell BK211.out 2).trans rfl; have hcz20_3 : w19.cell? ⟨gb211, 3, none⟩ = some (.int .i64 a0_3) := (blk_cell BK211.out 3).trans rfl; have hcz20_4 : w19.cell? ⟨gb211, 4, none⟩ = some (.int .i64 a0_4) := (blk_cell BK211.out 4).trans rfl; have hcz20_5 : w19.cell? ⟨gb211, 5, none⟩ = some (.int .i64 a0_5) := (blk_cell BK211.out 5).trans rfl; have hcz20_6 : w19.cell? ⟨gb211, 6, none⟩ = some (.int .i64 a0_6) := (blk_cell BK211.out 6).trans rfl; have hcz20_7 : w19.cell? ⟨gb211, 7, none⟩ = some (.int .i64 a0_7) := (blk_cell BK211.out 7).trans rfl; have hcz20_8 : w19.cell? ⟨gb211, 8, none⟩ = some (.int .i64 a0_8) := (blk_cell BK211.out 8).trans rfl; have hfz20_0 := blk_frozen BK211.out 0; have hfz20_1 := blk_frozen BK211.out 1; have hfz20_2 := blk_frozen BK211.out 2; have hfz20_3 := blk_frozen BK211.out 3; have hfz20_4 := blk_frozen BK211.out 4; have hfz20_5 := blk_frozen BK211.out 5; have hfz20_6 := blk_frozen BK211.out 6; have hfz20_7 := blk_frozen BK211.out 7; have hfz20_8 := blk_frozen BK211.out 8) | ((with_reducible refine gate_callee (f := 168) rfl ?_); refine goesL_ (some 5) rfl rfl Try.func168 (by kernel_rfl) rfl #[.string a0_0] rfl ag_ ?_; (with_reducible refine (impl_IsWord.calls k a0_0 true _ A2.out).mono ?_); rintro e w' ⟨rfl, ⟨nd, rfl⟩⟩; refine ⟨_, rfl, ?_⟩) | (go_at_call 78; (with_reducible refine (impl_within.calls a0_1 0 3 true _ A4.out).mono ?_); rintro e w' ⟨rfl, ⟨nd, rfl⟩⟩) | (go_at_call 78; (with_reducible refine (impl_within.calls a0_2 20 300 true _ A6.out).mono ?_); rintro e w' ⟨rfl, ⟨nd, rfl⟩⟩) | (go_at_call 78; (with_reducible refine (impl_within.calls a0_3 0 10000 true _ A8.out).mono ?_); rintro e w' ⟨rfl, ⟨nd, rfl⟩⟩) | (go_at_call 78; (with_reducible refine (impl_within.calls a0_4 0 a0_3 true _ A10.out).mono ?_); rintro e w' ⟨rfl, ⟨nd, rfl⟩⟩) | (go_at_call 78; (with_reducible refine (impl_within.calls a0_5 1 50 true _ A12.out).mono ?_); rintro e w' ⟨rfl, ⟨nd, rfl⟩⟩) | (go_at_call 78; (with_reducible refine (impl_within.calls a0_6 0 10000 true _ A14.out).mono ?_); rintro e w' ⟨rfl, ⟨nd, rfl⟩⟩) | (go_at_call 78; (with_reducible refine (impl_within.calls a0_7 1 100000 true _ A16.out).mono ?_); rintro e w' ⟨rfl, ⟨nd, rfl⟩⟩) | (go_at_call 78; (with_reducible refine (impl_within.calls a0_8 0 3 t220 _ A18.out).mono ?_); rintro e w' ⟨rfl, ⟨nd, rfl⟩⟩))
         go_ret
         exact ⟨by first | rfl | (simp [errW_none, errW_some] <;> rfl) | (simp [*, errW_none, errW_some] <;> rfl), r0_ HB.out GE211.out⟩
        ·replace c17 := Bool.eq_false_iff.mpr c17
         subst c17
         replace H : (some false) = some r := by rw [if_neg (show ¬ (false = true) by decide)] at H; exact H
         obtain rfl := Option.some.inj H
         go_enter Try.func164, Try.ntmps164
         go_wp2_with (first | ((with_reducible refine gate_dst (N := 1) rfl ?_); refine box_event ?hg (N := 1) ?hd (cs := #[.string a0_0, .int .i64 a0_1, .int .i64 a0_2, .int .i64 a0_3, .int .i64 a0_4, .int .i64 a0_5, .int .i64 a0_6, .int .i64 a0_7, .int .i64 a0_8]) (t := 130) ?hr ?_; (case hd => rfl); (case hg => rfl); (case hr => first | (go_simp; done) | (go_simp; rfl)); intro gb211 hg w21 hbox hb; have BK211 := Aside0.mk (hbox); have GW211 := Aside0.mk ((by rw [hg]; exact (below_size (bl_ HB.out)) : w.heap.size ≤ gb211)); have GE211 := Aside0.mk ((by rw [hg]; exact (below_size (bl_ HB.out)) : w.heap.size ≤ gb211)); replace HB := Aside0.mk (below_step (bl_ HB.out) hb); clear hb hbox hg; have hcz22_0 : w21.cell? ⟨gb211, 0, none⟩ = some (.string a0_0) := (blk_cell BK211.out 0).trans rfl; have hcz22_1 : w21.cell? ⟨gb211, 1, none⟩ = some (.int .i64 a0_1) := (blk_cell BK211.out 1).trans rfl; have hcz22_2 : w21.cell? ⟨gb211, 2, none⟩ = some (.int .i64 a0_2) := (blk_cell BK211.out 2).trans rfl; have hcz22_3 : w21.cell? ⟨gb211, 3, none⟩ = some (.int .i64 a0_3) := (blk_cell BK211.out 3).trans rfl; have hcz22_4 : w21.cell? ⟨gb211, 4, none⟩ = some (.int .i64 a0_4) := (blk_cell BK211.out 4).trans rfl; have hcz22_5 : w21.cell? ⟨gb211, 5, none⟩ = some (.int .i64 a0_5) := (blk_cell BK211.out 5).trans rfl; have hcz22_6 : w21.cell? ⟨gb211, 6, none⟩ = some (.int .i64 a0_6) := (blk_cell BK211.out 6).trans rfl; have hcz22_7 : w21.cell? ⟨gb211, 7, none⟩ = some (.int .i64 a0_7) := (blk_cell BK211.out 7).trans rfl; have hcz22_8 : w21.cell? ⟨gb211, 8, none⟩ = some (.int .i64 a0_8) := (blk_cell BK211.out 8).trans rfl; have hfz22_0 := blk_frozen BK211.out 0; have hfz22_1 := blk_frozen BK211.out 1; have hfz22_2 := blk_frozen BK211.out 2; have hfz22_3 := blk_frozen BK211.out 3; have hfz22_4 := blk_frozen BK211.out 4; have hfz22_5 := blk_frozen BK211.out 5; have hfz22_6 := blk_frozen BK211.out 6; have hfz22_7 := blk_frozen BK211.out 7; have hfz22_8 := blk_frozen BK211.out 8) | ((with_reducible refine gate_callee (f := 168) rfl ?_); refine goesL_ (some 5) rfl rfl Try.func168 (by kernel_rfl) rfl #[.string a0_0] rfl ag_ ?_; (with_reducible refine (impl_IsWord.calls k a0_0 true _ A2.out).mono ?_); rintro e w' ⟨rfl, ⟨nd, rfl⟩⟩; refine ⟨_, rfl, ?_⟩) | (go_at_call 78; (with_reducible refine (impl_within.calls a0_1 0 3 true _ A4.out).mono ?_); rintro e w' ⟨rfl, ⟨nd, rfl⟩⟩) | (go_at_call 78; (with_reducible refine (impl_within.calls a0_2 20 300 true _ A6.out).mono ?_); rintro e w' ⟨rfl, ⟨nd, rfl⟩⟩) | (go_at_call 78; (with_reducible refine (impl_within.calls a0_3 0 10000 true _ A8.out).mono ?_); rintro e w' ⟨rfl, ⟨nd, rfl⟩⟩) | (go_at_call 78; (with_reducible refine (impl_within.calls a0_4 0 a0_3 true _ A10.out).mono ?_); rintro e w' ⟨rfl, ⟨nd, rfl⟩⟩) | (go_at_call 78; (with_reducible refine (impl_within.calls a0_5 1 50 true _ A12.out).mono ?_); rintro e w' ⟨rfl, ⟨nd, rfl⟩⟩) | (go_at_call 78; (with_reducible refine (impl_within.calls a0_6 0 10000 true _ A14.out).mono ?_); rintro e w' ⟨rfl, ⟨nd, rfl⟩⟩) | (go_at_call 78; (with_reducible refine (impl_within.calls a0_7 1 100000 false _ A16.out).mono ?_); rintro e w' ⟨rfl, ⟨nd, rfl⟩⟩))
         go_ret
         exact ⟨by first | rfl | (simp [errW_none, errW_some] <;> rfl) | (simp [*, errW_none, errW_some] <;> rfl), r0_ HB.out GE211.out⟩
       ·replace c15 := Bool.eq_false_iff.mpr c15
        subst c15
        replace H : (some false) = some r := by rw [if_neg (show ¬ (false = true) by decide)] at H; exact H
        obtain rfl := Option.some.inj H
        go_enter Try.func164, Try.ntmps164
        go_wp2_with (first | ((with_reducible refine gate_dst (N := 1) rfl ?_); refine box_event ?hg (N := 1) ?hd (cs := #[.string a0_0, .int .i64 a0_1, .int .i64 a0_2, .int .i64 a0_3, .int .i64 a0_4, .int .i64 a0_5, .int .i64 a0_6, .int .i64 a0_7, .int .i64 a0_8]) (t := 130) ?hr ?_; (case hd => rfl); (case hg => rfl); (case hr => first | (go_simp; done) | (go_simp; rfl)); intro gb211 hg w23 hbox hb; have BK211 := Aside0.mk (hbox); have GW211 := Aside0.mk ((by rw [hg]; exact (below_size (bl_ HB.out)) : w.heap.size ≤ gb211)); have GE211 := Aside0.mk ((by rw [hg]; exact (below_size (bl_ HB.out)) : w.heap.size ≤ gb211)); replace HB := Aside0.mk (below_step (bl_ HB.out) hb); clear hb hbox hg; have hcz24_0 : w23.cell? ⟨gb211, 0, none⟩ = some (.string a0_0) := (blk_cell BK211.out 0).trans rfl; have hcz24_1 : w23.cell? ⟨gb211, 1, none⟩ = some (.int .i64 a0_1) := (blk_cell BK211.out 1).trans rfl; have hcz24_2 : w23.cell? ⟨gb211, 2, none⟩ = some (.int .i64 a0_2) := (blk_cell BK211.out 2).trans rfl; have hcz24_3 : w23.cell? ⟨gb211, 3, none⟩ = some (.int .i64 a0_3) := (blk_cell BK211.out 3).trans rfl; have hcz24_4 : w23.cell? ⟨gb211, 4, none⟩ = some (.int .i64 a0_4) := (blk_cell BK211.out 4).trans rfl; have hcz24_5 : w23.cell? ⟨gb211, 5, none⟩ = some (.int .i64 a0_5) := (blk_cell BK211.out 5).trans rfl; have hcz24_6 : w23.cell? ⟨gb211, 6, none⟩ = some (.int .i64 a0_6) := (blk_cell BK211.out 6).trans rfl; have hcz24_7 : w23.cell? ⟨gb211, 7, none⟩ = some (.int .i64 a0_7) := (blk_cell BK211.out 7).trans rfl; have hcz24_8 : w23.cell? ⟨gb211, 8, none⟩ = some (.int .i64 a0_8) := (blk_cell BK211.out 8).trans rfl; have hfz24_0 := blk_frozen BK211.out 0; have hfz24_1 := blk_frozen BK211.out 1; have hfz24_2 := blk_frozen BK211.out 2; have hfz24_3 := blk_frozen BK211.out 3; have hfz24_4 := blk_frozen BK211.out 4; have hfz24_5 := blk_frozen BK211.out 5; have hfz24_6 := blk_frozen BK211.out 6; have hfz24_7 := blk_frozen BK211.out 7; have hfz24_8 := blk_frozen BK211.out 8) | ((with_reducible refine gate_callee (f := 168) rfl ?_); refine goesL_ (some 5) rfl rfl Try.func168 (by kernel_rfl) rfl #[.string a0_0] rfl ag_ ?_; (with_reducible refine (impl_IsWord.calls k a0_0 true _ A2.out).mono ?_); rintro e w' ⟨rfl, ⟨nd, rfl⟩⟩; refine ⟨_, rfl, ?_⟩) | (go_at_call 78; (with_reducible refine (impl_within.calls a0_1 0 3 true _ A4.out).mono ?_); rintro e w' ⟨rfl, ⟨nd, rfl⟩⟩) | (go_at_call 78; (with_reducible refine (impl_within.calls a0_2 20 300 true _ A6.out).mono ?_); rintro e w' ⟨rfl, ⟨nd, rfl⟩⟩) | (go_at_call 78; (with_reducible refine (impl_within.calls a0_3 0 10000 true _ A8.out).mono ?_); rintro e w' ⟨rfl, ⟨nd, rfl⟩⟩) | (go_at_call 78; (with_reducible refine (impl_within.calls a0_4 0 a0_3 true _ A10.out).mono ?_); rintro e w' ⟨rfl, ⟨nd, rfl⟩⟩) | (go_at_call 78; (with_reducible refine (impl_within.calls a0_5 1 50 true _ A12.out).mono ?_); rintro e w' ⟨rfl, ⟨nd, rfl⟩⟩) | (go_at_call 78; (with_reducible refine (impl_within.calls a0_6 0 10000 false _ A14.out).mono ?_); rintro e w' ⟨rfl, ⟨nd, rfl⟩⟩))
        go_ret
        exact ⟨by first | rfl | (simp [errW_none, errW_some] <;> rfl) | (simp [*, errW_none, errW_some] <;> rfl), r0_ HB.out GE211.out⟩
      ·replace c13 := Bool.eq_false_iff.mpr c13
       subst c13
       replace H : (some false) = some r := by rw [if_neg (show ¬ (false = true) by decide)] at H; exact H
       obtain rfl := Option.some.inj H
       go_enter Try.func164, Try.ntmps164
       go_wp2_with (first | ((with_reducible refine gate_dst (N := 1) rfl ?_); refine box_event ?hg (N := 1) ?hd (cs := #[.string a0_0, .int .i64 a0_1, .int .i64 a0_2, .int .i64 a0_3, .int .i64 a0_4, .int .i64 a0_5, .int .i64 a0_6, .int .i64 a0_7, .int .i64 a0_8]) (t := 130) ?hr ?_; (case hd => rfl); (case hg => rfl); (case hr => first | (go_simp; done) | (go_simp; rfl)); intro gb211 hg w25 hbox hb; have BK211 := Aside0.mk (hbox); have GW211 := Aside0.mk ((by rw [hg]; exact (below_size (bl_ HB.out)) : w.heap.size ≤ gb211)); have GE211 := Aside0.mk ((by rw [hg]; exact (below_size (bl_ HB.out)) : w.heap.size ≤ gb211)); replace HB := Aside0.mk (below_step (bl_ HB.out) hb); clear hb hbox hg; have hcz26_0 : w25.cell? ⟨gb211, 0, none⟩ = some (.string a0_0) := (blk_cell BK211.out 0).trans rfl; have hcz26_1 : w25.cell? ⟨gb211, 1, none⟩ = some (.int .i64 a0_1) := (blk_cell BK211.out 1).trans rfl; have hcz26_2 : w25.cell? ⟨gb211, 2, none⟩ = some (.int .i64 a0_2) := (blk_cell BK211.out 2).trans rfl; have hcz26_3 : w25.cell? ⟨gb211, 3, none⟩ = some (.int .i64 a0_3) := (blk_cell BK211.out 3).trans rfl; have hcz26_4 : w25.cell? ⟨gb211, 4, none⟩ = some (.int .i64 a0_4) := (blk_cell BK211.out 4).trans rfl; have hcz26_5 : w25.cell? ⟨gb211, 5, none⟩ = some (.int .i64 a0_5) := (blk_cell BK211.out 5).trans rfl; have hcz26_6 : w25.cell? ⟨gb211, 6, none⟩ = some (.int .i64 a0_6) := (blk_cell BK211.out 6).trans rfl; have hcz26_7 : w25.cell? ⟨gb211, 7, none⟩ = some (.int .i64 a0_7) := (blk_cell BK211.out 7).trans rfl; have hcz26_8 : w25.cell? ⟨gb211, 8, none⟩ = some (.int .i64 a0_8) := (blk_cell BK211.out 8).trans rfl; have hfz26_0 := blk_frozen BK211.out 0; have hfz26_1 := blk_frozen BK211.out 1; have hfz26_2 := blk_frozen BK211.out 2; have hfz26_3 := blk_frozen BK211.out 3; have hfz26_4 := blk_frozen BK211.out 4; have hfz26_5 := blk_frozen BK211.out 5; have hfz26_6 := blk_frozen BK211.out 6; have hfz26_7 := blk_frozen BK211.out 7; have hfz26_8 := blk_frozen BK211.out 8) | ((with_reducible refine gate_callee (f := 168) rfl ?_); refine goesL_ (some 5) rfl rfl Try.func168 (by kernel_rfl) rfl #[.string a0_0] rfl ag_ ?_; (with_reducible refine (impl_IsWord.calls k a0_0 true _ A2.out).mono ?_); rintro e w' ⟨rfl, ⟨nd, rfl⟩⟩; refine ⟨_, rfl, ?_⟩) | (go_at_call 78; (with_reducible refine (impl_within.calls a0_1 0 3 true _ A4.out).mono ?_); rintro e w' ⟨rfl, ⟨nd, rfl⟩⟩) | (go_at_call 78; (with_reducible refine (impl_within.calls a0_2 20 300 true _ A6.out).mono ?_); rintro e w' ⟨rfl, ⟨nd, rfl⟩⟩) | (go_at_call 78; (with_reducible refine (impl_within.calls a0_3 0 10000 true _ A8.out).mono ?_); rintro e w' ⟨rfl, ⟨nd, rfl⟩⟩) | (go_at_call 78; (with_reducible refine (impl_within.calls a0_4 0 a0_3 true _ A10.out).mono ?_); rintro e w' ⟨rfl, ⟨nd, rfl⟩⟩) | (go_at_call 78; (with_reducible refine (impl_within.calls a0_5 1 50 false _ A12.out).mono ?_); rintro e w' ⟨rfl, ⟨nd, rfl⟩⟩))
       go_ret
       exact ⟨by first | rfl | (simp [errW_none, errW_some] <;> rfl) | (simp [*, errW_none, errW_some] <;> rfl), r0_ HB.out GE211.out⟩
     ·replace c11 := Bool.eq_false_iff.mpr c11
      subst c11
      replace H : (some false) = some r := by rw [if_neg (show ¬ (false = true) by decide)] at H; exact H
      obtain rfl := Option.some.inj H
      go_enter Try.func164, Try.ntmps164
      go_wp2_with (first | ((with_reducible refine gate_dst (N := 1) rfl ?_); refine box_event ?hg (N := 1) ?hd (cs := #[.string a0_0, .int .i64 a0_1, .int .i64 a0_2, .int .i64 a0_3, .int .i64 a0_4, .int .i64 a0_5, .int .i64 a0_6, .int .i64 a0_7, .int .i64 a0_8]) (t := 130) ?hr ?_; (case hd => rfl); (case hg => rfl); (case hr => first | (go_simp; done) | (go_simp; rfl)); intro gb211 hg w27 hbox hb; have BK211 := Aside0.mk (hbox); have GW211 := Aside0.mk ((by rw [hg]; exact (below_size (bl_ HB.out)) : w.heap.size ≤ gb211)); have GE211 := Aside0.mk ((by rw [hg]; exact (below_size (bl_ HB.out)) : w.heap.size ≤ gb211)); replace HB := Aside0.mk (below_step (bl_ HB.out) hb); clear hb hbox hg; have hcz28_0 : w27.cell? ⟨gb211, 0, none⟩ = some (.string a0_0) := (blk_cell BK211.out 0).trans rfl; have hcz28_1 : w27.cell? ⟨gb211, 1, none⟩ = some (.int .i64 a0_1) := (blk_cell BK211.out 1).trans rfl; have hcz28_2 : w27.cell? ⟨gb211, 2, none⟩ = some (.int .i64 a0_2) := (blk_cell BK211.out 2).trans rfl; have hcz28_3 : w27.cell? ⟨gb211, 3, none⟩ = some (.int .i64 a0_3) := (blk_cell BK211.out 3).trans rfl; have hcz28_4 : w27.cell? ⟨gb211, 4, none⟩ = some (.int .i64 a0_4) := (blk_cell BK211.out 4).trans rfl; have hcz28_5 : w27.cell? ⟨gb211, 5, none⟩ = some (.int .i64 a0_5) := (blk_cell BK211.out 5).trans rfl; have hcz28_6 : w27.cell? ⟨gb211, 6, none⟩ = some (.int .i64 a0_6) := (blk_cell BK211.out 6).trans rfl; have hcz28_7 : w27.cell? ⟨gb211, 7, none⟩ = some (.int .i64 a0_7) := (blk_cell BK211.out 7).trans rfl; have hcz28_8 : w27.cell? ⟨gb211, 8, none⟩ = some (.int .i64 a0_8) := (blk_cell BK211.out 8).trans rfl; have hfz28_0 := blk_frozen BK211.out 0; have hfz28_1 := blk_frozen BK211.out 1; have hfz28_2 := blk_frozen BK211.out 2; have hfz28_3 := blk_frozen BK211.out 3; have hfz28_4 := blk_frozen BK211.out 4; have hfz28_5 := blk_frozen BK211.out 5; have hfz28_6 := blk_frozen BK211.out 6; have hfz28_7 := blk_frozen BK211.out 7; have hfz28_8 := blk_frozen BK211.out 8) | ((with_reducible refine gate_callee (f := 168) rfl ?_); refine goesL_ (some 5) rfl rfl Try.func168 (by kernel_rfl) rfl #[.string a0_0] rfl ag_ ?_; (with_reducible refine (impl_IsWord.calls k a0_0 true _ A2.out).mono ?_); rintro e w' ⟨rfl, ⟨nd, rfl⟩⟩; refine ⟨_, rfl, ?_⟩) | (go_at_call 78; (with_reducible refine (impl_within.calls a0_1 0 3 true _ A4.out).mono ?_); rintro e w' ⟨rfl, ⟨nd, rfl⟩⟩) | (go_at_call 78; (with_reducible refine (impl_within.calls a0_2 20 300 true _ A6.out).mono ?_); rintro e w' ⟨rfl, ⟨nd, rfl⟩⟩) | (go_at_call 78; (with_reducible refine (impl_within.calls a0_3 0 10000 true _ A8.out).mono ?_); rintro e w' ⟨rfl, ⟨nd, rfl⟩⟩) | (go_at_call 78; (with_reducible refine (impl_within.calls a0_4 0 a0_3 false _ A10.out).mono ?_); rintro e w' ⟨rfl, ⟨nd, rfl⟩⟩))
      go_ret
      exact ⟨by first | rfl | (simp [errW_none, errW_some] <;> rfl) | (simp [*, errW_none, errW_some] <;> rfl), r0_ HB.out GE211.out⟩
    ·replace c9 := Bool.eq_false_iff.mpr c9
     subst c9
     replace H : (some false) = some r := by rw [if_neg (show ¬ (false = true) by decide)] at H; exact H
     obtain rfl := Option.some.inj H
     go_enter Try.func164, Try.ntmps164
     go_wp2_with (first | ((with_reducible refine gate_dst (N := 1) rfl ?_); refine box_event ?hg (N := 1) ?hd (cs := #[.string a0_0, .int .i64 a0_1, .int .i64 a0_2, .int .i64 a0_3, .int .i64 a0_4, .int .i64 a0_5, .int .i64 a0_6, .int .i64 a0_7, .int .i64 a0_8]) (t := 130) ?hr ?_; (case hd => rfl); (case hg => rfl); (case hr => first | (go_simp; done) | (go_simp; rfl)); intro gb211 hg w29 hbox hb; have BK211 := Aside0.mk (hbox); have GW211 := Aside0.mk ((by rw [hg]; exact (below_size (bl_ HB.out)) : w.heap.size ≤ gb211)); have GE211 := Aside0.mk ((by rw [hg]; exact (below_size (bl_ HB.out)) : w.heap.size ≤ gb211)); replace HB := Aside0.mk (below_step (bl_ HB.out) hb); clear hb hbox hg; have hcz30_0 : w29.cell? ⟨gb211, 0, none⟩ = some (.string a0_0) := (blk_cell BK211.out 0).trans rfl; have hcz30_1 : w29.cell? ⟨gb211, 1, none⟩ = some (.int .i64 a0_1) := (blk_cell BK211.out 1).trans rfl; have hcz30_2 : w29.cell? ⟨gb211, 2, none⟩ = some (.int .i64 a0_2) := (blk_cell BK211.out 2).trans rfl; have hcz30_3 : w29.cell? ⟨gb211, 3, none⟩ = some (.int .i64 a0_3) := (blk_cell BK211.out 3).trans rfl; have hcz30_4 : w29.cell? ⟨gb211, 4, none⟩ = some (.int .i64 a0_4) := (blk_cell BK211.out 4).trans rfl; have hcz30_5 : w29.cell? ⟨gb211, 5, none⟩ = some (.int .i64 a0_5) := (blk_cell BK211.out 5).trans rfl; have hcz30_6 : w29.cell? ⟨gb211, 6, none⟩ = some (.int .i64 a0_6) := (blk_cell BK211.out 6).trans rfl; have hcz30_7 : w29.cell? ⟨gb211, 7, none⟩ = some (.int .i64 a0_7) := (blk_cell BK211.out 7).trans rfl; have hcz30_8 : w29.cell? ⟨gb211, 8, none⟩ = some (.int .i64 a0_8) := (blk_cell BK211.out 8).trans rfl; have hfz30_0 := blk_frozen BK211.out 0; have hfz30_1 := blk_frozen BK211.out 1; have hfz30_2 := blk_frozen BK211.out 2; have hfz30_3 := blk_frozen BK211.out 3; have hfz30_4 := blk_frozen BK211.out 4; have hfz30_5 := blk_frozen BK211.out 5; have hfz30_6 := blk_frozen BK211.out 6; have hfz30_7 := blk_frozen BK211.out 7; have hfz30_8 := blk_frozen BK211.out 8) | ((with_reducible refine gate_callee (f := 168) rfl ?_); refine goesL_ (some 5) rfl rfl Try.func168 (by kernel_rfl) rfl #[.string a0_0] rfl ag_ ?_; (with_reducible refine (impl_IsWord.calls k a0_0 true _ A2.out).mono ?_); rintro e w' ⟨rfl, ⟨nd, rfl⟩⟩; refine ⟨_, rfl, ?_⟩) | (go_at_call 78; (with_reducible refine (impl_within.calls a0_1 0 3 true _ A4.out).mono ?_); rintro e w' ⟨rfl, ⟨nd, rfl⟩⟩) | (go_at_call 78; (with_reducible refine (impl_within.calls a0_2 20 300 true _ A6.out).mono ?_); rintro e w' ⟨rfl, ⟨nd, rfl⟩⟩) | (go_at_call 78; (with_reducible refine (impl_within.calls a0_3 0 10000 false _ A8.out).mono ?_); rintro e w' ⟨rfl, ⟨nd, rfl⟩⟩))
     go_ret
     exact ⟨by first | rfl | (simp [errW_none, errW_some] <;> rfl) | (simp [*, errW_none, errW_some] <;> rfl), r0_ HB.out GE211.out⟩
   ·replace c7 := Bool.eq_false_iff.mpr c7
    subst c7
    replace H : (some false) = some r := by rw [if_neg (show ¬ (false = true) by decide)] at H; exact H
    obtain rfl := Option.some.inj H
    go_enter Try.func164, Try.ntmps164
    go_wp2_with (first | ((with_reducible refine gate_dst (N := 1) rfl ?_); refine box_event ?hg (N := 1) ?hd (cs := #[.string a0_0, .int .i64 a0_1, .int .i64 a0_2, .int .i64 a0_3, .int .i64 a0_4, .int .i64 a0_5, .int .i64 a0_6, .int .i64 a0_7, .int .i64 a0_8]) (t := 130) ?hr ?_; (case hd => rfl); (case hg => rfl); (case hr => first | (go_simp; done) | (go_simp; rfl)); intro gb211 hg w31 hbox hb; have BK211 := Aside0.mk (hbox); have GW211 := Aside0.mk ((by rw [hg]; exact (below_size (bl_ HB.out)) : w.heap.size ≤ gb211)); have GE211 := Aside0.mk ((by rw [hg]; exact (below_size (bl_ HB.out)) : w.heap.size ≤ gb211)); replace HB := Aside0.mk (below_step (bl_ HB.out) hb); clear hb hbox hg; have hcz32_0 : w31.cell? ⟨gb211, 0, none⟩ = some (.string a0_0) := (blk_cell BK211.out 0).trans rfl; have hcz32_1 : w31.cell? ⟨gb211, 1, none⟩ = some (.int .i64 a0_1) := (blk_cell BK211.out 1).trans rfl; have hcz32_2 : w31.cell? ⟨gb211, 2, none⟩ = some (.int .i64 a0_2) := (blk_cell BK211.out 2).trans rfl; have hcz32_3 : w31.cell? ⟨gb211, 3, none⟩ = some (.int .i64 a0_3) := (blk_cell BK211.out 3).trans rfl; have hcz32_4 : w31.cell? ⟨gb211, 4, none⟩ = some (.int .i64 a0_4) := (blk_cell BK211.out 4).trans rfl; have hcz32_5 : w31.cell? ⟨gb211, 5, none⟩ = some (.int .i64 a0_5) := (blk_cell BK211.out 5).trans rfl; have hcz32_6 : w31.cell? ⟨gb211, 6, none⟩ = some (.int .i64 a0_6) := (blk_cell BK211.out 6).trans rfl; have hcz32_7 : w31.cell? ⟨gb211, 7, none⟩ = some (.int .i64 a0_7) := (blk_cell BK211.out 7).trans rfl; have hcz32_8 : w31.cell? ⟨gb211, 8, none⟩ = some (.int .i64 a0_8) := (blk_cell BK211.out 8).trans rfl; have hfz32_0 := blk_frozen BK211.out 0; have hfz32_1 := blk_frozen BK211.out 1; have hfz32_2 := blk_frozen BK211.out 2; have hfz32_3 := blk_frozen BK211.out 3; have hfz32_4 := blk_frozen BK211.out 4; have hfz32_5 := blk_frozen BK211.out 5; have hfz32_6 := blk_frozen BK211.out 6; have hfz32_7 := blk_frozen BK211.out 7; have hfz32_8 := blk_frozen BK211.out 8) | ((with_reducible refine gate_callee (f := 168) rfl ?_); refine goesL_ (some 5) rfl rfl Try.func168 (by kernel_rfl) rfl #[.string a0_0] rfl ag_ ?_; (with_reducible refine (impl_IsWord.calls k a0_0 true _ A2.out).mono ?_); rintro e w' ⟨rfl, ⟨nd, rfl⟩⟩; refine ⟨_, rfl, ?_⟩) | (go_at_call 78; (with_reducible refine (impl_within.calls a0_1 0 3 true _ A4.out).mono ?_); rintro e w' ⟨rfl, ⟨nd, rfl⟩⟩) | (go_at_call 78; (with_reducible refine (impl_within.calls a0_2 20 300 false _ A6.out).mono ?_); rintro e w' ⟨rfl, ⟨nd, rfl⟩⟩))
    go_ret
    exact ⟨by first | rfl | (simp [errW_none, errW_some] <;> rfl) | (simp [*, errW_none, errW_some] <;> rfl), r0_ HB.out GE211.out⟩
  ·replace c5 := Bool.eq_false_iff.mpr c5
   subst c5
   replace H : (some false) = some r := by rw [if_neg (show ¬ (false = true) by decide)] at H; exact H
   obtain rfl := Option.some.inj H
   go_enter Try.func164, Try.ntmps164
   go_wp2_with (first | ((with_reducible refine gate_dst (N := 1) rfl ?_); refine box_event ?hg (N := 1) ?hd (cs := #[.string a0_0, .int .i64 a0_1, .int .i64 a0_2, .int .i64 a0_3, .int .i64 a0_4, .int .i64 a0_5, .int .i64 a0_6, .int .i64 a0_7, .int .i64 a0_8]) (t := 130) ?hr ?_; (case hd => rfl); (case hg => rfl); (case hr => first | (go_simp; done) | (go_simp; rfl)); intro gb211 hg w33 hbox hb; have BK211 := Aside0.mk (hbox); have GW211 := Aside0.mk ((by rw [hg]; exact (below_size (bl_ HB.out)) : w.heap.size ≤ gb211)); have GE211 := Aside0.mk ((by rw [hg]; exact (below_size (bl_ HB.out)) : w.heap.size ≤ gb211)); replace HB := Aside0.mk (below_step (bl_ HB.out) hb); clear hb hbox hg; have hcz34_0 : w33.cell? ⟨gb211, 0, none⟩ = some (.string a0_0) := (blk_cell BK211.out 0).trans rfl; have hcz34_1 : w33.cell? ⟨gb211, 1, none⟩ = some (.int .i64 a0_1) := (blk_cell BK211.out 1).trans rfl; have hcz34_2 : w33.cell? ⟨gb211, 2, none⟩ = some (.int .i64 a0_2) := (blk_cell BK211.out 2).trans rfl; have hcz34_3 : w33.cell? ⟨gb211, 3, none⟩ = some (.int .i64 a0_3) := (blk_cell BK211.out 3).trans rfl; have hcz34_4 : w33.cell? ⟨gb211, 4, none⟩ = some (.int .i64 a0_4) := (blk_cell BK211.out 4).trans rfl; have hcz34_5 : w33.cell? ⟨gb211, 5, none⟩ = some (.int .i64 a0_5) := (blk_cell BK211.out 5).trans rfl; have hcz34_6 : w33.cell? ⟨gb211, 6, none⟩ = some (.int .i64 a0_6) := (blk_cell BK211.out 6).trans rfl; have hcz34_7 : w33.cell? ⟨gb211, 7, none⟩ = some (.int .i64 a0_7) := (blk_cell BK211.out 7).trans rfl; have hcz34_8 : w33.cell? ⟨gb211, 8, none⟩ = some (.int .i64 a0_8) := (blk_cell BK211.out 8).trans rfl; have hfz34_0 := blk_frozen BK211.out 0; have hfz34_1 := blk_frozen BK211.out 1; have hfz34_2 := blk_frozen BK211.out 2; have hfz34_3 := blk_frozen BK211.out 3; have hfz34_4 := blk_frozen BK211.out 4; have hfz34_5 := blk_frozen BK211.out 5; have hfz34_6 := blk_frozen BK211.out 6; have hfz34_7 := blk_frozen BK211.out 7; have hfz34_8 := blk_frozen BK211.out 8) | ((with_reducible refine gate_callee (f := 168) rfl ?_); refine goesL_ (some 5) rfl rfl Try.func168 (by kernel_rfl) rfl #[.string a0_0] rfl ag_ ?_; (with_reducible refine (impl_IsWord.calls k a0_0 true _ A2.out).mono ?_); rintro e w' ⟨rfl, ⟨nd, rfl⟩⟩; refine ⟨_, rfl, ?_⟩) | (go_at_call 78; (with_reducible refine (impl_within.calls a0_1 0 3 false _ A4.out).mono ?_); rintro e w' ⟨rfl, ⟨nd, rfl⟩⟩))
   go_ret
   exact ⟨by first | rfl | (simp [errW_none, errW_some] <;> rfl) | (simp [*, errW_none, errW_some] <;> rfl), r0_ HB.out GE211.out⟩
 ·replace c3 := Bool.eq_false_iff.mpr c3
  subst c3
  replace H : (some false) = some r := by rw [if_neg (show ¬ (false = true) by decide)] at H; exact H
  obtain rfl := Option.some.inj H
  go_enter Try.func164, Try.ntmps164
  go_wp2_with (first | ((with_reducible refine gate_dst (N := 1) rfl ?_); refine box_event ?hg (N := 1) ?hd (cs := #[.string a0_0, .int .i64 a0_1, .int .i64 a0_2, .int .i64 a0_3, .int .i64 a0_4, .int .i64 a0_5, .int .i64 a0_6, .int .i64 a0_7, .int .i64 a0_8]) (t := 130) ?hr ?_; (case hd => rfl); (case hg => rfl); (case hr => first | (go_simp; done) | (go_simp; rfl)); intro gb211 hg w35 hbox hb; have BK211 := Aside0.mk (hbox); have GW211 := Aside0.mk ((by rw [hg]; exact (below_size (bl_ HB.out)) : w.heap.size ≤ gb211)); have GE211 := Aside0.mk ((by rw [hg]; exact (below_size (bl_ HB.out)) : w.heap.size ≤ gb211)); replace HB := Aside0.mk (below_step (bl_ HB.out) hb); clear hb hbox hg; have hcz36_0 : w35.cell? ⟨gb211, 0, none⟩ = some (.string a0_0) := (blk_cell BK211.out 0).trans rfl; have hcz36_1 : w35.cell? ⟨gb211, 1, none⟩ = some (.int .i64 a0_1) := (blk_cell BK211.out 1).trans rfl; have hcz36_2 : w35.cell? ⟨gb211, 2, none⟩ = some (.int .i64 a0_2) := (blk_cell BK211.out 2).trans rfl; have hcz36_3 : w35.cell? ⟨gb211, 3, none⟩ = some (.int .i64 a0_3) := (blk_cell BK211.out 3).trans rfl; have hcz36_4 : w35.cell? ⟨gb211, 4, none⟩ = some (.int .i64 a0_4) := (blk_cell BK211.out 4).trans rfl; have hcz36_5 : w35.cell? ⟨gb211, 5, none⟩ = some (.int .i64 a0_5) := (blk_cell BK211.out 5).trans rfl; have hcz36_6 : w35.cell? ⟨gb211, 6, none⟩ = some (.int .i64 a0_6) := (blk_cell BK211.out 6).trans rfl; have hcz36_7 : w35.cell? ⟨gb211, 7, none⟩ = some (.int .i64 a0_7) := (blk_cell BK211.out 7).trans rfl; have hcz36_8 : w35.cell? ⟨gb211, 8, none⟩ = some (.int .i64 a0_8) := (blk_cell BK211.out 8).trans rfl; have hfz36_0 := blk_frozen BK211.out 0; have hfz36_1 := blk_frozen BK211.out 1; have hfz36_2 := blk_frozen BK211.out 2; have hfz36_3 := blk_frozen BK211.out 3; have hfz36_4 := blk_frozen BK211.out 4; have hfz36_5 := blk_frozen BK211.out 5; have hfz36_6 := blk_frozen BK211.out 6; have hfz36_7 := blk_frozen BK211.out 7; have hfz36_8 := blk_frozen BK211.out 8) | ((with_reducible refine gate_callee (f := 168) rfl ?_); refine goesL_ (some 5) rfl rfl Try.func168 (by kernel_rfl) rfl #[.string a0_0] rfl ag_ ?_; (with_reducible refine (impl_IsWord.calls k a0_0 false _ A2.out).mono ?_); rintro e w' ⟨rfl, ⟨nd, rfl⟩⟩; refine ⟨_, rfl, ?_⟩))
  go_ret
  exact ⟨by first | rfl | (simp [errW_none, errW_some] <;> rfl) | (simp [*, errW_none, errW_some] <;> rfl), r0_ HB.out GE211.out⟩
def impl_AreArticles.l0 : Nat → List (S130) → List (S130) → Int → Int → Option (Bool)
 | 0, _, _, _, _ => none
 | k + 1, x0, x8, x9, x10 => if x10 < x9 then (if 0 ≤ x10 then (if x10 < (x8.length : Int) then ((impl_IsArticle.f k ((rd_T130 x8 x10).f0) ((rd_T130 x8 x10).f1) ((rd_T130 x8 x10).f2) ((rd_T130 x8 x10).f3) ((rd_T130 x8 x10).f4) ((rd_T130 x8 x10).f5) ((rd_T130 x8 x10).f6) ((rd_T130 x8 x10).f7) ((rd_T130 x8 x10).f8)).bind fun t223 => (if t223 = true then (if x10 > 0 then (if 0 ≤ (wrap64 (x10 - 1)) then (if (wrap64 (x10 - 1)) < (x0.length : Int) then (if ((Op.bytesLess (((rd_T130 x0 (wrap64 (x10 - 1))).f0).toList) (((rd_T130 x8 x10).f0).toList)) = true) then (impl_AreArticles.l0 k x0 x8 x9 (wrap64 (x10 + 1))) else (some false)) else (none)) else (none)) else (impl_AreArticles.l0 k x0 x8 x9 (wrap64 (x10 + 1)))) else (some false))) else (none)) else (none)) else (some true)
def impl_AreArticles.f (k : Nat) (l0 : List (S130)) : Option (Bool) := if (l0.length : Int) > 12 then (some false) else (impl_AreArticles.l0 k l0 l0 (l0.length : Int) 0)
def impl_AreArticles.T6 : Bool × List (List Nat × List Nat) := (true, [([], []), ([0], [0]), ([1], [1]), ([2, 1], [2]), ([3], [3]), ([4, 3], [3, 4]), ([5, 3, 3], [3, 5]), ([6], [6]), ([6], [6]), ([8, 6], [6, 8]), ([7, 9, 6], [6, 7, 9]), ([10, 6], [6, 10]), ([11, 6], [6, 11]), ([6], [6]), ([13, 6], [6, 13]), ([12, 14, 6], [6, 12, 14]), ([6, 15, 3], [3, 6, 15]), ([3, 16], [3, 16])])
def impl_AreArticles.B6 : List Nat := [0, 1, 3, 7, 15, 31, 63, 127, 127, 383, 1023, 2047, 4095, 127, 8319, 32767, 65535, 131071]
theorem impl_AreArticles.tab6 : rtab .any (opsOf Try.f143 6) = impl_AreArticles.T6 := by kernel_rfl
theorem impl_AreArticles.bits6 : waitsOk impl_AreArticles.T6.2 impl_AreArticles.B6 = true := by kernel_rfl
set_option maxHeartbeats 8000000 in
set_option maxRecDepth 100000 in
theorem impl_AreArticles.calls (k : Nat) (A0 : Option Addr) (c0 : Nat) (l0 : List (S130)) (r : Bool) (w : World) (hr0 : Kd.C k130 w A0 l0.length l0) (hc0 : l0.length ≤ c0) (h : impl_AreArticles.f k l0 = some r) :
  Calls Try.prog 143 #[.slice A0 l0.length c0] w fun e w' => e = .returned (.bool r) ∧ Below w.heap.size w w' := by
 have hu130 := Try.underlying130
 have HR0 := Aside0.mk hr0
 have HC0 := Aside0.mk hc0
 clear hr0 hc0
 have HB := Aside0.mk (Below.refl w.heap.size w)
 have H : (if (l0.length : Int) > 12 then (some false) else (impl_AreArticles.l0 k l0 l0 (l0.length : Int) 0)) = some r := h
 clear h
 by_cases c2 : (l0.length : Int) > 12
 ·rw [if_pos c2] at H
  have c2b0 : decide (12 < (l0.length : Int)) = true := decide_eq_true c2
  have c2b1 : decide (12 < l0.length) = true := decide_eq_true (by omega)
  clear c2
  obtain rfl := Option.some.inj H
  go_enter Try.func143, Try.ntmps143
  go_wp2
  go_ret
  exact ⟨by first | rfl | (simp [errW_none, errW_some] <;> rfl) | (simp [*, errW_none, errW_some] <;> rfl), bl_ HB.out⟩
 ·rw [if_neg c2] at H
  have c2b0 : decide (12 < (l0.length : Int)) = false := decide_eq_false c2
  have c2b1 : decide (12 < l0.length) = false := decide_eq_false (by omega)
  clear c2
  have H' := Aside0.mk H
  clear H
  go_enter Try.func143, Try.ntmps143
  go_wp2
  go_loopg [10] k (fun kq v10 w' => ∃ (x10_1 : Int), v10 = .int .i64 x10_1 ∧ Aside0 (impl_AreArticles.l0 kq l0 l0 (l0.length : Int) x10_1 = some r) ∧ Aside0 (kq ≤ k) ∧ Aside0 (Below w.heap.size w w'))
  case atStart => exact ⟨(0), (by first | rfl | (simp; done) | (simp [*]; done)), H', ⟨Nat.le_refl _⟩, ⟨bl_ HB.out⟩⟩
  case round =>
   clear H'
   try clear c1
   try clear c2
   try clear c2b0
   try clear c2b1
   try clear p2
   obtain ⟨x10_1, rfl, HA, HK1, HB⟩ := hrel
   cases gk with
   | zero => exact absurd HA.out (by simp [impl_AreArticles.l0])
   | succ k1 =>
    have H := HA.out
    clear HA
    simp only [impl_AreArticles.l0] at H
    by_cases c3 : x10_1 < (l0.length : Int)
    ·rw [if_pos c3] at H
     have c3b0 : decide (x10_1 < (l0.length : Int)) = true := decide_eq_true c3
     clear c3
     by_cases c4 : 0 ≤ x10_1
     case neg =>
      rw [if_neg c4] at H
      exact absurd H (by simp)
     rw [if_pos c4] at H
     have c4b0 : decide (0 ≤ x10_1) = true := decide_eq_true c4
     clear c4
     by_cases c5 : x10_1 < (l0.length : Int)
     case neg =>
      rw [if_neg c5] at H
      exact absurd H (by simp)
     rw [if_pos c5] at H
     have c5b0 : decide (x10_1 < (l0.length : Int)) = true := decide_eq_true c5
     clear c5
     replace H := Option.bind_eq_some_iff.mp H
     obtain ⟨t223, A60, H⟩ := H
     replace H : (if t223 = true then (if x10_1 > 0 then (if 0 ≤ (wrap64 (x10_1 - 1)) then (if (wrap64 (x10_1 - 1)) < (l0.length : Int) then (if ((Op.bytesLess (((rd_T130 l0 (wrap64 (x10_1 - 1))).f0).toList) (((rd_T130 l0 x10_1).f0).toList)) = true) then (impl_AreArticles.l0 k1 l0 l0 (l0.length : Int) (wrap64 (x10_1 + 1))) else (some false)) else (none)) else (none)) else (impl_AreArticles.l0 k1 l0 l0 (l0.length : Int) (wrap64 (x10_1 + 1)))) else (some false)) = some r := H
     have A6 := Aside0.mk A60
     clear A60
     by_cases c7 : t223 = true
     ·subst c7
      replace H : (if x10_1 > 0 then (if 0 ≤ (wrap64 (x10_1 - 1)) then (if (wrap64 (x10_1 - 1)) < (l0.length : Int) then (if ((Op.bytesLess (((rd_T130 l0 (wrap64 (x10_1 - 1))).f0).toList) (((rd_T130 l0 x10_1).f0).toList)) = true) then (impl_AreArticles.l0 k1 l0 l0 (l0.length : Int) (wrap64 (x10_1 + 1))) else (some false)) else (none)) else (none)) else (impl_AreArticles.l0 k1 l0 l0 (l0.length : Int) (wrap64 (x10_1 + 1)))) = some r := by rw [if_pos rfl] at H; exact H
      by_cases c8 : x10_1 > 0
      ·rw [if_pos c8] at H
       have c8b0 : decide (0 < x10_1) = true := decide_eq_true c8
       clear c8
       obtain ⟨ji9, hji9⟩ : ∃ j_ : Int, (wrap64 (x10_1 - 1)) = j_ := ⟨_, rfl⟩
       replace H : (if 0 ≤ (ji9) then (if (ji9) < (l0.length : Int) then (if ((Op.bytesLess (((rd_T130 l0 (ji9)).f0).toList) (((rd_T130 l0 x10_1).f0).toList)) = true) then (impl_AreArticles.l0 k1 l0 l0 (l0.length : Int) (wrap64 (x10_1 + 1))) else (some false)) else (none)) else (none)) = some r := by first | (rw [hji9] at H; exact H) | (simp only [hji9] at H ⊢; exact H)
       (try rw [hji9] at A6)
       have hji9w : (IntKind.i64.wrap (x10_1 - 1)) = ji9 := (i64_w _).trans hji9
       by_cases c10 : 0 ≤ (ji9)
       case neg =>
        rw [if_neg c10] at H
        exact absurd H (by simp)
       rw [if_pos c10] at H
       have c10b0 : decide (0 ≤ (ji9)) = true := decide_eq_true c10
       clear c10
       by_cases c11 : (ji9) < (l0.length : Int)
       case neg =>
        rw [if_neg c11] at H
        exact absurd H (by simp)
       rw [if_pos c11] at H
       have c11b0 : decide ((ji9) < (l0.length : Int)) = true := decide_eq_true c11
       clear c11
       by_cases c12 : ((Op.bytesLess (((rd_T130 l0 (ji9)).f0).toList) (((rd_T130 l0 x10_1).f0).toList)) = true)
       ·rw [if_pos c12] at H
        have c12b0 : (Op.bytesLess (((rd_T130 l0 (ji9)).f0).toList) (((rd_T130 l0 x10_1).f0).toList)) = true := c12
        clear c12
        have H' := Aside0.mk H
        clear H
        have p221 : 0 ≤ (x10_1 : Int) := od_
        have q221 : x10_1 < (l0.length : Int) := od_
        obtain ⟨ad221, e221, hx221_0, hx221_1, hx221_2, hx221_3, hx221_4, hx221_5, hx221_6, hx221_7, hx221_8⟩ := at_T130 HR0.out x10_1 p221 q221
        cases e221
        replace hx221_0 := bc_ HB.out hx221_0
        replace hx221_1 := bc_ HB.out hx221_1
        replace hx221_2 := bc_ HB.out hx221_2
        replace hx221_3 := bc_ HB.out hx221_3
        replace hx221_4 := bc_ HB.out hx221_4
        replace hx221_5 := bc_ HB.out hx221_5
        replace hx221_6 := bc_ HB.out hx221_6
        replace hx221_7 := bc_ HB.out hx221_7
        replace hx221_8 := bc_ HB.out hx221_8
        replace p221 := eq_true p221
        replace q221 := eq_true q221
        try go_wp2_with (first | ((with_reducible refine gate_dst (N := 4) rfl ?_); refine box_event ?hg (N := 4) ?hd (cs := #[.string (⟨#[]⟩ : ByteArray), .int .i64 0, .int .i64 0, .int .i64 0, .int .i64 0, .int .i64 0, .int .i64 0, .int .i64 0, .int .i64 0]) (t := 130) ?hr ?_; (case hd => rfl); (case hg => rfl); (case hr => first | (go_simp; done) | (go_simp; rfl)); intro gb222 hg w13 hbox hb; have BK222 := Aside0.mk (hbox); have GW222 := Aside0.mk ((by rw [hg]; exact (below_size (bl_ HB.out)) : w.heap.size ≤ gb222)); have GE222 := Aside0.mk ((by rw [hg]; exact (below_size (bl_ HB.out)) : w.heap.size ≤ gb222)); replace HB := Aside0.mk (below_step (bl_ HB.out) hb); clear hb hbox hg; have hcz14_0 : w13.cell? ⟨gb222, 0, none⟩ = some (.string (⟨#[]⟩ : ByteArray)) := (blk_cell BK222.out 0).trans rfl; have hcz14_1 : w13.cell? ⟨gb222, 1, none⟩ = some (.int .i64 0) := (blk_cell BK222.out 1).trans rfl; have hcz14_2 : w13.cell? ⟨gb222, 2, none⟩ = some (.int .i64 0) := (blk_cell BK222.out 2).trans rfl; have hcz14_3 : w13.cell? ⟨gb222, 3, none⟩ = some (.int .i64 0) := (blk_cell BK222.out 3).trans rfl; have hcz14_4 : w13.cell? ⟨gb222, 4, none⟩ = some (.int .i64 0) := (blk_cell BK222.out 4).trans rfl; have hcz14_5 : w13.cell? ⟨gb222, 5, none⟩ = some (.int .i64 0) := (blk_cell BK222.out 5).trans rfl; have hcz14_6 : w13.cell? ⟨gb222, 6, none⟩ = some (.int .i64 0) := (blk_cell BK222.out 6).trans rfl; have hcz14_7 : w13.cell? ⟨gb222, 7, none⟩ = some (.int .i64 0) := (blk_cell BK222.out 7).trans rfl; have hcz14_8 : w13.cell? ⟨gb222, 8, none⟩ = some (.int .i64 0) := (blk_cell BK222.out 8).trans rfl; have hfz14_0 := blk_frozen BK222.out 0; have hfz14_1 := blk_frozen BK222.out 1; have hfz14_2 := blk_frozen BK222.out 2; have hfz14_3 := blk_frozen BK222.out 3; have hfz14_4 := blk_frozen BK222.out 4; have hfz14_5 := blk_frozen BK222.out 5; have hfz14_6 := blk_frozen BK222.out 6; have hfz14_7 := blk_frozen BK222.out 7; have hfz14_8 := blk_frozen BK222.out 8))
        have n0_ : Aside0 ((((((((((w13.setCell ⟨gb222, 0, none⟩ (.string ((rd_T130 l0 x10_1).f0))).setCell ⟨gb222, 1, none⟩ (.int .i64 ((rd_T130 l0 x10_1).f1))).setCell ⟨gb222, 2, none⟩ (.int .i64 ((rd_T130 l0 x10_1).f2))).setCell ⟨gb222, 3, none⟩ (.int .i64 ((rd_T130 l0 x10_1).f3))).setCell ⟨gb222, 4, none⟩ (.int .i64 ((rd_T130 l0 x10_1).f4))).setCell ⟨gb222, 5, none⟩ (.int .i64 ((rd_T130 l0 x10_1).f5))).setCell ⟨gb222, 6, none⟩ (.int .i64 ((rd_T130 l0 x10_1).f6))).setCell ⟨gb222, 7, none⟩ (.int .i64 ((rd_T130 l0 x10_1).f7))).setCell ⟨gb222, 8, none⟩ (.int .i64 ((rd_T130 l0 x10_1).f8))).heap[gb222]? = some (.cells #[.string ((rd_T130 l0 x10_1).f0), .int .i64 ((rd_T130 l0 x10_1).f1), .int .i64 ((rd_T130 l0 x10_1).f2), .int .i64 ((rd_T130 l0 x10_1).f3), .int .i64 ((rd_T130 l0 x10_1).f4), .int .i64 ((rd_T130 l0 x10_1).f5), .int .i64 ((rd_T130 l0 x10_1).f6), .int .i64 ((rd_T130 l0 x10_1).f7), .int .i64 ((rd_T130 l0 x10_1).f8)] 130 (0, 0))) := ⟨by (with_reducible repeat (first | refine blk_drewN ?_ _ | refine blk_drew ?_ | refine blk_alloc ?_ _)); refine blk_put (cs := #[.string ((rd_T130 l0 x10_1).f0), .int .i64 ((rd_T130 l0 x10_1).f1), .int .i64 ((rd_T130 l0 x10_1).f2), .int .i64 ((rd_T130 l0 x10_1).f3), .int .i64 ((rd_T130 l0 x10_1).f4), .int .i64 ((rd_T130 l0 x10_1).f5), .int .i64 ((rd_T130 l0 x10_1).f6), .int .i64 ((rd_T130 l0 x10_1).f7), .int .i64 0]) ?_ 8 _ rfl; (with_reducible repeat (first | refine blk_drewN ?_ _ | refine blk_drew ?_ | refine blk_alloc ?_ _)); refine blk_put (cs := #[.string ((rd_T130 l0 x10_1).f0), .int .i64 ((rd_T130 l0 x10_1).f1), .int .i64 ((rd_T130 l0 x10_1).f2), .int .i64 ((rd_T130 l0 x10_1).f3), .int .i64 ((rd_T130 l0 x10_1).f4), .int .i64 ((rd_T130 l0 x10_1).f5), .int .i64 ((rd_T130 l0 x10_1).f6), .int .i64 0, .int .i64 0]) ?_ 7 _ rfl; (with_reducible repeat (first | refine blk_drewN ?_ _ | refine blk_drew ?_ | refine blk_alloc ?_ _)); refine blk_put (cs := #[.string ((rd_T130 l0 x10_1).f0), .int .i64 ((rd_T130 l0 x10_1).f1), .int .i64 ((rd_T130 l0 x10_1).f2), .int .i64 ((rd_T130 l0 x10_1).f3), .int .i64 ((rd_T130 l0 x10_1).f4), .int .i64 ((rd_T130 l0 x10_1).f5), .int .i64 0, .int .i64 0, .int .i64 0]) ?_ 6 _ rfl; (with_reducible repeat (first | refine blk_drewN ?_ _ | refine blk_drew ?_ | refine blk_alloc ?_ _)); refine blk_put (cs := #[.string ((rd_T130 l0 x10_1).f0), .int .i64 ((rd_T130 l0 x10_1).f1), .int .i64 ((rd_T130 l0 x10_1).f2), .int .i64 ((rd_T130 l0 x10_1).f3), .int .i64 ((rd_T130 l0 x10_1).f4), .int .i64 0, .int .i64 0, .int .i64 0, .int .i64 0]) ?_ 5 _ rfl; (with_reducible repeat (first | refine blk_drewN ?_ _ | refine blk_drew ?_ | refine blk_alloc ?_ _)); refine blk_put (cs := #[.string ((rd_T130 l0 x10_1).f0), .int .i64 ((rd_T130 l0 x10_1).f1), .int .i64 ((rd_T130 l0 x10_1).f2), .int .i64 ((rd_T130 l0 x10_1).f3), .int .i64 0, .int .i64 0, .int .i64 0, .int .i64 0, .int .i64 0]) ?_ 4 _ rfl; (with_reducible repeat (first | refine blk_drewN ?_ _ | refine blk_drew ?_ | refine blk_alloc ?_ _)); refine blk_put (cs := #[.string ((rd_T130 l0 x10_1).f0), .int .i64 ((rd_T130 l0 x10_1).f1), .int .i64 ((rd_T130 l0 x10_1).f2), .int .i64 0, .int .i64 0, .int .i64 0, .int .i64 0, .int .i64 0, .int .i64 0]) ?_ 3 _ rfl; (with_reducible repeat (first | refine blk_drewN ?_ _ | refine blk_drew ?_ | refine blk_alloc ?_ _)); refine blk_put (cs := #[.string ((rd_T130 l0 x10_1).f0), .int .i64 ((rd_T130 l0 x10_1).f1), .int .i64 0, .int .i64 0, .int .i64 0, .int .i64 0, .int .i64 0, .int .i64 0, .int .i64 0]) ?_ 2 _ rfl; (with_reducible repeat (first | refine blk_drewN ?_ _ | refine blk_drew ?_ | refine blk_alloc ?_ _)); refine blk_put (cs := #[.string ((rd_T130 l0 x10_1).f0), .int .i64 0, .int .i64 0, .int .i64 0, .int .i64 0, .int .i64 0, .int .i64 0, .int .i64 0, .int .i64 0]) ?_ 1 _ rfl; (with_reducible repeat (first | refine blk_drewN ?_ _ | refine blk_drew ?_ | refine blk_alloc ?_ _)); refine blk_put (cs := #[.string (⟨#[]⟩ : ByteArray), .int .i64 0, .int .i64 0, .int .i64 0, .int .i64 0, .int .i64 0, .int .i64 0, .int .i64 0, .int .i64 0]) ?_ 0 _ rfl; (with_reducible repeat (first | refine blk_drewN ?_ _ | refine blk_drew ?_ | refine blk_alloc ?_ _)); exact BK222.out⟩
        have n1_ : Aside0 (Below w.heap.size w (((((((((w13.setCell ⟨gb222, 0, none⟩ (.string ((rd_T130 l0 x10_1).f0))).setCell ⟨gb222, 1, none⟩ (.int .i64 ((rd_T130 l0 x10_1).f1))).setCell ⟨gb222, 2, none⟩ (.int .i64 ((rd_T130 l0 x10_1).f2))).setCell ⟨gb222, 3, none⟩ (.int .i64 ((rd_T130 l0 x10_1).f3))).setCell ⟨gb222, 4, none⟩ (.int .i64 ((rd_T130 l0 x10_1).f4))).setCell ⟨gb222, 5, none⟩ (.int .i64 ((rd_T130 l0 x10_1).f5))).setCell ⟨gb222, 6, none⟩ (.int .i64 ((rd_T130 l0 x10_1).f6))).setCell ⟨gb222, 7, none⟩ (.int .i64 ((rd_T130 l0 x10_1).f7))).setCell ⟨gb222, 8, none⟩ (.int .i64 ((rd_T130 l0 x10_1).f8)))) := ⟨r0_ HB.out GE222.out⟩
        (try clear BK222)
        (try clear HB)
        generalize (((((((((w13.setCell ⟨gb222, 0, none⟩ (.string ((rd_T130 l0 x10_1).f0))).setCell ⟨gb222, 1, none⟩ (.int .i64 ((rd_T130 l0 x10_1).f1))).setCell ⟨gb222, 2, none⟩ (.int .i64 ((rd_T130 l0 x10_1).f2))).setCell ⟨gb222, 3, none⟩ (.int .i64 ((rd_T130 l0 x10_1).f3))).setCell ⟨gb222, 4, none⟩ (.int .i64 ((rd_T130 l0 x10_1).f4))).setCell ⟨gb222, 5, none⟩ (.int .i64 ((rd_T130 l0 x10_1).f5))).setCell ⟨gb222, 6, none⟩ (.int .i64 ((rd_T130 l0 x10_1).f6))).setCell ⟨gb222, 7, none⟩ (.int .i64 ((rd_T130 l0 x10_1).f7))).setCell ⟨gb222, 8, none⟩ (.int .i64 ((rd_T130 l0 x10_1).f8))) = w15 at n0_ n1_ ⊢
        have BK222 := n0_
        have HB := n1_
        clear n0_ n1_
        replace BK222 := Aside0.mk (blk_drew BK222.out)
        replace HB := Aside0.mk (below_drew1 HB.out)
        have p224 : 0 ≤ ((ji9) : Int) := od_
        have q224 : (ji9) < (l0.length : Int) := od_
        obtain ⟨ad224, e224, hx224_0, hx224_1, hx224_2, hx224_3, hx224_4, hx224_5, hx224_6, hx224_7, hx224_8⟩ := at_T130 HR0.out (ji9) p224 q224
        have hw224_8 := hx224_8
        have hw224_7 := hx224_7
        have hw224_6 := hx224_6
        have hw224_5 := hx224_5
        have hw224_4 := hx224_4
        have hw224_3 := hx224_3
        have hw224_2 := hx224_2
        have hw224_1 := hx224_1
        have hw224_0 := hx224_0
        obtain rfl : ad221 = ad224 := (by injection e224)
        replace hx224_0 := bc_ HB.out hx224_0
        replace hx224_1 := bc_ HB.out hx224_1
        replace hx224_2 := bc_ HB.out hx224_2
        replace hx224_3 := bc_ HB.out hx224_3
        replace hx224_4 := bc_ HB.out hx224_4
        replace hx224_5 := bc_ HB.out hx224_5
        replace hx224_6 := bc_ HB.out hx224_6
        replace hx224_7 := bc_ HB.out hx224_7
        replace hx224_8 := bc_ HB.out hx224_8
        replace p224 := eq_true p224
        replace q224 := eq_true q224
        refine start_ (n := 18) (S := fun w' => w'.cell? ⟨gb222, 0, none⟩ = some (.string ((rd_T130 l0 x10_1).f0)) ∧ w'.cell? ⟨gb222, 1, none⟩ = some (.int .i64 ((rd_T130 l0 x10_1).f1)) ∧ w'.cell? ⟨gb222, 2, none⟩ = some (.int .i64 ((rd_T130 l0 x10_1).f2)) ∧ w'.cell? ⟨gb222, 3, none⟩ = some (.int .i64 ((rd_T130 l0 x10_1).f3)) ∧ w'.cell? ⟨gb222, 4, none⟩ = some (.int .i64 ((rd_T130 l0 x10_1).f4)) ∧ w'.cell? ⟨gb222, 5, none⟩ = some (.int .i64 ((rd_T130 l0 x10_1).f5)) ∧ w'.cell? ⟨gb222, 6, none⟩ = some (.int .i64 ((rd_T130 l0 x10_1).f6)) ∧ w'.cell? ⟨gb222, 7, none⟩ = some (.int .i64 ((rd_T130 l0 x10_1).f7)) ∧ w'.cell? ⟨gb222, 8, none⟩ = some (.int .i64 ((rd_T130 l0 x10_1).f8)) ∧ w'.cell? (ad221.add (((ji9)).toNat * 9)) = some (.string ((rd_T130 l0 (ji9)).f0)) ∧ w'.cell? ⟨(ad221.add (((ji9)).toNat * 9)).block, (ad221.add (((ji9)).toNat * 9)).off + 1, none⟩ = some (.int .i64 ((rd_T130 l0 (ji9)).f1)) ∧ w'.cell? ⟨(ad221.add (((ji9)).toNat * 9)).block, (ad221.add (((ji9)).toNat * 9)).off + 2, none⟩ = some (.int .i64 ((rd_T130 l0 (ji9)).f2)) ∧ w'.cell? ⟨(ad221.add (((ji9)).toNat * 9)).block, (ad221.add (((ji9)).toNat * 9)).off + 3, none⟩ = some (.int .i64 ((rd_T130 l0 (ji9)).f3)) ∧ w'.cell? ⟨(ad221.add (((ji9)).toNat * 9)).block, (ad221.add (((ji9)).toNat * 9)).off + 4, none⟩ = some (.int .i64 ((rd_T130 l0 (ji9)).f4)) ∧ w'.cell? ⟨(ad221.add (((ji9)).toNat * 9)).block, (ad221.add (((ji9)).toNat * 9)).off + 5, none⟩ = some (.int .i64 ((rd_T130 l0 (ji9)).f5)) ∧ w'.cell? ⟨(ad221.add (((ji9)).toNat * 9)).block, (ad221.add (((ji9)).toNat * 9)).off + 6, none⟩ = some (.int .i64 ((rd_T130 l0 (ji9)).f6)) ∧ w'.cell? ⟨(ad221.add (((ji9)).toNat * 9)).block, (ad221.add (((ji9)).toNat * 9)).off + 7, none⟩ = some (.int .i64 ((rd_T130 l0 (ji9)).f7)) ∧ w'.cell? ⟨(ad221.add (((ji9)).toNat * 9)).block, (ad221.add (((ji9)).toNat * 9)).off + 8, none⟩ = some (.int .i64 ((rd_T130 l0 (ji9)).f8))) (ds := []) #[f_,f_,f_,f_,f_,f_,f_,f_,f_,f_,f_,f_,f_,f_,f_,f_,f_,f_] (by kernel_rfl) rfl rfl ⟨(blk_cell BK222.out 0).trans rfl, (blk_cell BK222.out 1).trans rfl, (blk_cell BK222.out 2).trans rfl, (blk_cell BK222.out 3).trans rfl, (blk_cell BK222.out 4).trans rfl, (blk_cell BK222.out 5).trans rfl, (blk_cell BK222.out 6).trans rfl, (blk_cell BK222.out 7).trans rfl, (blk_cell BK222.out 8).trans rfl, (bc_ HB.out hw224_0 :), (bc_ HB.out hw224_1 :), (bc_ HB.out hw224_2 :), (bc_ HB.out hw224_3 :), (bc_ HB.out hw224_4 :), (bc_ HB.out hw224_5 :), (bc_ HB.out hw224_6 :), (bc_ HB.out hw224_7 :), (bc_ HB.out hw224_8 :)⟩ (fun hHeld => ?_); refine with_tabW impl_AreArticles.tab6 impl_AreArticles.bits6 (fun HT_ HW_ => ?_)
        generalize w15.drew = w16 at BK222 HB hx224_0 hx224_1 hx224_2 hx224_3 hx224_4 hx224_5 hx224_6 hx224_7 hx224_8 hHeld ⊢
        refine take_ (i := 0) (N := some 15) (v := ?_) (a' := ?_) #[t_,f_,f_,f_,f_,f_,f_,f_,f_,f_,f_,f_,f_,f_,f_,f_,f_,f_] rfl rfl (take_ofW HT_.out HW_.out (by kernel_rfl)) (fun _ _ _ h => h) (Or.inl ⟨by rfl, ?_⟩) hHeld ?_ ?_
        rotate_left
        ·rintro w' ⟨s0, s1, s2, s3, s4, s5, s6, s7, s8, s9, s10, s11, s12, s13, s14, s15, s16, s17⟩
         go_simp
         with_reducible rfl
        rotate_left
        ·simp only [pz_]
         rfl
        refine one_ (i := 1) (N := some 16) #[t_,t_,f_,f_,f_,f_,f_,f_,f_,f_,f_,f_,f_,f_,f_,f_,f_,f_] rfl rfl (one_of HT_.out (by kernel_rfl)) (by decide) (fun K hK => ?_)
        refine goes_ Try.func164 (by kernel_rfl) rfl #[.agg #[.string ((rd_T130 l0 x10_1).f0), .int .i64 ((rd_T130 l0 x10_1).f1), .int .i64 ((rd_T130 l0 x10_1).f2), .int .i64 ((rd_T130 l0 x10_1).f3), .int .i64 ((rd_T130 l0 x10_1).f4), .int .i64 ((rd_T130 l0 x10_1).f5), .int .i64 ((rd_T130 l0 x10_1).f6), .int .i64 ((rd_T130 l0 x10_1).f7), .int .i64 ((rd_T130 l0 x10_1).f8)]] (by rfl) rfl rfl ag_ ?_
        with_reducible refine (impl_IsArticle.calls k1 ((rd_T130 l0 x10_1).f0) ((rd_T130 l0 x10_1).f1) ((rd_T130 l0 x10_1).f2) ((rd_T130 l0 x10_1).f3) ((rd_T130 l0 x10_1).f4) ((rd_T130 l0 x10_1).f5) ((rd_T130 l0 x10_1).f6) ((rd_T130 l0 x10_1).f7) ((rd_T130 l0 x10_1).f8) true _ A6.out).mono ?_
        rintro e w17 ⟨rfl, hb⟩
        refine ⟨_, rfl, ?_⟩
        replace BK222 := Aside0.mk (blk_below (g := gb222) (o := .cells #[.string ((rd_T130 l0 x10_1).f0), .int .i64 ((rd_T130 l0 x10_1).f1), .int .i64 ((rd_T130 l0 x10_1).f2), .int .i64 ((rd_T130 l0 x10_1).f3), .int .i64 ((rd_T130 l0 x10_1).f4), .int .i64 ((rd_T130 l0 x10_1).f5), .int .i64 ((rd_T130 l0 x10_1).f6), .int .i64 ((rd_T130 l0 x10_1).f7), .int .i64 ((rd_T130 l0 x10_1).f8)] 130 (0, 0)) (r1_ BK222.out) hb)
        replace HB := Aside0.mk (below_step (r0_ HB.out GE222.out) hb)
        (try clear hb)
        (try clear hb2)
        (try clear hk)
        (try clear hi)
        refine hK.out _ _ ⟨(blk_cell BK222.out 0).trans rfl, (blk_cell BK222.out 1).trans rfl, (blk_cell BK222.out 2).trans rfl, (blk_cell BK222.out 3).trans rfl, (blk_cell BK222.out 4).trans rfl, (blk_cell BK222.out 5).trans rfl, (blk_cell BK222.out 6).trans rfl, (blk_cell BK222.out 7).trans rfl, (blk_cell BK222.out 8).trans rfl, (bc_ HB.out hw224_0 :), (bc_ HB.out hw224_1 :), (bc_ HB.out hw224_2 :), (bc_ HB.out hw224_3 :), (bc_ HB.out hw224_4 :), (bc_ HB.out hw224_5 :), (bc_ HB.out hw224_6 :), (bc_ HB.out hw224_7 :), (bc_ HB.out hw224_8 :)⟩ (fun hHeld => ?_)
        clear hK K
        refine norm_ (a' := ?_) ?_ ?_
        rotate_left
        ·show Act.put _ (some 16) _ = _
         simp only [pz_]
         rfl
        refine pu_ 2 17 #[t_,t_,t_,f_,f_,f_,f_,f_,f_,f_,f_,f_,f_,f_,f_,f_,f_,f_] HT_.out ?_
        refine pu_ 3 18 #[t_,t_,t_,t_,f_,f_,f_,f_,f_,f_,f_,f_,f_,f_,f_,f_,f_,f_] HT_.out ?_
        refine pu_ 4 19 #[t_,t_,t_,t_,t_,f_,f_,f_,f_,f_,f_,f_,f_,f_,f_,f_,f_,f_] HT_.out ?_
        refine pu_ 5 20 #[t_,t_,t_,t_,t_,t_,f_,f_,f_,f_,f_,f_,f_,f_,f_,f_,f_,f_] HT_.out ?_
        refine pu_ 6 21 #[t_,t_,t_,t_,t_,t_,t_,f_,f_,f_,f_,f_,f_,f_,f_,f_,f_,f_] HT_.out ?_
        refine pu_ 7 22 #[t_,t_,t_,t_,t_,t_,t_,t_,f_,f_,f_,f_,f_,f_,f_,f_,f_,f_] HT_.out ?_
        refine pu_ 8 23 #[t_,t_,t_,t_,t_,t_,t_,t_,t_,f_,f_,f_,f_,f_,f_,f_,f_,f_] HT_.out ?_
        refine pu_ 9 24 #[t_,t_,t_,t_,t_,t_,t_,t_,t_,t_,f_,f_,f_,f_,f_,f_,f_,f_] HT_.out ?_
        refine pu_ 10 25 #[t_,t_,t_,t_,t_,t_,t_,t_,t_,t_,t_,f_,f_,f_,f_,f_,f_,f_] HT_.out ?_
        refine pu_ 11 26 #[t_,t_,t_,t_,t_,t_,t_,t_,t_,t_,t_,t_,f_,f_,f_,f_,f_,f_] HT_.out ?_
        refine pu_ 13 28 #[t_,t_,t_,t_,t_,t_,t_,t_,t_,t_,t_,t_,f_,t_,f_,f_,f_,f_] HT_.out ?_
        refine take_ (i := 12) (N := some 27) (v := ?_) (a' := ?_) #[t_,t_,t_,t_,t_,t_,t_,t_,t_,t_,t_,t_,t_,t_,f_,f_,f_,f_] rfl rfl (take_ofW HT_.out HW_.out (by kernel_rfl)) (fun _ _ _ h => h) (Or.inl ⟨by rfl, ?_⟩) hHeld ?_ ?_
        rotate_left
        ·rintro w' ⟨s0, s1, s2, s3, s4, s5, s6, s7, s8, s9, s10, s11, s12, s13, s14, s15, s16, s17⟩
         go_simp
         with_reducible rfl
        rotate_left
        ·simp only [pz_]
         rfl
        refine take_ (i := 14) (N := some 29) (v := ?_) (a' := ?_) #[t_,t_,t_,t_,t_,t_,t_,t_,t_,t_,t_,t_,t_,t_,t_,f_,f_,f_] rfl rfl (take_ofW HT_.out HW_.out (by kernel_rfl)) (fun _ _ _ h => h) (Or.inl ⟨by rfl, ?_⟩) hHeld ?_ ?_
        rotate_left
        ·rintro w' ⟨s0, s1, s2, s3, s4, s5, s6, s7, s8, s9, s10, s11, s12, s13, s14, s15, s16, s17⟩
         go_simp
         with_reducible rfl
        rotate_left
        ·simp only [pz_]
         rfl
        refine pu_ 15 30 #[t_,t_,t_,t_,t_,t_,t_,t_,t_,t_,t_,t_,t_,t_,t_,t_,f_,f_] HT_.out ?_
        refine pu_ 16 31 #[t_,t_,t_,t_,t_,t_,t_,t_,t_,t_,t_,t_,t_,t_,t_,t_,t_,f_] HT_.out ?_
        refine pu_ 17 32 #[t_,t_,t_,t_,t_,t_,t_,t_,t_,t_,t_,t_,t_,t_,t_,t_,t_,t_] HT_.out ?_
        refine done_ (done_of HT_.out (by kernel_rfl)) ?_
        try go_wp2
        go_roundg k1
        case measure => have := HK1.out; omega
        case rel => exact ⟨(wrap64 (x10_1 + 1)), (by first | rfl | (simp; done) | (simp [*]; done)), H', ⟨by have := HK1.out; omega⟩, ⟨r0_ HB.out GE222.out⟩⟩
       ·rw [if_neg c12] at H
        have c12b0 : (Op.bytesLess (((rd_T130 l0 (ji9)).f0).toList) (((rd_T130 l0 x10_1).f0).toList)) = false := by simpa using c12
        clear c12
        obtain rfl := Option.some.inj H
        have p221 : 0 ≤ (x10_1 : Int) := od_
        have q221 : x10_1 < (l0.length : Int) := od_
        obtain ⟨ad221, e221, hx221_0, hx221_1, hx221_2, hx221_3, hx221_4, hx221_5, hx221_6, hx221_7, hx221_8⟩ := at_T130 HR0.out x10_1 p221 q221
        cases e221
        replace hx221_0 := bc_ HB.out hx221_0
        replace hx221_1 := bc_ HB.out hx221_1
        replace hx221_2 := bc_ HB.out hx221_2
        replace hx221_3 := bc_ HB.out hx221_3
        replace hx221_4 := bc_ HB.out hx221_4
        replace hx221_5 := bc_ HB.out hx221_5
        replace hx221_6 := bc_ HB.out hx221_6
        replace hx221_7 := bc_ HB.out hx221_7
        replace hx221_8 := bc_ HB.out hx221_8
        replace p221 := eq_true p221
        replace q221 := eq_true q221
        try go_wp2_with (first | ((with_reducible refine gate_dst (N := 4) rfl ?_); refine box_event ?hg (N := 4) ?hd (cs := #[.string (⟨#[]⟩ : ByteArray), .int .i64 0, .int .i64 0, .int .i64 0, .int .i64 0, .int .i64 0, .int .i64 0, .int .i64 0, .int .i64 0]) (t := 130) ?hr ?_; (case hd => rfl); (case hg => rfl); (case hr => first | (go_simp; done) | (go_simp; rfl)); intro gb222 hg w18 hbox hb; have BK222 := Aside0.mk (hbox); have GW222 := Aside0.mk ((by rw [hg]; exact (below_size (bl_ HB.out)) : w.heap.size ≤ gb222)); have GE222 := Aside0.mk ((by rw [hg]; exact (below_size (bl_ HB.out)) : w.heap.size ≤ gb222)); replace HB := Aside0.mk (below_step (bl_ HB.out) hb); clear hb hbox hg; have hcz19_0 : w18.cell? ⟨gb222, 0, none⟩ = some (.string (⟨#[]⟩ : ByteArray)) := (blk_cell BK222.out 0).trans rfl; have hcz19_1 : w18.cell? ⟨gb222, 1, none⟩ = some (.int .i64 0) := (blk_cell BK222.out 1).trans rfl; have hcz19_2 : w18.cell? ⟨gb222, 2, none⟩ = some (.int .i64 0) := (blk_cell BK222.out 2).trans rfl; have hcz19_3 : w18.cell? ⟨gb222, 3, none⟩ = some (.int .i64 0) := (blk_cell BK222.out 3).trans rfl; have hcz19_4 : w18.cell? ⟨gb222, 4, none⟩ = some (.int .i64 0) := (blk_cell BK222.out 4).trans rfl; have hcz19_5 : w18.cell? ⟨gb222, 5, none⟩ = some (.int .i64 0) := (blk_cell BK222.out 5).trans rfl; have hcz19_6 : w18.cell? ⟨gb222, 6, none⟩ = some (.int .i64 0) := (blk_cell BK222.out 6).trans rfl; have hcz19_7 : w18.cell? ⟨gb222, 7, none⟩ = some (.int .i64 0) := (blk_cell BK222.out 7).trans rfl; have hcz19_8 : w18.cell? ⟨gb222, 8, none⟩ = some (.int .i64 0) := (blk_cell BK222.out 8).trans rfl; have hfz19_0 := blk_frozen BK222.out 0; have hfz19_1 := blk_frozen BK222.out 1; have hfz19_2 := blk_frozen BK222.out 2; have hfz19_3 := blk_frozen BK222.out 3; have hfz19_4 := blk_frozen BK222.out 4; have hfz19_5 := blk_frozen BK222.out 5; have hfz19_6 := blk_frozen BK222.out 6; have hfz19_7 := blk_frozen BK222.out 7; have hfz19_8 := blk_frozen BK222.out 8))
        have n0_ : Aside0 ((((((((((w18.setCell ⟨gb222, 0, none⟩ (.string ((rd_T130 l0 x10_1).f0))).setCell ⟨gb222, 1, none⟩ (.int .i64 ((rd_T130 l0 x10_1).f1))).setCell ⟨gb222, 2, none⟩ (.int .i64 ((rd_T130 l0 x10_1).f2))).setCell ⟨gb222, 3, none⟩ (.int .i64 ((rd_T130 l0 x10_1).f3))).setCell ⟨gb222, 4, none⟩ (.int .i64 ((rd_T130 l0 x10_1).f4))).setCell ⟨gb222, 5, none⟩ (.int .i64 ((rd_T130 l0 x10_1).f5))).setCell ⟨gb222, 6, none⟩ (.int .i64 ((rd_T130 l0 x10_1).f6))).setCell ⟨gb222, 7, none⟩ (.int .i64 ((rd_T130 l0 x10_1).f7))).setCell ⟨gb222, 8, none⟩ (.int .i64 ((rd_T130 l0 x10_1).f8))).heap[gb222]? = some (.cells #[.string ((rd_T130 l0 x10_1).f0), .int .i64 ((rd_T130 l0 x10_1).f1), .int .i64 ((rd_T130 l0 x10_1).f2), .int .i64 ((rd_T130 l0 x10_1).f3), .int .i64 ((rd_T130 l0 x10_1).f4), .int .i64 ((rd_T130 l0 x10_1).f5), .int .i64 ((rd_T130 l0 x10_1).f6), .int .i64 ((rd_T130 l0 x10_1).f7), .int .i64 ((rd_T130 l0 x10_1).f8)] 130 (0, 0))) := ⟨by (with_reducible repeat (first | refine blk_drewN ?_ _ | refine blk_drew ?_ | refine blk_alloc ?_ _)); refine blk_put (cs := #[.string ((rd_T130 l0 x10_1).f0), .int .i64 ((rd_T130 l0 x10_1).f1), .int .i64 ((rd_T130 l0 x10_1).f2), .int .i64 ((rd_T130 l0 x10_1).f3), .int .i64 ((rd_T130 l0 x10_1).f4), .int .i64 ((rd_T130 l0 x10_1).f5), .int .i64 ((rd_T130 l0 x10_1).f6), .int .i64 ((rd_T130 l0 x10_1).f7), .int .i64 0]) ?_ 8 _ rfl; (with_reducible repeat (first | refine blk_drewN ?_ _ | refine blk_drew ?_ | refine blk_alloc ?_ _)); refine blk_put (cs := #[.string ((rd_T130 l0 x10_1).f0), .int .i64 ((rd_T130 l0 x10_1).f1), .int .i64 ((rd_T130 l0 x10_1).f2), .int .i64 ((rd_T130 l0 x10_1).f3), .int .i64 ((rd_T130 l0 x10_1).f4), .int .i64 ((rd_T130 l0 x10_1).f5), .int .i64 ((rd_T130 l0 x10_1).f6), .int .i64 0, .int .i64 0]) ?_ 7 _ rfl; (with_reducible repeat (first | refine blk_drewN ?_ _ | refine blk_drew ?_ | refine blk_alloc ?_ _)); refine blk_put (cs := #[.string ((rd_T130 l0 x10_1).f0), .int .i64 ((rd_T130 l0 x10_1).f1), .int .i64 ((rd_T130 l0 x10_1).f2), .int .i64 ((rd_T130 l0 x10_1).f3), .int .i64 ((rd_T130 l0 x10_1).f4), .int .i64 ((rd_T130 l0 x10_1).f5), .int .i64 0, .int .i64 0, .int .i64 0]) ?_ 6 _ rfl; (with_reducible repeat (first | refine blk_drewN ?_ _ | refine blk_drew ?_ | refine blk_alloc ?_ _)); refine blk_put (cs := #[.string ((rd_T130 l0 x10_1).f0), .int .i64 ((rd_T130 l0 x10_1).f1), .int .i64 ((rd_T130 l0 x10_1).f2), .int .i64 ((rd_T130 l0 x10_1).f3), .int .i64 ((rd_T130 l0 x10_1).f4), .int .i64 0, .int .i64 0, .int .i64 0, .int .i64 0]) ?_ 5 _ rfl; (with_reducible repeat (first | refine blk_drewN ?_ _ | refine blk_drew ?_ | refine blk_alloc ?_ _)); refine blk_put (cs := #[.string ((rd_T130 l0 x10_1).f0), .int .i64 ((rd_T130 l0 x10_1).f1), .int .i64 ((rd_T130 l0 x10_1).f2), .int .i64 ((rd_T130 l0 x10_1).f3), .int .i64 0, .int .i64 0, .int .i64 0, .int .i64 0, .int .i64 0]) ?_ 4 _ rfl; (with_reducible repeat (first | refine blk_drewN ?_ _ | refine blk_drew ?_ | refine blk_alloc ?_ _)); refine blk_put (cs := #[.string ((rd_T130 l0 x10_1).f0), .int .i64 ((rd_T130 l0 x10_1).f1), .int .i64 ((rd_T130 l0 x10_1).f2), .int .i64 0, .int .i64 0, .int .i64 0, .int .i64 0, .int .i64 0, .int .i64 0]) ?_ 3 _ rfl; (with_reducible repeat (first | refine blk_drewN ?_ _ | refine blk_drew ?_ | refine blk_alloc ?_ _)); refine blk_put (cs := #[.string ((rd_T130 l0 x10_1).f0), .int .i64 ((rd_T130 l0 x10_1).f1), .int .i64 0, .int .i64 0, .int .i64 0, .int .i64 0, .int .i64 0, .int .i64 0, .int .i64 0]) ?_ 2 _ rfl; (with_reducible repeat (first | refine blk_drewN ?_ _ | refine blk_drew ?_ | refine blk_alloc ?_ _)); refine blk_put (cs := #[.string ((rd_T130 l0 x10_1).f0), .int .i64 0, .int .i64 0, .int .i64 0, .int .i64 0, .int .i64 0, .int .i64 0, .int .i64 0, .int .i64 0]) ?_ 1 _ rfl; (with_reducible repeat (first | refine blk_drewN ?_ _ | refine blk_drew ?_ | refine blk_alloc ?_ _)); refine blk_put (cs := #[.string (⟨#[]⟩ : ByteArray), .int .i64 0, .int .i64 0, .int .i64 0, .int .i64 0, .int .i64 0, .int .i64 0, .int .i64 0, .int .i64 0]) ?_ 0 _ rfl; (with_reducible repeat (first | refine blk_drewN ?_ _ | refine blk_drew ?_ | refine blk_alloc ?_ _)); exact BK222.out⟩
        have n1_ : Aside0 (Below w.heap.size w (((((((((w18.setCell ⟨gb222, 0, none⟩ (.string ((rd_T130 l0 x10_1).f0))).setCell ⟨gb222, 1, none⟩ (.int .i64 ((rd_T130 l0 x10_1).f1))).setCell ⟨gb222, 2, none⟩ (.int .i64 ((rd_T130 l0 x10_1).f2))).setCell ⟨gb222, 3, none⟩ (.int .i64 ((rd_T130 l0 x10_1).f3))).setCell ⟨gb222, 4, none⟩ (.int .i64 ((rd_T130 l0 x10_1).f4))).setCell ⟨gb222, 5, none⟩ (.int .i64 ((rd_T130 l0 x10_1).f5))).setCell ⟨gb222, 6, none⟩ (.int .i64 ((rd_T130 l0 x10_1).f6))).setCell ⟨gb222, 7, none⟩ (.int .i64 ((rd_T130 l0 x10_1).f7))).setCell ⟨gb222, 8, none⟩ (.int .i64 ((rd_T130 l0 x10_1).f8)))) := ⟨r0_ HB.out GE222.out⟩
        (try clear BK222)
        (try clear HB)
        generalize (((((((((w18.setCell ⟨gb222, 0, none⟩ (.string ((rd_T130 l0 x10_1).f0))).setCell ⟨gb222, 1, none⟩ (.int .i64 ((rd_T130 l0 x10_1).f1))).setCell ⟨gb222, 2, none⟩ (.int .i64 ((rd_T130 l0 x10_1).f2))).setCell ⟨gb222, 3, none⟩ (.int .i64 ((rd_T130 l0 x10_1).f3))).setCell ⟨gb222, 4, none⟩ (.int .i64 ((rd_T130 l0 x10_1).f4))).setCell ⟨gb222, 5, none⟩ (.int .i64 ((rd_T130 l0 x10_1).f5))).setCell ⟨gb222, 6, none⟩ (.int .i64 ((rd_T130 l0 x10_1).f6))).setCell ⟨gb222, 7, none⟩ (.int .i64 ((rd_T130 l0 x10_1).f7))).setCell ⟨gb222, 8, none⟩ (.int .i64 ((rd_T130 l0 x10_1).f8))) = w20 at n0_ n1_ ⊢
        have BK222 := n0_
        have HB := n1_
        clear n0_ n1_
        replace BK222 := Aside0.mk (blk_drew BK222.out)
        replace HB := Aside0.mk (below_drew1 HB.out)
        have p224 : 0 ≤ ((ji9) : Int) := od_
        have q224 : (ji9) < (l0.length : Int) := od_
        obtain ⟨ad224, e224, hx224_0, hx224_1, hx224_2, hx224_3, hx224_4, hx224_5, hx224_6, hx224_7, hx224_8⟩ := at_T130 HR0.out (ji9) p224 q224
        have hw224_8 := hx224_8
        have hw224_7 := hx224_7
        have hw224_6 := hx224_6
        have hw224_5 := hx224_5
        have hw224_4 := hx224_4
        have hw224_3 := hx224_3
        have hw224_2 := hx224_2
        have hw224_1 := hx224_1
        have hw224_0 := hx224_0
        obtain rfl : ad221 = ad224 := (by injection e224)
        replace hx224_0 := bc_ HB.out hx224_0
        replace hx224_1 := bc_ HB.out hx224_1
        replace hx224_2 := bc_ HB.out hx224_2
        replace hx224_3 := bc_ HB.out hx224_3
        replace hx224_4 := bc_ HB.out hx224_4
        replace hx224_5 := bc_ HB.out hx224_5
        replace hx224_6 := bc_ HB.out hx224_6
        replace hx224_7 := bc_ HB.out hx224_7
        replace hx224_8 := bc_ HB.out hx224_8
        replace p224 := eq_true p224
        replace q224 := eq_true q224
        refine start_ (n := 18) (S := fun w' => w'.cell? ⟨gb222, 0, none⟩ = some (.string ((rd_T130 l0 x10_1).f0)) ∧ w'.cell? ⟨gb222, 1, none⟩ = some (.int .i64 ((rd_T130 l0 x10_1).f1)) ∧ w'.cell? ⟨gb222, 2, none⟩ = some (.int .i64 ((rd_T130 l0 x10_1).f2)) ∧ w'.cell? ⟨gb222, 3, none⟩ = some (.int .i64 ((rd_T130 l0 x10_1).f3)) ∧ w'.cell? ⟨gb222, 4, none⟩ = some (.int .i64 ((rd_T130 l0 x10_1).f4)) ∧ w'.cell? ⟨gb222, 5, none⟩ = some (.int .i64 ((rd_T130 l0 x10_1).f5)) ∧ w'.cell? ⟨gb222, 6, none⟩ = some (.int .i64 ((rd_T130 l0 x10_1).f6)) ∧ w'.cell? ⟨gb222, 7, none⟩ = some (.int .i64 ((rd_T130 l0 x10_1).f7)) ∧ w'.cell? ⟨gb222, 8, none⟩ = some (.int .i64 ((rd_T130 l0 x10_1).f8)) ∧ w'.cell? (ad221.add (((ji9)).toNat * 9)) = some (.string ((rd_T130 l0 (ji9)).f0)) ∧ w'.cell? ⟨(ad221.add (((ji9)).toNat * 9)).block, (ad221.add (((ji9)).toNat * 9)).off + 1, none⟩ = some (.int .i64 ((rd_T130 l0 (ji9)).f1)) ∧ w'.cell? ⟨(ad221.add (((ji9)).toNat * 9)).block, (ad221.add (((ji9)).toNat * 9)).off + 2, none⟩ = some (.int .i64 ((rd_T130 l0 (ji9)).f2)) ∧ w'.cell? ⟨(ad221.add (((ji9)).toNat * 9)).block, (ad221.add (((ji9)).toNat * 9)).off + 3, none⟩ = some (.int .i64 ((rd_T130 l0 (ji9)).f3)) ∧ w'.cell? ⟨(ad221.add (((ji9)).toNat * 9)).block, (ad221.add (((ji9)).toNat * 9)).off + 4, none⟩ = some (.int .i64 ((rd_T130 l0 (ji9)).f4)) ∧ w'.cell? ⟨(ad221.add (((ji9)).toNat * 9)).block, (ad221.add (((ji9)).toNat * 9)).off + 5, none⟩ = some (.int .i64 ((rd_T130 l0 (ji9)).f5)) ∧ w'.cell? ⟨(ad221.add (((ji9)).toNat * 9)).block, (ad221.add (((ji9)).toNat * 9)).off + 6, none⟩ = some (.int .i64 ((rd_T130 l0 (ji9)).f6)) ∧ w'.cell? ⟨(ad221.add (((ji9)).toNat * 9)).block, (ad221.add (((ji9)).toNat * 9)).off + 7, none⟩ = some (.int .i64 ((rd_T130 l0 (ji9)).f7)) ∧ w'.cell? ⟨(ad221.add (((ji9)).toNat * 9)).block, (ad221.add (((ji9)).toNat * 9)).off + 8, none⟩ = some (.int .i64 ((rd_T130 l0 (ji9)).f8))) (ds := []) #[f_,f_,f_,f_,f_,f_,f_,f_,f_,f_,f_,f_,f_,f_,f_,f_,f_,f_] (by kernel_rfl) rfl rfl ⟨(blk_cell BK222.out 0).trans rfl, (blk_cell BK222.out 1).trans rfl, (blk_cell BK222.out 2).trans rfl, (blk_cell BK222.out 3).trans rfl, (blk_cell BK222.out 4).trans rfl, (blk_cell BK222.out 5).trans rfl, (blk_cell BK222.out 6).trans rfl, (blk_cell BK222.out 7).trans rfl, (blk_cell BK222.out 8).trans rfl, (bc_ HB.out hw224_0 :), (bc_ HB.out hw224_1 :), (bc_ HB.out hw224_2 :), (bc_ HB.out hw224_3 :), (bc_ HB.out hw224_4 :), (bc_ HB.out hw224_5 :), (bc_ HB.out hw224_6 :), (bc_ HB.out hw224_7 :), (bc_ HB.out hw224_8 :)⟩ (fun hHeld => ?_); refine with_tabW impl_AreArticles.tab6 impl_AreArticles.bits6 (fun HT_ HW_ => ?_)
        generalize w20.drew = w21 at BK222 HB hx224_0 hx224_1 hx224_2 hx224_3 hx224_4 hx224_5 hx224_6 hx224_7 hx224_8 hHeld ⊢
        refine take_ (i := 0) (N := some 15) (v := ?_) (a' := ?_) #[t_,f_,f_,f_,f_,f_,f_,f_,f_,f_,f_,f_,f_,f_,f_,f_,f_,f_] rfl rfl (take_ofW HT_.out HW_.out (by kernel_rfl)) (fun _ _ _ h => h) (Or.inl ⟨by rfl, ?_⟩) hHeld ?_ ?_
        rotate_left
        ·rintro w' ⟨s0, s1, s2, s3, s4, s5, s6, s7, s8, s9, s10, s11, s12, s13, s14, s15, s16, s17⟩
         go_simp
         with_reducible rfl
        rotate_left
        ·simp only [pz_]
         rfl
        refine one_ (i := 1) (N := some 16) #[t_,t_,f_,f_,f_,f_,f_,f_,f_,f_,f_,f_,f_,f_,f_,f_,f_,f_] rfl rfl (one_of HT_.out (by kernel_rfl)) (by decide) (fun K hK => ?_)
        refine goes_ Try.func164 (by kernel_rfl) rfl #[.agg #[.string ((rd_T130 l0 x10_1).f0), .int .i64 ((rd_T130 l0 x10_1).f1), .int .i64 ((rd_T130 l0 x10_1).f2), .int .i64 ((rd_T130 l0 x10_1).f3), .int .i64 ((rd_T130 l0 x10_1).f4), .int .i64 ((rd_T130 l0 x10_1).f5), .int .i64 ((rd_T130 l0 x10_1).f6), .int .i64 ((rd_T130 l0 x10_1).f7), .int .i64 ((rd_T130 l0 x10_1).f8)]] (by rfl) rfl rfl ag_ ?_
        with_reducible refine (impl_IsArticle.calls k1 ((rd_T130 l0 x10_1).f0) ((rd_T130 l0 x10_1).f1) ((rd_T130 l0 x10_1).f2) ((rd_T130 l0 x10_1).f3) ((rd_T130 l0 x10_1).f4) ((rd_T130 l0 x10_1).f5) ((rd_T130 l0 x10_1).f6) ((rd_T130 l0 x10_1).f7) ((rd_T130 l0 x10_1).f8) true _ A6.out).mono ?_
        rintro e w22 ⟨rfl, hb⟩
        refine ⟨_, rfl, ?_⟩
        replace BK222 := Aside0.mk (blk_below (g := gb222) (o := .cells #[.string ((rd_T130 l0 x10_1).f0), .int .i64 ((rd_T130 l0 x10_1).f1), .int .i64 ((rd_T130 l0 x10_1).f2), .int .i64 ((rd_T130 l0 x10_1).f3), .int .i64 ((rd_T130 l0 x10_1).f4), .int .i64 ((rd_T130 l0 x10_1).f5), .int .i64 ((rd_T130 l0 x10_1).f6), .int .i64 ((rd_T130 l0 x10_1).f7), .int .i64 ((rd_T130 l0 x10_1).f8)] 130 (0, 0)) (r1_ BK222.out) hb)
        replace HB := Aside0.mk (below_step (r0_ HB.out GE222.out) hb)
        (try clear hb)
        (try clear hb2)
        (try clear hk)
        (try clear hi)
        refine hK.out _ _ ⟨(blk_cell BK222.out 0).trans rfl, (blk_cell BK222.out 1).trans rfl, (blk_cell BK222.out 2).trans rfl, (blk_cell BK222.out 3).trans rfl, (blk_cell BK222.out 4).trans rfl, (blk_cell BK222.out 5).trans rfl, (blk_cell BK222.out 6).trans rfl, (blk_cell BK222.out 7).trans rfl, (blk_cell BK222.out 8).trans rfl, (bc_ HB.out hw224_0 :), (bc_ HB.out hw224_1 :), (bc_ HB.out hw224_2 :), (bc_ HB.out hw224_3 :), (bc_ HB.out hw224_4 :), (bc_ HB.out hw224_5 :), (bc_ HB.out hw224_6 :), (bc_ HB.out hw224_7 :), (bc_ HB.out hw224_8 :)⟩ (fun hHeld => ?_)
        clear hK K
        refine norm_ (a' := ?_) ?_ ?_
        rotate_left
        ·show Act.put _ (some 16) _ = _
         simp only [pz_]
         rfl
        refine pu_ 2 17 #[t_,t_,t_,f_,f_,f_,f_,f_,f_,f_,f_,f_,f_,f_,f_,f_,f_,f_] HT_.out ?_
        refine pu_ 3 18 #[t_,t_,t_,t_,f_,f_,f_,f_,f_,f_,f_,f_,f_,f_,f_,f_,f_,f_] HT_.out ?_
        refine pu_ 4 19 #[t_,t_,t_,t_,t_,f_,f_,f_,f_,f_,f_,f_,f_,f_,f_,f_,f_,f_] HT_.out ?_
        refine pu_ 5 20 #[t_,t_,t_,t_,t_,t_,f_,f_,f_,f_,f_,f_,f_,f_,f_,f_,f_,f_] HT_.out ?_
        refine pu_ 6 21 #[t_,t_,t_,t_,t_,t_,t_,f_,f_,f_,f_,f_,f_,f_,f_,f_,f_,f_] HT_.out ?_
        refine pu_ 7 22 #[t_,t_,t_,t_,t_,t_,t_,t_,f_,f_,f_,f_,f_,f_,f_,f_,f_,f_] HT_.out ?_
        refine pu_ 8 23 #[t_,t_,t_,t_,t_,t_,t_,t_,t_,f_,f_,f_,f_,f_,f_,f_,f_,f_] HT_.out ?_
        refine pu_ 9 24 #[t_,t_,t_,t_,t_,t_,t_,t_,t_,t_,f_,f_,f_,f_,f_,f_,f_,f_] HT_.out ?_
        refine pu_ 10 25 #[t_,t_,t_,t_,t_,t_,t_,t_,t_,t_,t_,f_,f_,f_,f_,f_,f_,f_] HT_.out ?_
        refine pu_ 11 26 #[t_,t_,t_,t_,t_,t_,t_,t_,t_,t_,t_,t_,f_,f_,f_,f_,f_,f_] HT_.out ?_
        refine pu_ 13 28 #[t_,t_,t_,t_,t_,t_,t_,t_,t_,t_,t_,t_,f_,t_,f_,f_,f_,f_] HT_.out ?_
        refine take_ (i := 12) (N := some 27) (v := ?_) (a' := ?_) #[t_,t_,t_,t_,t_,t_,t_,t_,t_,t_,t_,t_,t_,t_,f_,f_,f_,f_] rfl rfl (take_ofW HT_.out HW_.out (by kernel_rfl)) (fun _ _ _ h => h) (Or.inl ⟨by rfl, ?_⟩) hHeld ?_ ?_
        rotate_left
        ·rintro w' ⟨s0, s1, s2, s3, s4, s5, s6, s7, s8, s9, s10, s11, s12, s13, s14, s15, s16, s17⟩
         go_simp
         with_reducible rfl
        rotate_left
        ·simp only [pz_]
         rfl
        refine take_ (i := 14) (N := some 29) (v := ?_) (a' := ?_) #[t_,t_,t_,t_,t_,t_,t_,t_,t_,t_,t_,t_,t_,t_,t_,f_,f_,f_] rfl rfl (take_ofW HT_.out HW_.out (by kernel_rfl)) (fun _ _ _ h => h) (Or.inl ⟨by rfl, ?_⟩) hHeld ?_ ?_
        rotate_left
        ·rintro w' ⟨s0, s1, s2, s3, s4, s5, s6, s7, s8, s9, s10, s11, s12, s13, s14, s15, s16, s17⟩
         go_simp
         with_reducible rfl
        rotate_left
        ·simp only [pz_]
         rfl
        refine pu_ 15 30 #[t_,t_,t_,t_,t_,t_,t_,t_,t_,t_,t_,t_,t_,t_,t_,t_,f_,f_] HT_.out ?_
        refine pu_ 16 31 #[t_,t_,t_,t_,t_,t_,t_,t_,t_,t_,t_,t_,t_,t_,t_,t_,t_,f_] HT_.out ?_
        refine pu_ 17 32 #[t_,t_,t_,t_,t_,t_,t_,t_,t_,t_,t_,t_,t_,t_,t_,t_,t_,t_] HT_.out ?_
        refine done_ (done_of HT_.out (by kernel_rfl)) ?_
        try go_wp2
        go_ret
        exact ⟨by first | rfl | (simp [errW_none, errW_some] <;> rfl) | (simp only [← hji9]; first | rfl | (simp [errW_none, errW_some] <;> rfl)) | (simp [*, errW_none, errW_some] <;> rfl), r0_ HB.out GE222.out⟩
      ·rw [if_neg c8] at H
       have c8b0 : decide (0 < x10_1) = false := decide_eq_false c8
       clear c8
       have H' := Aside0.mk H
       clear H
       have p221 : 0 ≤ (x10_1 : Int) := od_
       have q221 : x10_1 < (l0.length : Int) := od_
       obtain ⟨ad221, e221, hx221_0, hx221_1, hx221_2, hx221_3, hx221_4, hx221_5, hx221_6, hx221_7, hx221_8⟩ := at_T130 HR0.out x10_1 p221 q221
       cases e221
       replace hx221_0 := bc_ HB.out hx221_0
       replace hx221_1 := bc_ HB.out hx221_1
       replace hx221_2 := bc_ HB.out hx221_2
       replace hx221_3 := bc_ HB.out hx221_3
       replace hx221_4 := bc_ HB.out hx221_4
       replace hx221_5 := bc_ HB.out hx221_5
       replace hx221_6 := bc_ HB.out hx221_6
       replace hx221_7 := bc_ HB.out hx221_7
       replace hx221_8 := bc_ HB.out hx221_8
       replace p221 := eq_true p221
       replace q221 := eq_true q221
       try go_wp2_with (first | ((with_reducible refine gate_dst (N := 4) rfl ?_); refine box_event ?hg (N := 4) ?hd (cs := #[.string (⟨#[]⟩ : ByteArray), .int .i64 0, .int .i64 0, .int .i64 0, .int .i64 0, .int .i64 0, .int .i64 0, .int .i64 0, .int .i64 0]) (t := 130) ?hr ?_; (case hd => rfl); (case hg => rfl); (case hr => first | (go_simp; done) | (go_simp; rfl)); intro gb222 hg w23 hbox hb; have BK222 := Aside0.mk (hbox); have GW222 := Aside0.mk ((by rw [hg]; exact (below_size (bl_ HB.out)) : w.heap.size ≤ gb222)); have GE222 := Aside0.mk ((by rw [hg]; exact (below_size (bl_ HB.out)) : w.heap.size ≤ gb222)); replace HB := Aside0.mk (below_step (bl_ HB.out) hb); clear hb hbox hg; have hcz24_0 : w23.cell? ⟨gb222, 0, none⟩ = some (.string (⟨#[]⟩ : ByteArray)) := (blk_cell BK222.out 0).trans rfl; have hcz24_1 : w23.cell? ⟨gb222, 1, none⟩ = some (.int .i64 0) := (blk_cell BK222.out 1).trans rfl; have hcz24_2 : w23.cell? ⟨gb222, 2, none⟩ = some (.int .i64 0) := (blk_cell BK222.out 2).trans rfl; have hcz24_3 : w23.cell? ⟨gb222, 3, none⟩ = some (.int .i64 0) := (blk_cell BK222.out 3).trans rfl; have hcz24_4 : w23.cell? ⟨gb222, 4, none⟩ = some (.int .i64 0) := (blk_cell BK222.out 4).trans rfl; have hcz24_5 : w23.cell? ⟨gb222, 5, none⟩ = some (.int .i64 0) := (blk_cell BK222.out 5).trans rfl; have hcz24_6 : w23.cell? ⟨gb222, 6, none⟩ = some (.int .i64 0) := (blk_cell BK222.out 6).trans rfl; have hcz24_7 : w23.cell? ⟨gb222, 7, none⟩ = some (.int .i64 0) := (blk_cell BK222.out 7).trans rfl; have hcz24_8 : w23.cell? ⟨gb222, 8, none⟩ = some (.int .i64 0) := (blk_cell BK222.out 8).trans rfl; have hfz24_0 := blk_frozen BK222.out 0; have hfz24_1 := blk_frozen BK222.out 1; have hfz24_2 := blk_frozen BK222.out 2; have hfz24_3 := blk_frozen BK222.out 3; have hfz24_4 := blk_frozen BK222.out 4; have hfz24_5 := blk_frozen BK222.out 5; have hfz24_6 := blk_frozen BK222.out 6; have hfz24_7 := blk_frozen BK222.out 7; have hfz24_8 := blk_frozen BK222.out 8))
       have n0_ : Aside0 ((((((((((w23.setCell ⟨gb222, 0, none⟩ (.string ((rd_T130 l0 x10_1).f0))).setCell ⟨gb222, 1, none⟩ (.int .i64 ((rd_T130 l0 x10_1).f1))).setCell ⟨gb222, 2, none⟩ (.int .i64 ((rd_T130 l0 x10_1).f2))).setCell ⟨gb222, 3, none⟩ (.int .i64 ((rd_T130 l0 x10_1).f3))).setCell ⟨gb222, 4, none⟩ (.int .i64 ((rd_T130 l0 x10_1).f4))).setCell ⟨gb222, 5, none⟩ (.int .i64 ((rd_T130 l0 x10_1).f5))).setCell ⟨gb222, 6, none⟩ (.int .i64 ((rd_T130 l0 x10_1).f6))).setCell ⟨gb222, 7, none⟩ (.int .i64 ((rd_T130 l0 x10_1).f7))).setCell ⟨gb222, 8, none⟩ (.int .i64 ((rd_T130 l0 x10_1).f8))).heap[gb222]? = some (.cells #[.string ((rd_T130 l0 x10_1).f0), .int .i64 ((rd_T130 l0 x10_1).f1), .int .i64 ((rd_T130 l0 x10_1).f2), .int .i64 ((rd_T130 l0 x10_1).f3), .int .i64 ((rd_T130 l0 x10_1).f4), .int .i64 ((rd_T130 l0 x10_1).f5), .int .i64 ((rd_T130 l0 x10_1).f6), .int .i64 ((rd_T130 l0 x10_1).f7), .int .i64 ((rd_T130 l0 x10_1).f8)] 130 (0, 0))) := ⟨by (with_reducible repeat (first | refine blk_drewN ?_ _ | refine blk_drew ?_ | refine blk_alloc ?_ _)); refine blk_put (cs := #[.string ((rd_T130 l0 x10_1).f0), .int .i64 ((rd_T130 l0 x10_1).f1), .int .i64 ((rd_T130 l0 x10_1).f2), .int .i64 ((rd_T130 l0 x10_1).f3), .int .i64 ((rd_T130 l0 x10_1).f4), .int .i64 ((rd_T130 l0 x10_1).f5), .int .i64 ((rd_T130 l0 x10_1).f6), .int .i64 ((rd_T130 l0 x10_1).f7), .int .i64 0]) ?_ 8 _ rfl; (with_reducible repeat (first | refine blk_drewN ?_ _ | refine blk_drew ?_ | refine blk_alloc ?_ _)); refine blk_put (cs := #[.string ((rd_T130 l0 x10_1).f0), .int .i64 ((rd_T130 l0 x10_1).f1), .int .i64 ((rd_T130 l0 x10_1).f2), .int .i64 ((rd_T130 l0 x10_1).f3), .int .i64 ((rd_T130 l0 x10_1).f4), .int .i64 ((rd_T130 l0 x10_1).f5), .int .i64 ((rd_T130 l0 x10_1).f6), .int .i64 0, .int .i64 0]) ?_ 7 _ rfl; (with_reducible repeat (first | refine blk_drewN ?_ _ | refine blk_drew ?_ | refine blk_alloc ?_ _)); refine blk_put (cs := #[.string ((rd_T130 l0 x10_1).f0), .int .i64 ((rd_T130 l0 x10_1).f1), .int .i64 ((rd_T130 l0 x10_1).f2), .int .i64 ((rd_T130 l0 x10_1).f3), .int .i64 ((rd_T130 l0 x10_1).f4), .int .i64 ((rd_T130 l0 x10_1).f5), .int .i64 0, .int .i64 0, .int .i64 0]) ?_ 6 _ rfl; (with_reducible repeat (first | refine blk_drewN ?_ _ | refine blk_drew ?_ | refine blk_alloc ?_ _)); refine blk_put (cs := #[.string ((rd_T130 l0 x10_1).f0), .int .i64 ((rd_T130 l0 x10_1).f1), .int .i64 ((rd_T130 l0 x10_1).f2), .int .i64 ((rd_T130 l0 x10_1).f3), .int .i64 ((rd_T130 l0 x10_1).f4), .int .i64 0, .int .i64 0, .int .i64 0, .int .i64 0]) ?_ 5 _ rfl; (with_reducible repeat (first | refine blk_drewN ?_ _ | refine blk_drew ?_ | refine blk_alloc ?_ _)); refine blk_put (cs := #[.string ((rd_T130 l0 x10_1).f0), .int .i64 ((rd_T130 l0 x10_1).f1), .int .i64 ((rd_T130 l0 x10_1).f2), .int .i64 ((rd_T130 l0 x10_1).f3), .int .i64 0, .int .i64 0, .int .i64 0, .int .i64 0, .int .i64 0]) ?_ 4 _ rfl; (with_reducible repeat (first | refine blk_drewN ?_ _ | refine blk_drew ?_ | refine blk_alloc ?_ _)); refine blk_put (cs := #[.string ((rd_T130 l0 x10_1).f0), .int .i64 ((rd_T130 l0 x10_1).f1), .int .i64 ((rd_T130 l0 x10_1).f2), .int .i64 0, .int .i64 0, .int .i64 0, .int .i64 0, .int .i64 0, .int .i64 0]) ?_ 3 _ rfl; (with_reducible repeat (first | refine blk_drewN ?_ _ | refine blk_drew ?_ | refine blk_alloc ?_ _)); refine blk_put (cs := #[.string ((rd_T130 l0 x10_1).f0), .int .i64 ((rd_T130 l0 x10_1).f1), .int .i64 0, .int .i64 0, .int .i64 0, .int .i64 0, .int .i64 0, .int .i64 0, .int .i64 0]) ?_ 2 _ rfl; (with_reducible repeat (first | refine blk_drewN ?_ _ | refine blk_drew ?_ | refine blk_alloc ?_ _)); refine blk_put (cs := #[.string ((rd_T130 l0 x10_1).f0), .int .i64 0, .int .i64 0, .int .i64 0, .int .i64 0, .int .i64 0, .int .i64 0, .int .i64 0, .int .i64 0]) ?_ 1 _ rfl; (with_reducible repeat (first | refine blk_drewN ?_ _ | refine blk_drew ?_ | refine blk_alloc ?_ _)); refine blk_put (cs := #[.string (⟨#[]⟩ : ByteArray), .int .i64 0, .int .i64 0, .int .i64 0, .int .i64 0, .int .i64 0, .int .i64 0, .int .i64 0, .int .i64 0]) ?_ 0 _ rfl; (with_reducible repeat (first | refine blk_drewN ?_ _ | refine blk_drew ?_ | refine blk_alloc ?_ _)); exact BK222.out⟩
       have n1_ : Aside0 (Below w.heap.size w (((((((((w23.setCell ⟨gb222, 0, none⟩ (.string ((rd_T130 l0 x10_1).f0))).setCell ⟨gb222, 1, none⟩ (.int .i64 ((rd_T130 l0 x10_1).f1))).setCell ⟨gb222, 2, none⟩ (.int .i64 ((rd_T130 l0 x10_1).f2))).setCell ⟨gb222, 3, none⟩ (.int .i64 ((rd_T130 l0 x10_1).f3))).setCell ⟨gb222, 4, none⟩ (.int .i64 ((rd_T130 l0 x10_1).f4))).setCell ⟨gb222, 5, none⟩ (.int .i64 ((rd_T130 l0 x10_1).f5))).setCell ⟨gb222, 6, none⟩ (.int .i64 ((rd_T130 l0 x10_1).f6))).setCell ⟨gb222, 7, none⟩ (.int .i64 ((rd_T130 l0 x10_1).f7))).setCell ⟨gb222, 8, none⟩ (.int .i64 ((rd_T130 l0 x10_1).f8)))) := ⟨r0_ HB.out GE222.out⟩
       (try clear BK222)
       (try clear HB)
       generalize (((((((((w23.setCell ⟨gb222, 0, none⟩ (.string ((rd_T130 l0 x10_1).f0))).setCell ⟨gb222, 1, none⟩ (.int .i64 ((rd_T130 l0 x10_1).f1))).setCell ⟨gb222, 2, none⟩ (.int .i64 ((rd_T130 l0 x10_1).f2))).setCell ⟨gb222, 3, none⟩ (.int .i64 ((rd_T130 l0 x10_1).f3))).setCell ⟨gb222, 4, none⟩ (.int .i64 ((rd_T130 l0 x10_1).f4))).setCell ⟨gb222, 5, none⟩ (.int .i64 ((rd_T130 l0 x10_1).f5))).setCell ⟨gb222, 6, none⟩ (.int .i64 ((rd_T130 l0 x10_1).f6))).setCell ⟨gb222, 7, none⟩ (.int .i64 ((rd_T130 l0 x10_1).f7))).setCell ⟨gb222, 8, none⟩ (.int .i64 ((rd_T130 l0 x10_1).f8))) = w25 at n0_ n1_ ⊢
       have BK222 := n0_
       have HB := n1_
       clear n0_ n1_
       replace BK222 := Aside0.mk (blk_drew BK222.out)
       replace HB := Aside0.mk (below_drew1 HB.out)
       refine start_ (n := 18) (S := fun w' => w'.cell? ⟨gb222, 0, none⟩ = some (.string ((rd_T130 l0 x10_1).f0)) ∧ w'.cell? ⟨gb222, 1, none⟩ = some (.int .i64 ((rd_T130 l0 x10_1).f1)) ∧ w'.cell? ⟨gb222, 2, none⟩ = some (.int .i64 ((rd_T130 l0 x10_1).f2)) ∧ w'.cell? ⟨gb222, 3, none⟩ = some (.int .i64 ((rd_T130 l0 x10_1).f3)) ∧ w'.cell? ⟨gb222, 4, none⟩ = some (.int .i64 ((rd_T130 l0 x10_1).f4)) ∧ w'.cell? ⟨gb222, 5, none⟩ = some (.int .i64 ((rd_T130 l0 x10_1).f5)) ∧ w'.cell? ⟨gb222, 6, none⟩ = some (.int .i64 ((rd_T130 l0 x10_1).f6)) ∧ w'.cell? ⟨gb222, 7, none⟩ = some (.int .i64 ((rd_T130 l0 x10_1).f7)) ∧ w'.cell? ⟨gb222, 8, none⟩ = some (.int .i64 ((rd_T130 l0 x10_1).f8))) (ds := []) #[f_,f_,f_,f_,f_,f_,f_,f_,f_,f_,f_,f_,f_,f_,f_,f_,f_,f_] (by kernel_rfl) rfl rfl ⟨(blk_cell BK222.out 0).trans rfl, (blk_cell BK222.out 1).trans rfl, (blk_cell BK222.out 2).trans rfl, (blk_cell BK222.out 3).trans rfl, (blk_cell BK222.out 4).trans rfl, (blk_cell BK222.out 5).trans rfl, (blk_cell BK222.out 6).trans rfl, (blk_cell BK222.out 7).trans rfl, (blk_cell BK222.out 8).trans rfl⟩ (fun hHeld => ?_); refine with_tabW impl_AreArticles.tab6 impl_AreArticles.bits6 (fun HT_ HW_ => ?_)
       generalize w25.drew = w26 at BK222 HB hHeld ⊢
       refine take_ (i := 0) (N := some 15) (v := ?_) (a' := ?_) #[t_,f_,f_,f_,f_,f_,f_,f_,f_,f_,f_,f_,f_,f_,f_,f_,f_,f_] rfl rfl (take_ofW HT_.out HW_.out (by kernel_rfl)) (fun _ _ _ h => h) (Or.inl ⟨by rfl, ?_⟩) hHeld ?_ ?_
       rotate_left
       ·rintro w' ⟨s0, s1, s2, s3, s4, s5, s6, s7, s8⟩
        go_simp
        with_reducible rfl
       rotate_left
       ·simp only [pz_]
        rfl
       refine one_ (i := 1) (N := some 16) #[t_,t_,f_,f_,f_,f_,f_,f_,f_,f_,f_,f_,f_,f_,f_,f_,f_,f_] rfl rfl (one_of HT_.out (by kernel_rfl)) (by decide) (fun K hK => ?_)
       refine goes_ Try.func164 (by kernel_rfl) rfl #[.agg #[.string ((rd_T130 l0 x10_1).f0), .int .i64 ((rd_T130 l0 x10_1).f1), .int .i64 ((rd_T130 l0 x10_1).f2), .int .i64 ((rd_T130 l0 x10_1).f3), .int .i64 ((rd_T130 l0 x10_1).f4), .int .i64 ((rd_T130 l0 x10_1).f5), .int .i64 ((rd_T130 l0 x10_1).f6), .int .i64 ((rd_T130 l0 x10_1).f7), .int .i64 ((rd_T130 l0 x10_1).f8)]] (by rfl) rfl rfl ag_ ?_
       with_reducible refine (impl_IsArticle.calls k1 ((rd_T130 l0 x10_1).f0) ((rd_T130 l0 x10_1).f1) ((rd_T130 l0 x10_1).f2) ((rd_T130 l0 x10_1).f3) ((rd_T130 l0 x10_1).f4) ((rd_T130 l0 x10_1).f5) ((rd_T130 l0 x10_1).f6) ((rd_T130 l0 x10_1).f7) ((rd_T130 l0 x10_1).f8) true _ A6.out).mono ?_
       rintro e w27 ⟨rfl, hb⟩
       refine ⟨_, rfl, ?_⟩
       replace BK222 := Aside0.mk (blk_below (g := gb222) (o := .cells #[.string ((rd_T130 l0 x10_1).f0), .int .i64 ((rd_T130 l0 x10_1).f1), .int .i64 ((rd_T130 l0 x10_1).f2), .int .i64 ((rd_T130 l0 x10_1).f3), .int .i64 ((rd_T130 l0 x10_1).f4), .int .i64 ((rd_T130 l0 x10_1).f5), .int .i64 ((rd_T130 l0 x10_1).f6), .int .i64 ((rd_T130 l0 x10_1).f7), .int .i64 ((rd_T130 l0 x10_1).f8)] 130 (0, 0)) (r1_ BK222.out) hb)
       replace HB := Aside0.mk (below_step (r0_ HB.out GE222.out) hb)
       (try clear hb)
       (try clear hb2)
       (try clear hk)
       (try clear hi)
       refine hK.out _ _ ⟨(blk_cell BK222.out 0).trans rfl, (blk_cell BK222.out 1).trans rfl, (blk_cell BK222.out 2).trans rfl, (blk_cell BK222.out 3).trans rfl, (blk_cell BK222.out 4).trans rfl, (blk_cell BK222.out 5).trans rfl, (blk_cell BK222.out 6).trans rfl, (blk_cell BK222.out 7).trans rfl, (blk_cell BK222.out 8).trans rfl⟩ (fun hHeld => ?_)
       clear hK K
       refine norm_ (a' := ?_) ?_ ?_
       rotate_left
       ·show Act.put _ (some 16) _ = _
        simp only [pz_]
        rfl
       refine pu_ 2 17 #[t_,t_,t_,f_,f_,f_,f_,f_,f_,f_,f_,f_,f_,f_,f_,f_,f_,f_] HT_.out ?_
       refine pu_ 3 18 #[t_,t_,t_,t_,f_,f_,f_,f_,f_,f_,f_,f_,f_,f_,f_,f_,f_,f_] HT_.out ?_
       refine pu_ 4 19 #[t_,t_,t_,t_,t_,f_,f_,f_,f_,f_,f_,f_,f_,f_,f_,f_,f_,f_] HT_.out ?_
       refine pu_ 5 20 #[t_,t_,t_,t_,t_,t_,f_,f_,f_,f_,f_,f_,f_,f_,f_,f_,f_,f_] HT_.out ?_
       refine pu_ 6 21 #[t_,t_,t_,t_,t_,t_,t_,f_,f_,f_,f_,f_,f_,f_,f_,f_,f_,f_] HT_.out ?_
       refine un_ 7 22 #[t_,t_,t_,t_,t_,t_,t_,t_,f_,f_,f_,f_,f_,f_,f_,f_,f_,f_] HT_.out ?_
       refine un_ 8 23 #[t_,t_,t_,t_,t_,t_,t_,t_,t_,f_,f_,f_,f_,f_,f_,f_,f_,f_] HT_.out ?_
       refine un_ 9 24 #[t_,t_,t_,t_,t_,t_,t_,t_,t_,t_,f_,f_,f_,f_,f_,f_,f_,f_] HT_.out ?_
       refine un_ 10 25 #[t_,t_,t_,t_,t_,t_,t_,t_,t_,t_,t_,f_,f_,f_,f_,f_,f_,f_] HT_.out ?_
       refine un_ 11 26 #[t_,t_,t_,t_,t_,t_,t_,t_,t_,t_,t_,t_,f_,f_,f_,f_,f_,f_] HT_.out ?_
       refine un_ 12 27 #[t_,t_,t_,t_,t_,t_,t_,t_,t_,t_,t_,t_,t_,f_,f_,f_,f_,f_] HT_.out ?_
       refine un_ 13 28 #[t_,t_,t_,t_,t_,t_,t_,t_,t_,t_,t_,t_,t_,t_,f_,f_,f_,f_] HT_.out ?_
       refine un_ 14 29 #[t_,t_,t_,t_,t_,t_,t_,t_,t_,t_,t_,t_,t_,t_,t_,f_,f_,f_] HT_.out ?_
       refine un_ 15 30 #[t_,t_,t_,t_,t_,t_,t_,t_,t_,t_,t_,t_,t_,t_,t_,t_,f_,f_] HT_.out ?_
       refine pu_ 16 31 #[t_,t_,t_,t_,t_,t_,t_,t_,t_,t_,t_,t_,t_,t_,t_,t_,t_,f_] HT_.out ?_
       refine pu_ 17 32 #[t_,t_,t_,t_,t_,t_,t_,t_,t_,t_,t_,t_,t_,t_,t_,t_,t_,t_] HT_.out ?_
       refine done_ (done_of HT_.out (by kernel_rfl)) ?_
       try go_wp2
       go_roundg k1
       case measure => have := HK1.out; omega
       case rel => exact ⟨(wrap64 (x10_1 + 1)), (by first | rfl | (simp; done) | (simp [*]; done)), H', ⟨by have := HK1.out; omega⟩, ⟨r0_ HB.out GE222.out⟩⟩
     ·replace c7 := Bool.eq_false_iff.mpr c7
      subst c7
      replace H : (some false) = some r := by rw [if_neg (show ¬ (false = true) by decide)] at H; exact H
      obtain rfl := Option.some.inj H
      have p221 : 0 ≤ (x10_1 : Int) := od_
      have q221 : x10_1 < (l0.length : Int) := od_
      obtain ⟨ad221, e221, hx221_0, hx221_1, hx221_2, hx221_3, hx221_4, hx221_5, hx221_6, hx221_7, hx221_8⟩ := at_T130 HR0.out x10_1 p221 q221
      cases e221
      replace hx221_0 := bc_ HB.out hx221_0
      replace hx221_1 := bc_ HB.out hx221_1
      replace hx221_2 := bc_ HB.out hx221_2
      replace hx221_3 := bc_ HB.out hx221_3
      replace hx221_4 := bc_ HB.out hx221_4
      replace hx221_5 := bc_ HB.out hx221_5
      replace hx221_6 := bc_ HB.out hx221_6
      replace hx221_7 := bc_ HB.out hx221_7
      replace hx221_8 := bc_ HB.out hx221_8
      replace p221 := eq_true p221
      replace q221 := eq_true q221
      try go_wp2_with (first | ((with_reducible refine gate_dst (N := 4) rfl ?_); refine box_event ?hg (N := 4) ?hd (cs := #[.string (⟨#[]⟩ : ByteArray), .int .i64 0, .int .i64 0, .int .i64 0, .int .i64 0, .int .i64 0, .int .i64 0, .int .i64 0, .int .i64 0]) (t := 130) ?hr ?_; (case hd => rfl); (case hg => rfl); (case hr => first | (go_simp; done) | (go_simp; rfl)); intro gb222 hg w28 hbox hb; have BK222 := Aside0.mk (hbox); have GW222 := Aside0.mk ((by rw [hg]; exact (below_size (bl_ HB.out)) : w.heap.size ≤ gb222)); have GE222 := Aside0.mk ((by rw [hg]; exact (below_size (bl_ HB.out)) : w.heap.size ≤ gb222)); replace HB := Aside0.mk (below_step (bl_ HB.out) hb); clear hb hbox hg; have hcz29_0 : w28.cell? ⟨gb222, 0, none⟩ = some (.string (⟨#[]⟩ : ByteArray)) := (blk_cell BK222.out 0).trans rfl; have hcz29_1 : w28.cell? ⟨gb222, 1, none⟩ = some (.int .i64 0) := (blk_cell BK222.out 1).trans rfl; have hcz29_2 : w28.cell? ⟨gb222, 2, none⟩ = some (.int .i64 0) := (blk_cell BK222.out 2).trans rfl; have hcz29_3 : w28.cell? ⟨gb222, 3, none⟩ = some (.int .i64 0) := (blk_cell BK222.out 3).trans rfl; have hcz29_4 : w28.cell? ⟨gb222, 4, none⟩ = some (.int .i64 0) := (blk_cell BK222.out 4).trans rfl; have hcz29_5 : w28.cell? ⟨gb222, 5, none⟩ = some (.int .i64 0) := (blk_cell BK222.out 5).trans rfl; have hcz29_6 : w28.cell? ⟨gb222, 6, none⟩ = some (.int .i64 0) := (blk_cell BK222.out 6).trans rfl; have hcz29_7 : w28.cell? ⟨gb222, 7, none⟩ = some (.int .i64 0) := (blk_cell BK222.out 7).trans rfl; have hcz29_8 : w28.cell? ⟨gb222, 8, none⟩ = some (.int .i64 0) := (blk_cell BK222.out 8).trans rfl; have hfz29_0 := blk_frozen BK222.out 0; have hfz29_1 := blk_frozen BK222.out 1; have hfz29_2 := blk_frozen BK222.out 2; have hfz29_3 := blk_frozen BK222.out 3; have hfz29_4 := blk_frozen BK222.out 4; have hfz29_5 := blk_frozen BK222.out 5; have hfz29_6 := blk_frozen BK222.out 6; have hfz29_7 := blk_frozen BK222.out 7; have hfz29_8 := blk_frozen BK222.out 8))
      have n0_ : Aside0 ((((((((((w28.setCell ⟨gb222, 0, none⟩ (.string ((rd_T130 l0 x10_1).f0))).setCell ⟨gb222, 1, none⟩ (.int .i64 ((rd_T130 l0 x10_1).f1))).setCell ⟨gb222, 2, none⟩ (.int .i64 ((rd_T130 l0 x10_1).f2))).setCell ⟨gb222, 3, none⟩ (.int .i64 ((rd_T130 l0 x10_1).f3))).setCell ⟨gb222, 4, none⟩ (.int .i64 ((rd_T130 l0 x10_1).f4))).setCell ⟨gb222, 5, none⟩ (.int .i64 ((rd_T130 l0 x10_1).f5))).setCell ⟨gb222, 6, none⟩ (.int .i64 ((rd_T130 l0 x10_1).f6))).setCell ⟨gb222, 7, none⟩ (.int .i64 ((rd_T130 l0 x10_1).f7))).setCell ⟨gb222, 8, none⟩ (.int .i64 ((rd_T130 l0 x10_1).f8))).heap[gb222]? = some (.cells #[.string ((rd_T130 l0 x10_1).f0), .int .i64 ((rd_T130 l0 x10_1).f1), .int .i64 ((rd_T130 l0 x10_1).f2), .int .i64 ((rd_T130 l0 x10_1).f3), .int .i64 ((rd_T130 l0 x10_1).f4), .int .i64 ((rd_T130 l0 x10_1).f5), .int .i64 ((rd_T130 l0 x10_1).f6), .int .i64 ((rd_T130 l0 x10_1).f7), .int .i64 ((rd_T130 l0 x10_1).f8)] 130 (0, 0))) := ⟨by (with_reducible repeat (first | refine blk_drewN ?_ _ | refine blk_drew ?_ | refine blk_alloc ?_ _)); refine blk_put (cs := #[.string ((rd_T130 l0 x10_1).f0), .int .i64 ((rd_T130 l0 x10_1).f1), .int .i64 ((rd_T130 l0 x10_1).f2), .int .i64 ((rd_T130 l0 x10_1).f3), .int .i64 ((rd_T130 l0 x10_1).f4), .int .i64 ((rd_T130 l0 x10_1).f5), .int .i64 ((rd_T130 l0 x10_1).f6), .int .i64 ((rd_T130 l0 x10_1).f7), .int .i64 0]) ?_ 8 _ rfl; (with_reducible repeat (first | refine blk_drewN ?_ _ | refine blk_drew ?_ | refine blk_alloc ?_ _)); refine blk_put (cs := #[.string ((rd_T130 l0 x10_1).f0), .int .i64 ((rd_T130 l0 x10_1).f1), .int .i64 ((rd_T130 l0 x10_1).f2), .int .i64 ((rd_T130 l0 x10_1).f3), .int .i64 ((rd_T130 l0 x10_1).f4), .int .i64 ((rd_T130 l0 x10_1).f5), .int .i64 ((rd_T130 l0 x10_1).f6), .int .i64 0, .int .i64 0]) ?_ 7 _ rfl; (with_reducible repeat (first | refine blk_drewN ?_ _ | refine blk_drew ?_ | refine blk_alloc ?_ _)); refine blk_put (cs := #[.string ((rd_T130 l0 x10_1).f0), .int .i64 ((rd_T130 l0 x10_1).f1), .int .i64 ((rd_T130 l0 x10_1).f2), .int .i64 ((rd_T130 l0 x10_1).f3), .int .i64 ((rd_T130 l0 x10_1).f4), .int .i64 ((rd_T130 l0 x10_1).f5), .int .i64 0, .int .i64 0, .int .i64 0]) ?_ 6 _ rfl; (with_reducible repeat (first | refine blk_drewN ?_ _ | refine blk_drew ?_ | refine blk_alloc ?_ _)); refine blk_put (cs := #[.string ((rd_T130 l0 x10_1).f0), .int .i64 ((rd_T130 l0 x10_1).f1), .int .i64 ((rd_T130 l0 x10_1).f2), .int .i64 ((rd_T130 l0 x10_1).f3), .int .i64 ((rd_T130 l0 x10_1).f4), .int .i64 0, .int .i64 0, .int .i64 0, .int .i64 0]) ?_ 5 _ rfl; (with_reducible repeat (first | refine blk_drewN ?_ _ | refine blk_drew ?_ | refine blk_alloc ?_ _)); refine blk_put (cs := #[.string ((rd_T130 l0 x10_1).f0), .int .i64 ((rd_T130 l0 x10_1).f1), .int .i64 ((rd_T130 l0 x10_1).f2), .int .i64 ((rd_T130 l0 x10_1).f3), .int .i64 0, .int .i64 0, .int .i64 0, .int .i64 0, .int .i64 0]) ?_ 4 _ rfl; (with_reducible repeat (first | refine blk_drewN ?_ _ | refine blk_drew ?_ | refine blk_alloc ?_ _)); refine blk_put (cs := #[.string ((rd_T130 l0 x10_1).f0), .int .i64 ((rd_T130 l0 x10_1).f1), .int .i64 ((rd_T130 l0 x10_1).f2), .int .i64 0, .int .i64 0, .int .i64 0, .int .i64 0, .int .i64 0, .int .i64 0]) ?_ 3 _ rfl; (with_reducible repeat (first | refine blk_drewN ?_ _ | refine blk_drew ?_ | refine blk_alloc ?_ _)); refine blk_put (cs := #[.string ((rd_T130 l0 x10_1).f0), .int .i64 ((rd_T130 l0 x10_1).f1), .int .i64 0, .int .i64 0, .int .i64 0, .int .i64 0, .int .i64 0, .int .i64 0, .int .i64 0]) ?_ 2 _ rfl; (with_reducible repeat (first | refine blk_drewN ?_ _ | refine blk_drew ?_ | refine blk_alloc ?_ _)); refine blk_put (cs := #[.string ((rd_T130 l0 x10_1).f0), .int .i64 0, .int .i64 0, .int .i64 0, .int .i64 0, .int .i64 0, .int .i64 0, .int .i64 0, .int .i64 0]) ?_ 1 _ rfl; (with_reducible repeat (first | refine blk_drewN ?_ _ | refine blk_drew ?_ | refine blk_alloc ?_ _)); refine blk_put (cs := #[.string (⟨#[]⟩ : ByteArray), .int .i64 0, .int .i64 0, .int .i64 0, .int .i64 0, .int .i64 0, .int .i64 0, .int .i64 0, .int .i64 0]) ?_ 0 _ rfl; (with_reducible repeat (first | refine blk_drewN ?_ _ | refine blk_drew ?_ | refine blk_alloc ?_ _)); exact BK222.out⟩
      have n1_ : Aside0 (Below w.heap.size w (((((((((w28.setCell ⟨gb222, 0, none⟩ (.string ((rd_T130 l0 x10_1).f0))).setCell ⟨gb222, 1, none⟩ (.int .i64 ((rd_T130 l0 x10_1).f1))).setCell ⟨gb222, 2, none⟩ (.int .i64 ((rd_T130 l0 x10_1).f2))).setCell ⟨gb222, 3, none⟩ (.int .i64 ((rd_T130 l0 x10_1).f3))).setCell ⟨gb222, 4, none⟩ (.int .i64 ((rd_T130 l0 x10_1).f4))).setCell ⟨gb222, 5, none⟩ (.int .i64 ((rd_T130 l0 x10_1).f5))).setCell ⟨gb222, 6, none⟩ (.int .i64 ((rd_T130 l0 x10_1).f6))).setCell ⟨gb222, 7, none⟩ (.int .i64 ((rd_T130 l0 x10_1).f7))).setCell ⟨gb222, 8, none⟩ (.int .i64 ((rd_T130 l0 x10_1).f8)))) := ⟨r0_ HB.out GE222.out⟩
      (try clear BK222)
      (try clear HB)
      generalize (((((((((w28.setCell ⟨gb222, 0, none⟩ (.string ((rd_T130 l0 x10_1).f0))).setCell ⟨gb222, 1, none⟩ (.int .i64 ((rd_T130 l0 x10_1).f1))).setCell ⟨gb222, 2, none⟩ (.int .i64 ((rd_T130 l0 x10_1).f2))).setCell ⟨gb222, 3, none⟩ (.int .i64 ((rd_T130 l0 x10_1).f3))).setCell ⟨gb222, 4, none⟩ (.int .i64 ((rd_T130 l0 x10_1).f4))).setCell ⟨gb222, 5, none⟩ (.int .i64 ((rd_T130 l0 x10_1).f5))).setCell ⟨gb222, 6, none⟩ (.int .i64 ((rd_T130 l0 x10_1).f6))).setCell ⟨gb222, 7, none⟩ (.int .i64 ((rd_T130 l0 x10_1).f7))).setCell ⟨gb222, 8, none⟩ (.int .i64 ((rd_T130 l0 x10_1).f8))) = w30 at n0_ n1_ ⊢
      have BK222 := n0_
      have HB := n1_
      clear n0_ n1_
      replace BK222 := Aside0.mk (blk_drew BK222.out)
      replace HB := Aside0.mk (below_drew1 HB.out)
      refine start_ (n := 18) (S := fun w' => w'.cell? ⟨gb222, 0, none⟩ = some (.string ((rd_T130 l0 x10_1).f0)) ∧ w'.cell? ⟨gb222, 1, none⟩ = some (.int .i64 ((rd_T130 l0 x10_1).f1)) ∧ w'.cell? ⟨gb222, 2, none⟩ = some (.int .i64 ((rd_T130 l0 x10_1).f2)) ∧ w'.cell? ⟨gb222, 3, none⟩ = some (.int .i64 ((rd_T130 l0 x10_1).f3)) ∧ w'.cell? ⟨gb222, 4, none⟩ = some (.int .i64 ((rd_T130 l0 x10_1).f4)) ∧ w'.cell? ⟨gb222, 5, none⟩ = some (.int .i64 ((rd_T130 l0 x10_1).f5)) ∧ w'.cell? ⟨gb222, 6, none⟩ = some (.int .i64 ((rd_T130 l0 x10_1).f6)) ∧ w'.cell? ⟨gb222, 7, none⟩ = some (.int .i64 ((rd_T130 l0 x10_1).f7)) ∧ w'.cell? ⟨gb222, 8, none⟩ = some (.int .i64 ((rd_T130 l0 x10_1).f8))) (ds := []) #[f_,f_,f_,f_,f_,f_,f_,f_,f_,f_,f_,f_,f_,f_,f_,f_,f_,f_] (by kernel_rfl) rfl rfl ⟨(blk_cell BK222.out 0).trans rfl, (blk_cell BK222.out 1).trans rfl, (blk_cell BK222.out 2).trans rfl, (blk_cell BK222.out 3).trans rfl, (blk_cell BK222.out 4).trans rfl, (blk_cell BK222.out 5).trans rfl, (blk_cell BK222.out 6).trans rfl, (blk_cell BK222.out 7).trans rfl, (blk_cell BK222.out 8).trans rfl⟩ (fun hHeld => ?_); refine with_tabW impl_AreArticles.tab6 impl_AreArticles.bits6 (fun HT_ HW_ => ?_)
      generalize w30.drew = w31 at BK222 HB hHeld ⊢
      refine take_ (i := 0) (N := some 15) (v := ?_) (a' := ?_) #[t_,f_,f_,f_,f_,f_,f_,f_,f_,f_,f_,f_,f_,f_,f_,f_,f_,f_] rfl rfl (take_ofW HT_.out HW_.out (by kernel_rfl)) (fun _ _ _ h => h) (Or.inl ⟨by rfl, ?_⟩) hHeld ?_ ?_
      rotate_left
      ·rintro w' ⟨s0, s1, s2, s3, s4, s5, s6, s7, s8⟩
       go_simp
       with_reducible rfl
      rotate_left
      ·simp only [pz_]
       rfl
      refine one_ (i := 1) (N := some 16) #[t_,t_,f_,f_,f_,f_,f_,f_,f_,f_,f_,f_,f_,f_,f_,f_,f_,f_] rfl rfl (one_of HT_.out (by kernel_rfl)) (by decide) (fun K hK => ?_)
      refine goes_ Try.func164 (by kernel_rfl) rfl #[.agg #[.string ((rd_T130 l0 x10_1).f0), .int .i64 ((rd_T130 l0 x10_1).f1), .int .i64 ((rd_T130 l0 x10_1).f2), .int .i64 ((rd_T130 l0 x10_1).f3), .int .i64 ((rd_T130 l0 x10_1).f4), .int .i64 ((rd_T130 l0 x10_1).f5), .int .i64 ((rd_T130 l0 x10_1).f6), .int .i64 ((rd_T130 l0 x10_1).f7), .int .i64 ((rd_T130 l0 x10_1).f8)]] (by rfl) rfl rfl ag_ ?_
      with_reducible refine (impl_IsArticle.calls k1 ((rd_T130 l0 x10_1).f0) ((rd_T130 l0 x10_1).f1) ((rd_T130 l0 x10_1).f2) ((rd_T130 l0 x10_1).f3) ((rd_T130 l0 x10_1).f4) ((rd_T130 l0 x10_1).f5) ((rd_T130 l0 x10_1).f6) ((rd_T130 l0 x10_1).f7) ((rd_T130 l0 x10_1).f8) false _ A6.out).mono ?_
      rintro e w32 ⟨rfl, hb⟩
      refine ⟨_, rfl, ?_⟩
      replace BK222 := Aside0.mk (blk_below (g := gb222) (o := .cells #[.string ((rd_T130 l0 x10_1).f0), .int .i64 ((rd_T130 l0 x10_1).f1), .int .i64 ((rd_T130 l0 x10_1).f2), .int .i64 ((rd_T130 l0 x10_1).f3), .int .i64 ((rd_T130 l0 x10_1).f4), .int .i64 ((rd_T130 l0 x10_1).f5), .int .i64 ((rd_T130 l0 x10_1).f6), .int .i64 ((rd_T130 l0 x10_1).f7), .int .i64 ((rd_T130 l0 x10_1).f8)] 130 (0, 0)) (r1_ BK222.out) hb)
      replace HB := Aside0.mk (below_step (r0_ HB.out GE222.out) hb)
      (try clear hb)
      (try clear hb2)
      (try clear hk)
      (try clear hi)
      refine hK.out _ _ ⟨(blk_cell BK222.out 0).trans rfl, (blk_cell BK222.out 1).trans rfl, (blk_cell BK222.out 2).trans rfl, (blk_cell BK222.out 3).trans rfl, (blk_cell BK222.out 4).trans rfl, (blk_cell BK222.out 5).trans rfl, (blk_cell BK222.out 6).trans rfl, (blk_cell BK222.out 7).trans rfl, (blk_cell BK222.out 8).trans rfl⟩ (fun hHeld => ?_)
      clear hK K
      refine norm_ (a' := ?_) ?_ ?_
      rotate_left
      ·show Act.put _ (some 16) _ = _
       simp only [pz_]
       rfl
      refine pu_ 2 17 #[t_,t_,t_,f_,f_,f_,f_,f_,f_,f_,f_,f_,f_,f_,f_,f_,f_,f_] HT_.out ?_
      refine pu_ 3 18 #[t_,t_,t_,t_,f_,f_,f_,f_,f_,f_,f_,f_,f_,f_,f_,f_,f_,f_] HT_.out ?_
      refine un_ 4 19 #[t_,t_,t_,t_,t_,f_,f_,f_,f_,f_,f_,f_,f_,f_,f_,f_,f_,f_] HT_.out ?_
      refine un_ 5 20 #[t_,t_,t_,t_,t_,t_,f_,f_,f_,f_,f_,f_,f_,f_,f_,f_,f_,f_] HT_.out ?_
      refine un_ 6 21 #[t_,t_,t_,t_,t_,t_,t_,f_,f_,f_,f_,f_,f_,f_,f_,f_,f_,f_] HT_.out ?_
      refine un_ 7 22 #[t_,t_,t_,t_,t_,t_,t_,t_,f_,f_,f_,f_,f_,f_,f_,f_,f_,f_] HT_.out ?_
      refine un_ 8 23 #[t_,t_,t_,t_,t_,t_,t_,t_,t_,f_,f_,f_,f_,f_,f_,f_,f_,f_] HT_.out ?_
      refine un_ 9 24 #[t_,t_,t_,t_,t_,t_,t_,t_,t_,t_,f_,f_,f_,f_,f_,f_,f_,f_] HT_.out ?_
      refine un_ 10 25 #[t_,t_,t_,t_,t_,t_,t_,t_,t_,t_,t_,f_,f_,f_,f_,f_,f_,f_] HT_.out ?_
      refine un_ 11 26 #[t_,t_,t_,t_,t_,t_,t_,t_,t_,t_,t_,t_,f_,f_,f_,f_,f_,f_] HT_.out ?_
      refine un_ 12 27 #[t_,t_,t_,t_,t_,t_,t_,t_,t_,t_,t_,t_,t_,f_,f_,f_,f_,f_] HT_.out ?_
      refine un_ 13 28 #[t_,t_,t_,t_,t_,t_,t_,t_,t_,t_,t_,t_,t_,t_,f_,f_,f_,f_] HT_.out ?_
      refine un_ 14 29 #[t_,t_,t_,t_,t_,t_,t_,t_,t_,t_,t_,t_,t_,t_,t_,f_,f_,f_] HT_.out ?_
      refine un_ 15 30 #[t_,t_,t_,t_,t_,t_,t_,t_,t_,t_,t_,t_,t_,t_,t_,t_,f_,f_] HT_.out ?_
      refine un_ 16 31 #[t_,t_,t_,t_,t_,t_,t_,t_,t_,t_,t_,t_,t_,t_,t_,t_,t_,f_] HT_.out ?_
      refine pu_ 17 32 #[t_,t_,t_,t_,t_,t_,t_,t_,t_,t_,t_,t_,t_,t_,t_,t_,t_,t_] HT_.out ?_
      refine done_ (done_of HT_.out (by kernel_rfl)) ?_
      try go_wp2
      go_ret
      exact ⟨by first | rfl | (simp [errW_none, errW_some] <;> rfl) | (simp [*, errW_none, errW_some] <;> rfl), r0_ HB.out GE222.out⟩
    ·rw [if_neg c3] at H
     have c3b0 : decide (x10_1 < (l0.length : Int)) = false := decide_eq_false c3
     clear c3
     obtain rfl := Option.some.inj H
     go_wp2
     go_ret
     exact ⟨by first | rfl | (simp [errW_none, errW_some] <;> rfl) | (simp [*, errW_none, errW_some] <;> rfl), bl_ HB.out⟩
end Go.Proofs.Ytalcbcelalbhiaa.PFnExactGreatestLoad
