/- QFnDistancesi of the law FnDistances: taken over, declaration by declaration, as far as the law leans on it (the words and the printed functions are the kit's own print). No condition but what each says. -/
import Derived.Test.YtalcbcelalbhiaaZFnDistancesav
import Derived.Test.YtalcbcelalbhiaaZFnDistancesaw
import Derived.Test.YtalcbcelalbhiaaZFnDistancesay
import Derived.Test.YtalcbcelalbhiaaZFnDistancesaz
import Derived.Test.YtalcbcelalbhiaaZFnDistancesba
import Derived.Test.YtalcbcelalbhiaaZFnDistancesbd
import Derived.Test.YtalcbcelalbhiaaZFnDistancesbe
namespace Go.Proofs.Ytalcbcelalbhiaa.PFnDistances
open Go.RowKit Go.Proofs.YtalcbcelalbhiaaW.PrintWords Go.Proofs.YtalcbcelalbhiaaW.PrintLast Go.Proofs.YtalcbcelalbhiaaW.PrintMore
attribute [local go_sem] max2_int min2_int max_two min_two max_three min_three max_four min_four   -- for this text's walks alone
set_option linter.unusedVariables false
set_option linter.unusedSimpArgs false
def impl_SquareTo.f (a0_0 : Int) (a0_1 : Int) (a0_2 : Int) (a0_3 : Int) (a0_4 : Int) (a1 : Int) (a2 : Int) : Option (Int × Int) := (impl_IsArea.f a0_0 a0_1 a0_2 a0_3 a0_4).bind fun t445 => (if t445 = true then ((impl_isPlace.f a1 a2).bind fun t446 => (if t446 = true then ((impl_squareTo.f a0_0 a0_1 a0_2 a0_3 a0_4 a1 a2).bind fun t447 => (some (t447, 0))) else (some (0, 2)))) else (some (0, 1)))
set_option maxHeartbeats 8000000 in
set_option maxRecDepth 100000 in
theorem impl_SquareTo.calls (a0_0 : Int) (a0_1 : Int) (a0_2 : Int) (a0_3 : Int) (a0_4 : Int) (a1 : Int) (a2 : Int) (r1 : Int) (r2 : Int) (w : World) (h : impl_SquareTo.f a0_0 a0_1 a0_2 a0_3 a0_4 a1 a2 = some (r1, r2)) :
  Calls Try.prog 57 #[.agg #[.int .i64 a0_0, .int .i64 a0_1, .int .i64 a0_2, .int .i64 a0_3, .int .i64 a0_4], .int .i64 a1, .int .i64 a2] w fun e w' => e = .returned (.tuple #[.int .i64 r1, .int .i64 r2]) ∧ Below w.heap.size w w' := by
 have hu83 := Try.underlying83
 have HB := Aside0.mk (Below.refl w.heap.size w)
 have H : ((impl_IsArea.f a0_0 a0_1 a0_2 a0_3 a0_4).bind fun t445 => (if t445 = true then ((impl_isPlace.f a1 a2).bind fun t446 => (if t446 = true then ((impl_squareTo.f a0_0 a0_1 a0_2 a0_3 a0_4 a1 a2).bind fun t447 => (some (t447, 0))) else (some (0, 2)))) else (some (0, 1)))) = some (r1, r2) := h
 clear h
 replace H := Option.bind_eq_some_iff.mp H
 obtain ⟨t445, A40, H⟩ := H
 replace H : (if t445 = true then ((impl_isPlace.f a1 a2).bind fun t446 => (if t446 = true then ((impl_squareTo.f a0_0 a0_1 a0_2 a0_3 a0_4 a1 a2).bind fun t447 => (some (t447, 0))) else (some (0, 2)))) else (some (0, 1))) = some (r1, r2) := H
 have A4 := Aside0.mk A40
 clear A40
 by_cases c5 : t445 = true
 ·subst c5
  have H1 : ((impl_isPlace.f a1 a2).bind fun t446 => (if t446 = true then ((impl_squareTo.f a0_0 a0_1 a0_2 a0_3 a0_4 a1 a2).bind fun t447 => (some (t447, 0))) else (some (0, 2)))) = some (r1, r2) := by rw [if_pos rfl] at H; exact H
  clear H
  have H := H1
  clear H1
  replace H := Option.bind_eq_some_iff.mp H
  obtain ⟨t446, A60, H⟩ := H
  replace H : (if t446 = true then ((impl_squareTo.f a0_0 a0_1 a0_2 a0_3 a0_4 a1 a2).bind fun t447 => (some (t447, 0))) else (some (0, 2))) = some (r1, r2) := H
  have A6 := Aside0.mk A60
  clear A60
  by_cases c7 : t446 = true
  ·subst c7
   have H1 : ((impl_squareTo.f a0_0 a0_1 a0_2 a0_3 a0_4 a1 a2).bind fun t447 => (some (t447, 0))) = some (r1, r2) := by rw [if_pos rfl] at H; exact H
   clear H
   have H := H1
   clear H1
   replace H := Option.bind_eq_some_iff.mp H
   obtain ⟨t447, A80, H⟩ := H
   replace H : (some (t447, 0)) = some (r1, r2) := H
   have A8 := Aside0.mk A80
   clear A80
   simp only [Option.some.injEq, Prod.mk.injEq] at H
   obtain ⟨rfl, rfl⟩ := H
   go_enter Try.func57, Try.ntmps57
   go_wp2_with (first | ((with_reducible refine gate_dst (N := 3) rfl ?_); refine box_event ?hg (N := 3) ?hd (cs := #[.int .i64 a0_0, .int .i64 a0_1, .int .i64 a0_2, .int .i64 a0_3, .int .i64 a0_4]) (t := 83) ?hr ?_; (case hd => rfl); (case hg => rfl); (case hr => first | (go_simp; done) | (go_simp; rfl)); intro gb444 hg w9 hbox hb; have n0_ := Aside0.mk (below_step (bl_ HB.out) hb); have n1_ := Aside0.mk (hbox); have n2_ := Aside0.mk ((by rw [hg]; exact (below_size (bl_ HB.out)) : w.heap.size ≤ gb444)); have n3_ := Aside0.mk ((by rw [hg]; exact (below_size (bl_ HB.out)) : w.heap.size ≤ gb444)); clear HB; have HB := n0_; have BK444 := n1_; have GW444 := n2_; have GE444 := n3_; clear n0_ n1_ n2_ n3_; clear hb hbox hg; have hcz10_0 : w9.cell? ⟨gb444, 0, none⟩ = some (.int .i64 a0_0) := (blk_cell BK444.out 0).trans rfl; have hcz10_1 : w9.cell? ⟨gb444, 1, none⟩ = some (.int .i64 a0_1) := (blk_cell BK444.out 1).trans rfl; have hcz10_2 : w9.cell? ⟨gb444, 2, none⟩ = some (.int .i64 a0_2) := (blk_cell BK444.out 2).trans rfl; have hcz10_3 : w9.cell? ⟨gb444, 3, none⟩ = some (.int .i64 a0_3) := (blk_cell BK444.out 3).trans rfl; have hcz10_4 : w9.cell? ⟨gb444, 4, none⟩ = some (.int .i64 a0_4) := (blk_cell BK444.out 4).trans rfl; have hfz10_0 := blk_frozen BK444.out 0; have hfz10_1 := blk_frozen BK444.out 1; have hfz10_2 := blk_frozen BK444.out 2; have hfz10_3 := blk_frozen BK444.out 3; have hfz10_4 := blk_frozen BK444.out 4) | ((with_reducible refine gate_callee (f := 124) rfl ?_); refine goesL_ (some 9) rfl rfl Try.func124 (by kernel_rfl) rfl #[.agg #[.int .i64 a0_0, .int .i64 a0_1, .int .i64 a0_2, .int .i64 a0_3, .int .i64 a0_4]] rfl (by (try simp only [List.map_toArray, List.map_cons, List.map_nil]); first | done | rfl | (simp only [List.length_drop, List.length_take]; rfl)) ?_; (with_reducible refine (impl_IsArea.calls a0_0 a0_1 a0_2 a0_3 a0_4 true _ A4.out).mono ?_); rintro e w11 ⟨rfl, hb⟩; refine ⟨_, rfl, ?_⟩; have n0_ := Aside0.mk (blk_below (g := gb444) (o := .cells #[.int .i64 a0_0, .int .i64 a0_1, .int .i64 a0_2, .int .i64 a0_3, .int .i64 a0_4] 83 (0, 0)) (by (with_reducible repeat (first | refine blk_drewN ?_ _ | refine blk_drew ?_ | refine blk_alloc ?_ _)); exact BK444.out) hb); have n1_ := Aside0.mk (below_step (by repeat (first | (with_reducible first | exact HB.out | apply below_alloc | apply pw_below_drewN | apply below_drew1 | refine below_set ?_ GE444.out) | exact HB.out)) hb); clear BK444; clear HB; have BK444 := n0_; have HB := n1_; clear n0_ n1_; (try clear hb); (try clear hb2); (try clear hk); (try clear hi)) | ((with_reducible refine gate_callee (f := 92) rfl ?_); refine goesL_ (some 13) rfl rfl Try.func92 (by kernel_rfl) rfl #[.int .i64 a1, .int .i64 a2] rfl (by (try simp only [List.map_toArray, List.map_cons, List.map_nil]); first | done | rfl | (simp only [List.length_drop, List.length_take]; rfl)) ?_; (with_reducible refine (impl_isPlace.calls a1 a2 true _ A6.out).mono ?_); rintro e w' ⟨rfl, ⟨nd, rfl⟩⟩; refine ⟨_, rfl, ?_⟩; have hcz12_0 : w11.cell? ⟨gb444, 0, none⟩ = some (.int .i64 a0_0) := (blk_cell BK444.out 0).trans rfl; have hcz12_1 : w11.cell? ⟨gb444, 1, none⟩ = some (.int .i64 a0_1) := (blk_cell BK444.out 1).trans rfl; have hcz12_2 : w11.cell? ⟨gb444, 2, none⟩ = some (.int .i64 a0_2) := (blk_cell BK444.out 2).trans rfl; have hcz12_3 : w11.cell? ⟨gb444, 3, none⟩ = some (.int .i64 a0_3) := (blk_cell BK444.out 3).trans rfl; have hcz12_4 : w11.cell? ⟨gb444, 4, none⟩ = some (.int .i64 a0_4) := (blk_cell BK444.out 4).trans rfl; have hfz12_0 := blk_frozen BK444.out 0; have hfz12_1 := blk_frozen BK444.out 1; have hfz12_2 := blk_frozen BK444.out 2; have hfz12_3 := blk_frozen BK444.out 3; have hfz12_4 := blk_frozen BK444.out 4) | ((with_reducible refine gate_callee (f := 125) rfl ?_); refine goesL_ (some 18) rfl rfl Try.func125 (by kernel_rfl) rfl #[.agg #[.int .i64 a0_0, .int .i64 a0_1, .int .i64 a0_2, .int .i64 a0_3, .int .i64 a0_4], .int .i64 a1, .int .i64 a2] rfl (by (try simp only [List.map_toArray, List.map_cons, List.map_nil]); first | done | rfl | (simp only [List.length_drop, List.length_take]; rfl)) ?_; (with_reducible refine (impl_squareTo.calls a0_0 a0_1 a0_2 a0_3 a0_4 a1 a2 t447 _ A8.out).mono ?_); rintro e w13 ⟨rfl, hb⟩; refine ⟨_, rfl, ?_⟩; have n0_ := Aside0.mk (blk_below (g := gb444) (o := .cells #[.int .i64 a0_0, .int .i64 a0_1, .int .i64 a0_2, .int .i64 a0_3, .int .i64 a0_4] 83 (0, 0)) (by (with_reducible repeat (first | refine blk_drewN ?_ _ | refine blk_drew ?_ | refine blk_alloc ?_ _)); exact BK444.out) hb); have n1_ := Aside0.mk (below_step (by repeat (first | (with_reducible first | exact HB.out | apply below_alloc | apply pw_below_drewN | apply below_drew1 | refine below_set ?_ GE444.out) | exact HB.out)) hb); clear BK444; clear HB; have BK444 := n0_; have HB := n1_; clear n0_ n1_; (try clear hb); (try clear hb2); (try clear hk); (try clear hi)))
   go_ret2
   exact ⟨by first | rfl | (simp [errW_none, errW_some] <;> rfl) | (simp [*, errW_none, errW_some] <;> rfl), by repeat (first | (with_reducible first | exact HB.out | apply below_alloc | apply pw_below_drewN | apply below_drew1 | refine below_set ?_ GE444.out) | exact HB.out)⟩
  ·replace c7 := Bool.eq_false_iff.mpr c7
   subst c7
   have H1 : (some (0, 2)) = some (r1, r2) := by rw [if_neg (show ¬ (false = true) by decide)] at H; exact H
   clear H
   have H := H1
   clear H1
   simp only [Option.some.injEq, Prod.mk.injEq] at H
   obtain ⟨rfl, rfl⟩ := H
   go_enter Try.func57, Try.ntmps57
   go_wp2_with (first | ((with_reducible refine gate_dst (N := 3) rfl ?_); refine box_event ?hg (N := 3) ?hd (cs := #[.int .i64 a0_0, .int .i64 a0_1, .int .i64 a0_2, .int .i64 a0_3, .int .i64 a0_4]) (t := 83) ?hr ?_; (case hd => rfl); (case hg => rfl); (case hr => first | (go_simp; done) | (go_simp; rfl)); intro gb444 hg w14 hbox hb; have n0_ := Aside0.mk (below_step (bl_ HB.out) hb); have n1_ := Aside0.mk (hbox); have n2_ := Aside0.mk ((by rw [hg]; exact (below_size (bl_ HB.out)) : w.heap.size ≤ gb444)); have n3_ := Aside0.mk ((by rw [hg]; exact (below_size (bl_ HB.out)) : w.heap.size ≤ gb444)); clear HB; have HB := n0_; have BK444 := n1_; have GW444 := n2_; have GE444 := n3_; clear n0_ n1_ n2_ n3_; clear hb hbox hg; have hcz15_0 : w14.cell? ⟨gb444, 0, none⟩ = some (.int .i64 a0_0) := (blk_cell BK444.out 0).trans rfl; have hcz15_1 : w14.cell? ⟨gb444, 1, none⟩ = some (.int .i64 a0_1) := (blk_cell BK444.out 1).trans rfl; have hcz15_2 : w14.cell? ⟨gb444, 2, none⟩ = some (.int .i64 a0_2) := (blk_cell BK444.out 2).trans rfl; have hcz15_3 : w14.cell? ⟨gb444, 3, none⟩ = some (.int .i64 a0_3) := (blk_cell BK444.out 3).trans rfl; have hcz15_4 : w14.cell? ⟨gb444, 4, none⟩ = some (.int .i64 a0_4) := (blk_cell BK444.out 4).trans rfl; have hfz15_0 := blk_frozen BK444.out 0; have hfz15_1 := blk_frozen BK444.out 1; have hfz15_2 := blk_frozen BK444.out 2; have hfz15_3 := blk_frozen BK444.out 3; have hfz15_4 := blk_frozen BK444.out 4) | ((with_reducible refine gate_callee (f := 124) rfl ?_); refine goesL_ (some 9) rfl rfl Try.func124 (by kernel_rfl) rfl #[.agg #[.int .i64 a0_0, .int .i64 a0_1, .int .i64 a0_2, .int .i64 a0_3, .int .i64 a0_4]] rfl (by (try simp only [List.map_toArray, List.map_cons, List.map_nil]); first | done | rfl | (simp only [List.length_drop, List.length_take]; rfl)) ?_; (with_reducible refine (impl_IsArea.calls a0_0 a0_1 a0_2 a0_3 a0_4 true _ A4.out).mono ?_); rintro e w16 ⟨rfl, hb⟩; refine ⟨_, rfl, ?_⟩; have n0_ := Aside0.mk (blk_below (g := gb444) (o := .cells #[.int .i64 a0_0, .int .i64 a0_1, .int .i64 a0_2, .int .i64 a0_3, .int .i64 a0_4] 83 (0, 0)) (by (with_reducible repeat (first | refine blk_drewN ?_ _ | refine blk_drew ?_ | refine blk_alloc ?_ _)); exact BK444.out) hb); have n1_ := Aside0.mk (below_step (by repeat (first | (with_reducible first | exact HB.out | apply below_alloc | apply pw_below_drewN | apply below_drew1 | refine below_set ?_ GE444.out) | exact HB.out)) hb); clear BK444; clear HB; have BK444 := n0_; have HB := n1_; clear n0_ n1_; (try clear hb); (try clear hb2); (try clear hk); (try clear hi)) | ((with_reducible refine gate_callee (f := 92) rfl ?_); refine goesL_ (some 13) rfl rfl Try.func92 (by kernel_rfl) rfl #[.int .i64 a1, .int .i64 a2] rfl (by (try simp only [List.map_toArray, List.map_cons, List.map_nil]); first | done | rfl | (simp only [List.length_drop, List.length_take]; rfl)) ?_; (with_reducible refine (impl_isPlace.calls a1 a2 false _ A6.out).mono ?_); rintro e w' ⟨rfl, ⟨nd, rfl⟩⟩; refine ⟨_, rfl, ?_⟩))
   go_ret2
   exact ⟨by first | rfl | (simp [errW_none, errW_some] <;> rfl) | (simp [*, errW_none, errW_some] <;> rfl), by repeat (first | (with_reducible first | exact HB.out | apply below_alloc | apply pw_below_drewN | apply below_drew1 | refine below_set ?_ GE444.out) | exact HB.out)⟩
 ·replace c5 := Bool.eq_false_iff.mpr c5
  subst c5
  have H1 : (some (0, 1)) = some (r1, r2) := by rw [if_neg (show ¬ (false = true) by decide)] at H; exact H
  clear H
  have H := H1
  clear H1
  simp only [Option.some.injEq, Prod.mk.injEq] at H
  obtain ⟨rfl, rfl⟩ := H
  go_enter Try.func57, Try.ntmps57
  go_wp2_with (first | ((with_reducible refine gate_dst (N := 3) rfl ?_); refine box_event ?hg (N := 3) ?hd (cs := #[.int .i64 a0_0, .int .i64 a0_1, .int .i64 a0_2, .int .i64 a0_3, .int .i64 a0_4]) (t := 83) ?hr ?_; (case hd => rfl); (case hg => rfl); (case hr => first | (go_simp; done) | (go_simp; rfl)); intro gb444 hg w17 hbox hb; have n0_ := Aside0.mk (below_step (bl_ HB.out) hb); have n1_ := Aside0.mk (hbox); have n2_ := Aside0.mk ((by rw [hg]; exact (below_size (bl_ HB.out)) : w.heap.size ≤ gb444)); have n3_ := Aside0.mk ((by rw [hg]; exact (below_size (bl_ HB.out)) : w.heap.size ≤ gb444)); clear HB; have HB := n0_; have BK444 := n1_; have GW444 := n2_; have GE444 := n3_; clear n0_ n1_ n2_ n3_; clear hb hbox hg; have hcz18_0 : w17.cell? ⟨gb444, 0, none⟩ = some (.int .i64 a0_0) := (blk_cell BK444.out 0).trans rfl; have hcz18_1 : w17.cell? ⟨gb444, 1, none⟩ = some (.int .i64 a0_1) := (blk_cell BK444.out 1).trans rfl; have hcz18_2 : w17.cell? ⟨gb444, 2, none⟩ = some (.int .i64 a0_2) := (blk_cell BK444.out 2).trans rfl; have hcz18_3 : w17.cell? ⟨gb444, 3, none⟩ = some (.int .i64 a0_3) := (blk_cell BK444.out 3).trans rfl; have hcz18_4 : w17.cell? ⟨gb444, 4, none⟩ = some (.int .i64 a0_4) := (blk_cell BK444.out 4).trans rfl; have hfz18_0 := blk_frozen BK444.out 0; have hfz18_1 := blk_frozen BK444.out 1; have hfz18_2 := blk_frozen BK444.out 2; have hfz18_3 := blk_frozen BK444.out 3; have hfz18_4 := blk_frozen BK444.out 4) | ((with_reducible refine gate_callee (f := 124) rfl ?_); refine goesL_ (some 9) rfl rfl Try.func124 (by kernel_rfl) rfl #[.agg #[.int .i64 a0_0, .int .i64 a0_1, .int .i64 a0_2, .int .i64 a0_3, .int .i64 a0_4]] rfl (by (try simp only [List.map_toArray, List.map_cons, List.map_nil]); first | done | rfl | (simp only [List.length_drop, List.length_take]; rfl)) ?_; (with_reducible refine (impl_IsArea.calls a0_0 a0_1 a0_2 a0_3 a0_4 false _ A4.out).mono ?_); rintro e w19 ⟨rfl, hb⟩; refine ⟨_, rfl, ?_⟩; have n0_ := Aside0.mk (blk_below (g := gb444) (o := .cells #[.int .i64 a0_0, .int .i64 a0_1, .int .i64 a0_2, .int .i64 a0_3, .int .i64 a0_4] 83 (0, 0)) (by (with_reducible repeat (first | refine blk_drewN ?_ _ | refine blk_drew ?_ | refine blk_alloc ?_ _)); exact BK444.out) hb); have n1_ := Aside0.mk (below_step (by repeat (first | (with_reducible first | exact HB.out | apply below_alloc | apply pw_below_drewN | apply below_drew1 | refine below_set ?_ GE444.out) | exact HB.out)) hb); clear BK444; clear HB; have BK444 := n0_; have HB := n1_; clear n0_ n1_; (try clear hb); (try clear hb2); (try clear hk); (try clear hi)))
  go_ret2
  exact ⟨by first | rfl | (simp [errW_none, errW_some] <;> rfl) | (simp [*, errW_none, errW_some] <;> rfl), by repeat (first | (with_reducible first | exact HB.out | apply below_alloc | apply pw_below_drewN | apply below_drew1 | refine below_set ?_ GE444.out) | exact HB.out)⟩
def laws_hasInt.l0 : Nat → List Int → Int → Int → Option (Bool)
  | 0, _, _, _ => none
  | k + 1, x0, x1, x5 => if x5 < (x0.length : Int) then (if 0 ≤ x5 then (if (rd x0 x5) = x1 then (some true) else (laws_hasInt.l0 k x0 x1 (wrap64 (x5 + 1)))) else (none)) else (some false)
def laws_hasInt.f (k : Nat) (l0 : List Int) (a1 : Int) : Option (Bool) := laws_hasInt.l0 k l0 a1 0
theorem laws_hasInt.mono_l : ∀ k, (∀ y0 y1 y2, LeO (laws_hasInt.l0 k y0 y1 y2) (laws_hasInt.l0 (k + 1) y0 y1 y2))
  | 0 => fun _ _ _ r h => by simp [laws_hasInt.l0] at h
  | k + 1 => by
    have ih0 := laws_hasInt.mono_l k
    · intro y0 y1 y2
      unfold laws_hasInt.l0
      repeat' first
      | (with_reducible exact ih0 _ _ _)
      | (with_reducible exact LeO.refl _)
      | (with_reducible exact LeO.none _)
      | (with_reducible refine LeO.ite ?_ ?_)
      | (with_reducible refine LeO.bind ?_ (fun _ => ?_))
      | exact ih0 _ _ _
      | exact LeO.none _
      | refine LeO.ite ?_ ?_
      | refine LeO.bind ?_ (fun _ => ?_)
theorem laws_hasInt.mono : ∀ a0 a1 k, LeO (laws_hasInt.f k a0 a1) (laws_hasInt.f (k + 1) a0 a1) := by
  intro a0 a1 k
  have ih0 := laws_hasInt.mono_l k
  unfold laws_hasInt.f
  repeat' first
      | (with_reducible exact ih0 _ _ _)
      | (with_reducible exact LeO.refl _)
      | (with_reducible exact LeO.none _)
      | (with_reducible refine LeO.ite ?_ ?_)
      | (with_reducible refine LeO.bind ?_ (fun _ => ?_))
      | exact ih0 _ _ _
      | exact LeO.none _
      | refine LeO.ite ?_ ?_
      | refine LeO.bind ?_ (fun _ => ?_)
set_option maxHeartbeats 8000000 in
set_option maxRecDepth 100000 in
theorem laws_hasInt.calls (k : Nat) (A0 : Option Addr) (c0 : Nat) (l0 : List Int) (a1 : Int) (r : Bool) (w : World) (hr0 : Kd.C (Kd.int .i64) w A0 l0.length l0) (hc0 : l0.length ≤ c0) (h : laws_hasInt.f k l0 a1 = some r) :
    Calls Try.prog 58 #[.slice A0 l0.length c0, .int .i64 a1] w fun e w' => e = .returned (.bool r) ∧ Drawn0 w w' := by
  have HR0 := Aside0.mk hr0
  have HC0 := Aside0.mk hc0
  clear hr0 hc0
  have H : (laws_hasInt.l0 k l0 a1 0) = some r := h
  clear h
  have H' := Aside0.mk H
  clear H
  go_enter Try.func58, Try.ntmps58
  go_wp2
  go_loopg [5] k (fun kq v5 w' => ∃ (x5_1 : Int), v5 = .int .i64 x5_1 ∧ Aside0 (laws_hasInt.l0 kq l0 a1 x5_1 = some r) ∧ Aside0 (kq ≤ k) ∧ Drawn0 w w')
  case atStart => exact ⟨(0), (by first | rfl | (simp; done) | (simp [*]; done)), H', ⟨Nat.le_refl _⟩, by repeat (first | exact Drawn0.refl _ | apply Drawn0.step)⟩
  case round =>
    clear H'
    try clear p2
    obtain ⟨x5_1, rfl, HA, HK1, ⟨m1, rfl⟩⟩ := hrel
    cases gk with
    | zero => exact absurd HA.out (by simp [laws_hasInt.l0])
    | succ k1 =>
      have H := HA.out
      clear HA
      simp only [laws_hasInt.l0] at H
      by_cases c3 : x5_1 < (l0.length : Int)
      · rw [if_pos c3] at H
        have c3b0 : decide (x5_1 < (l0.length : Int)) = true := decide_eq_true c3
        clear c3
        by_cases c4 : 0 ≤ x5_1
        · rw [if_pos c4] at H
          have c4b0 : decide (0 ≤ x5_1) = true := decide_eq_true c4
          clear c4
          by_cases c5 : (rd l0 x5_1) = a1
          · rw [if_pos c5] at H
            have c5b0 : ((rd l0 x5_1) == a1) = true := beq_iff_eq.mpr c5
            have c5b1 : ((rd l0 x5_1) != a1) = false := bne_eq_false_iff_eq.mpr c5
            clear c5
            obtain rfl := Option.some.inj H
            have p448 : 0 ≤ (x5_1 : Int) := od_
            have q448 : x5_1 < (l0.length : Int) := od_
            obtain ⟨ad448, e448, hx448_0⟩ := Kd.at_int HR0.out x5_1 p448 q448
            cases e448
            replace p448 := eq_true p448
            replace q448 := eq_true q448
            go_wp2
            go_ret
            exact ⟨by first | rfl | (simp; done) | (simp [*]; done), by repeat (first | exact Drawn0.refl _ | apply Drawn0.step)⟩
          · rw [if_neg c5] at H
            have c5b0 : ((rd l0 x5_1) == a1) = false := beq_eq_false_iff_ne.mpr c5
            have c5b1 : ((rd l0 x5_1) != a1) = true := bne_iff_ne.mpr c5
            have H' := Aside0.mk H
            clear H
            have p448 : 0 ≤ (x5_1 : Int) := od_
            have q448 : x5_1 < (l0.length : Int) := od_
            obtain ⟨ad448, e448, hx448_0⟩ := Kd.at_int HR0.out x5_1 p448 q448
            cases e448
            replace p448 := eq_true p448
            replace q448 := eq_true q448
            go_wp2
            go_roundg k1
            case measure => have := HK1.out; omega
            case rel => exact ⟨(wrap64 (x5_1 + 1)), (by first | rfl | (simp; done) | (simp [*]; done)), H', ⟨by have := HK1.out; omega⟩, by repeat (first | exact Drawn0.refl _ | apply Drawn0.step)⟩
        · rw [if_neg c4] at H
          exact absurd H (by simp)
      · rw [if_neg c3] at H
        have c3b0 : decide (x5_1 < (l0.length : Int)) = false := decide_eq_false c3
        clear c3
        obtain rfl := Option.some.inj H
        go_wp2
        go_ret
        exact ⟨by first | rfl | (simp; done) | (simp [*]; done), by repeat (first | exact Drawn0.refl _ | apply Drawn0.step)⟩
mutual
def laws_FnDistances.j0 : Nat → List (S112) → List (S83) → Int → Int → Int → Bool → Int → List Int → Int → Int → List (S112) → Int → Int → Int → Int → Bool → Option (Bool)
 | 0, _, _, _, _, _, _, _, _, _, _, _, _, _, _, _, _ => none
 | k + 1, x3, x4, x5, x6, x7, x8, x9, x12, x16, x17, x20, x21, x22, x23, x24, x159 => if x159 = true then (some false) else (if x24 = 0 then (laws_FnDistances.j1 k x3 x4 x5 x6 x7 x8 x9 x12 x16 x17 x20 x21 x22 x23 (decide (x21 > 20))) else (laws_FnDistances.j1 k x3 x4 x5 x6 x7 x8 x9 x12 x16 x17 x20 x21 x22 x23 false))
def laws_FnDistances.j1 : Nat → List (S112) → List (S83) → Int → Int → Int → Bool → Int → List Int → Int → Int → List (S112) → Int → Int → Int → Bool → Option (Bool)
 | 0, _, _, _, _, _, _, _, _, _, _, _, _, _, _, _ => none
 | k + 1, x3, x4, x5, x6, x7, x8, x9, x12, x16, x17, x20, x21, x22, x23, x165 => if x165 = true then ((impl_DistanceFor.f k x20 (wrap64 (x21 - 1)) x22).bind fun bt485 => (if bt485.2 = 0 then (if bt485.1 > x23 then (some false) else (laws_FnDistances.j2 k x3 x4 x5 x6 x7 x8 x9 x12 x16 x17)) else (some false))) else (laws_FnDistances.j2 k x3 x4 x5 x6 x7 x8 x9 x12 x16 x17)
def laws_FnDistances.j2 : Nat → List (S112) → List (S83) → Int → Int → Int → Bool → Int → List Int → Int → Int → Option (Bool)
 | 0, _, _, _, _, _, _, _, _, _, _ => none
 | k + 1, x3, x4, x5, x6, x7, x8, x9, x12, x16, x17 => if x9 = 0 then (if (x8 != ((x12.length : Int) == 0)) = true then (laws_FnDistances.j3 k x3 x4 x5 x6 x7 x12 true) else (if x17 = 0 then (laws_FnDistances.j3 k x3 x4 x5 x6 x7 x12 (x8 != (decide (x5 ≤ x16)))) else (laws_FnDistances.j3 k x3 x4 x5 x6 x7 x12 (x8 != false)))) else (some true)
def laws_FnDistances.j3 : Nat → List (S112) → List (S83) → Int → Int → Int → List Int → Bool → Option (Bool)
 | 0, _, _, _, _, _, _, _ => none
 | k + 1, x3, x4, x5, x6, x7, x12, x198 => if x198 = true then (some false) else (laws_FnDistances.l0 k x3 x4 x5 x6 x7 x12 0)
def laws_FnDistances.l0 : Nat → List (S112) → List (S83) → Int → Int → Int → List Int → Int → Option (Bool)
 | 0, _, _, _, _, _, _, _ => none
 | k + 1, x3, x4, x5, x6, x7, x12, x29 => if x29 < (x4.length : Int) then (if 0 ≤ x29 then ((impl_DistanceFor.f k x3 x5 ((rd_T83 x4 x29).f0)).bind fun bt488 => ((impl_SquareTo.f ((rd_T83 x4 x29).f0) ((rd_T83 x4 x29).f1) ((rd_T83 x4 x29).f2) ((rd_T83 x4 x29).f3) ((rd_T83 x4 x29).f4) x6 x7).bind fun bt491 => (if bt491.2 = 0 then ((laws_hasInt.f k x12 x29).bind fun t493 => (if bt488.2 = 0 then (if (t493 != (decide (bt491.1 < (wrap64 (bt488.1 * bt488.1))))) = true then (some false) else (laws_FnDistances.l0 k x3 x4 x5 x6 x7 x12 (wrap64 (x29 + 1)))) else (if (t493 != true) = true then (some false) else (laws_FnDistances.l0 k x3 x4 x5 x6 x7 x12 (wrap64 (x29 + 1)))))) else (some false)))) else (none)) else (some true)
end
def laws_FnDistances.f (k : Nat) (l0 : List Int) : Option (Bool) := (laws_big.f l0).bind fun t449 => (if t449 = true then (some true) else ((spec_DrawIsAllowed.f k l0).bind fun bt450 => ((impl_IsAllowed.f k bt450.1 bt450.2.1 bt450.2.2.1 bt450.2.2.2.1 bt450.2.2.2.2).bind fun bt459 => ((spec_IsAllowed.f k bt450.1 bt450.2.1 bt450.2.2.1 bt450.2.2.2.1 bt450.2.2.2.2).bind fun bt461 => ((impl_AreasAgainst.f k bt450.1 bt450.2.1 bt450.2.2.1 bt450.2.2.2.1 bt450.2.2.2.2).bind fun bt463 => ((spec_AreasAgainst.f k bt450.1 bt450.2.1 bt450.2.2.1 bt450.2.2.2.1 bt450.2.2.2.2).bind fun bt467 => ((impl_GreatestCalibre.f k bt450.1 bt450.2.1 bt450.2.2.2.1 bt450.2.2.2.2).bind fun bt471 => ((spec_GreatestCalibre.f k bt450.1 bt450.2.1 bt450.2.2.2.1 bt450.2.2.2.2).bind fun bt473 => ((spec_DrawDistanceFor.f k l0).bind fun bt475 => ((impl_DistanceFor.f k bt475.1 bt475.2.1 bt475.2.2).bind fun bt480 => ((spec_DistanceFor.f k bt475.1 bt475.2.1 bt475.2.2).bind fun bt482 => (if bt459.2 = bt461.2 then (if (bt459.1 != bt461.1) = true then (laws_FnDistances.j0 k bt450.1 bt450.2.1 bt450.2.2.1 bt450.2.2.2.1 bt450.2.2.2.2 bt459.1 bt459.2 bt463.1 bt471.1 bt471.2 bt475.1 bt475.2.1 bt475.2.2 bt480.1 bt480.2 true) else (if bt463.2 = bt467.2 then ((laws_likeInts.f k bt463.1 bt467.1).bind fun t484 => (if t484 = true then (if bt471.2 = bt473.2 then (if bt471.1 = bt473.1 then (if bt480.2 = bt482.2 then (if bt480.1 = bt482.1 then (laws_FnDistances.j0 k bt450.1 bt450.2.1 bt450.2.2.1 bt450.2.2.2.1 bt450.2.2.2.2 bt459.1 bt459.2 bt463.1 bt471.1 bt471.2 bt475.1 bt475.2.1 bt475.2.2 bt480.1 bt480.2 (bt463.2 != bt459.2)) else (laws_FnDistances.j0 k bt450.1 bt450.2.1 bt450.2.2.1 bt450.2.2.2.1 bt450.2.2.2.2 bt459.1 bt459.2 bt463.1 bt471.1 bt471.2 bt475.1 bt475.2.1 bt475.2.2 bt480.1 bt480.2 true)) else (laws_FnDistances.j0 k bt450.1 bt450.2.1 bt450.2.2.1 bt450.2.2.2.1 bt450.2.2.2.2 bt459.1 bt459.2 bt463.1 bt471.1 bt471.2 bt475.1 bt475.2.1 bt475.2.2 bt480.1 bt480.2 true)) else (laws_FnDistances.j0 k bt450.1 bt450.2.1 bt450.2.2.1 bt450.2.2.2.1 bt450.2.2.2.2 bt459.1 bt459.2 bt463.1 bt471.1 bt471.2 bt475.1 bt475.2.1 bt475.2.2 bt480.1 bt480.2 true)) else (laws_FnDistances.j0 k bt450.1 bt450.2.1 bt450.2.2.1 bt450.2.2.2.1 bt450.2.2.2.2 bt459.1 bt459.2 bt463.1 bt471.1 bt471.2 bt475.1 bt475.2.1 bt475.2.2 bt480.1 bt480.2 true)) else (laws_FnDistances.j0 k bt450.1 bt450.2.1 bt450.2.2.1 bt450.2.2.2.1 bt450.2.2.2.2 bt459.1 bt459.2 bt463.1 bt471.1 bt471.2 bt475.1 bt475.2.1 bt475.2.2 bt480.1 bt480.2 true))) else (laws_FnDistances.j0 k bt450.1 bt450.2.1 bt450.2.2.1 bt450.2.2.2.1 bt450.2.2.2.2 bt459.1 bt459.2 bt463.1 bt471.1 bt471.2 bt475.1 bt475.2.1 bt475.2.2 bt480.1 bt480.2 true))) else (laws_FnDistances.j0 k bt450.1 bt450.2.1 bt450.2.2.1 bt450.2.2.2.1 bt450.2.2.2.2 bt459.1 bt459.2 bt463.1 bt471.1 bt471.2 bt475.1 bt475.2.1 bt475.2.2 bt480.1 bt480.2 true)))))))))))))
theorem laws_FnDistances.mono_l : ∀ k, (∀ y0 y1 y2 y3 y4 y5 y6 y7 y8 y9 y10 y11 y12 y13 y14 y15, LeO (laws_FnDistances.j0 k y0 y1 y2 y3 y4 y5 y6 y7 y8 y9 y10 y11 y12 y13 y14 y15) (laws_FnDistances.j0 (k + 1) y0 y1 y2 y3 y4 y5 y6 y7 y8 y9 y10 y11 y12 y13 y14 y15)) ∧ (∀ y0 y1 y2 y3 y4 y5 y6 y7 y8 y9 y10 y11 y12 y13 y14, LeO (laws_FnDistances.j1 k y0 y1 y2 y3 y4 y5 y6 y7 y8 y9 y10 y11 y12 y13 y14) (laws_FnDistances.j1 (k + 1) y0 y1 y2 y3 y4 y5 y6 y7 y8 y9 y10 y11 y12 y13 y14)) ∧ (∀ y0 y1 y2 y3 y4 y5 y6 y7 y8 y9, LeO (laws_FnDistances.j2 k y0 y1 y2 y3 y4 y5 y6 y7 y8 y9) (laws_FnDistances.j2 (k + 1) y0 y1 y2 y3 y4 y5 y6 y7 y8 y9)) ∧ (∀ y0 y1 y2 y3 y4 y5 y6, LeO (laws_FnDistances.j3 k y0 y1 y2 y3 y4 y5 y6) (laws_FnDistances.j3 (k + 1) y0 y1 y2 y3 y4 y5 y6)) ∧ (∀ y0 y1 y2 y3 y4 y5 y6, LeO (laws_FnDistances.l0 k y0 y1 y2 y3 y4 y5 y6) (laws_FnDistances.l0 (k + 1) y0 y1 y2 y3 y4 y5 y6))
 | 0 => ⟨fun _ _ _ _ _ _ _ _ _ _ _ _ _ _ _ _ r h => by simp [laws_FnDistances.j0] at h, fun _ _ _ _ _ _ _ _ _ _ _ _ _ _ _ r h => by simp [laws_FnDistances.j1] at h, fun _ _ _ _ _ _ _ _ _ _ r h => by simp [laws_FnDistances.j2] at h, fun _ _ _ _ _ _ _ r h => by simp [laws_FnDistances.j3] at h, fun _ _ _ _ _ _ _ r h => by simp [laws_FnDistances.l0] at h⟩
 | k + 1 => by
  obtain ⟨ih0, ih1, ih2, ih3, ih4⟩ := laws_FnDistances.mono_l k
  refine ⟨?_, ?_, ?_, ?_, ?_⟩
  ·intro y0 y1 y2 y3 y4 y5 y6 y7 y8 y9 y10 y11 y12 y13 y14 y15
   unfold laws_FnDistances.j0
   repeat' first
   | (with_reducible exact ih0 _ _ _ _ _ _ _ _ _ _ _ _ _ _ _ _)
   | (with_reducible exact ih1 _ _ _ _ _ _ _ _ _ _ _ _ _ _ _)
   | (with_reducible exact ih2 _ _ _ _ _ _ _ _ _ _)
   | (with_reducible exact ih3 _ _ _ _ _ _ _)
   | (with_reducible exact ih4 _ _ _ _ _ _ _)
   | (with_reducible exact impl_AreasAgainst.mono _ _ _ _ _ _)
   | (with_reducible exact impl_DistanceFor.mono _ _ _ _)
   | (with_reducible exact impl_GreatestCalibre.mono _ _ _ _ _)
   | (with_reducible exact impl_IsAllowed.mono _ _ _ _ _ _)
   | (with_reducible exact laws_hasInt.mono _ _ _)
   | (with_reducible exact laws_likeInts.mono _ _ _)
   | (with_reducible exact spec_AreasAgainst.mono _ _ _ _ _ _)
   | (with_reducible exact spec_DistanceFor.mono _ _ _ _)
   | (with_reducible exact spec_DrawDistanceFor.mono _ _)
   | (with_reducible exact spec_DrawIsAllowed.mono _ _)
   | (with_reducible exact spec_GreatestCalibre.mono _ _ _ _ _)
   | (with_reducible exact spec_IsAllowed.mono _ _ _ _ _ _)
   | (with_reducible exact LeO.refl _)
   | (with_reducible exact LeO.none _)
   | (with_reducible refine LeO.ite ?_ ?_)
   | (with_reducible refine LeO.bind ?_ (fun _ => ?_))
   | exact ih0 _ _ _ _ _ _ _ _ _ _ _ _ _ _ _ _
   | exact ih1 _ _ _ _ _ _ _ _ _ _ _ _ _ _ _
   | exact ih2 _ _ _ _ _ _ _ _ _ _
   | exact ih3 _ _ _ _ _ _ _
   | exact ih4 _ _ _ _ _ _ _
   | exact impl_AreasAgainst.mono _ _ _ _ _ _
   | exact impl_DistanceFor.mono _ _ _ _
   | exact impl_GreatestCalibre.mono _ _ _ _ _
   | exact impl_IsAllowed.mono _ _ _ _ _ _
   | exact laws_hasInt.mono _ _ _
   | exact laws_likeInts.mono _ _ _
   | exact spec_AreasAgainst.mono _ _ _ _ _ _
   | exact spec_DistanceFor.mono _ _ _ _
   | exact spec_DrawDistanceFor.mono _ _
   | exact spec_DrawIsAllowed.mono _ _
   | exact spec_GreatestCalibre.mono _ _ _ _ _
   | exact spec_IsAllowed.mono _ _ _ _ _ _
   | exact LeO.none _
   | refine LeO.ite ?_ ?_
   | refine LeO.bind ?_ (fun _ => ?_)
  ·intro y0 y1 y2 y3 y4 y5 y6 y7 y8 y9 y10 y11 y12 y13 y14
   unfold laws_FnDistances.j1
   repeat' first
   | (with_reducible exact ih0 _ _ _ _ _ _ _ _ _ _ _ _ _ _ _ _)
   | (with_reducible exact ih1 _ _ _ _ _ _ _ _ _ _ _ _ _ _ _)
   | (with_reducible exact ih2 _ _ _ _ _ _ _ _ _ _)
   | (with_reducible exact ih3 _ _ _ _ _ _ _)
   | (with_reducible exact ih4 _ _ _ _ _ _ _)
   | (with_reducible exact impl_AreasAgainst.mono _ _ _ _ _ _)
   | (with_reducible exact impl_DistanceFor.mono _ _ _ _)
   | (with_reducible exact impl_GreatestCalibre.mono _ _ _ _ _)
   | (with_reducible exact impl_IsAllowed.mono _ _ _ _ _ _)
   | (with_reducible exact laws_hasInt.mono _ _ _)
   | (with_reducible exact laws_likeInts.mono _ _ _)
   | (with_reducible exact spec_AreasAgainst.mono _ _ _ _ _ _)
   | (with_reducible exact spec_DistanceFor.mono _ _ _ _)
   | (with_reducible exact spec_DrawDistanceFor.mono _ _)
   | (with_reducible exact spec_DrawIsAllowed.mono _ _)
   | (with_reducible exact spec_GreatestCalibre.mono _ _ _ _ _)
   | (with_reducible exact spec_IsAllowed.mono _ _ _ _ _ _)
   | (with_reducible exact LeO.refl _)
   | (with_reducible exact LeO.none _)
   | (with_reducible refine LeO.ite ?_ ?_)
   | (with_reducible refine LeO.bind ?_ (fun _ => ?_))
   | exact ih0 _ _ _ _ _ _ _ _ _ _ _ _ _ _ _ _
   | exact ih1 _ _ _ _ _ _ _ _ _ _ _ _ _ _ _
   | exact ih2 _ _ _ _ _ _ _ _ _ _
   | exact ih3 _ _ _ _ _ _ _
   | exact ih4 _ _ _ _ _ _ _
   | exact impl_AreasAgainst.mono _ _ _ _ _ _
   | exact impl_DistanceFor.mono _ _ _ _
   | exact impl_GreatestCalibre.mono _ _ _ _ _
   | exact impl_IsAllowed.mono _ _ _ _ _ _
   | exact laws_hasInt.mono _ _ _
   | exact laws_likeInts.mono _ _ _
   | exact spec_AreasAgainst.mono _ _ _ _ _ _
   | exact spec_DistanceFor.mono _ _ _ _
   | exact spec_DrawDistanceFor.mono _ _
   | exact spec_DrawIsAllowed.mono _ _
   | exact spec_GreatestCalibre.mono _ _ _ _ _
   | exact spec_IsAllowed.mono _ _ _ _ _ _
   | exact LeO.none _
   | refine LeO.ite ?_ ?_
   | refine LeO.bind ?_ (fun _ => ?_)
  ·intro y0 y1 y2 y3 y4 y5 y6 y7 y8 y9
   unfold laws_FnDistances.j2
   repeat' first
   | (with_reducible exact ih0 _ _ _ _ _ _ _ _ _ _ _ _ _ _ _ _)
   | (with_reducible exact ih1 _ _ _ _ _ _ _ _ _ _ _ _ _ _ _)
   | (with_reducible exact ih2 _ _ _ _ _ _ _ _ _ _)
   | (with_reducible exact ih3 _ _ _ _ _ _ _)
   | (with_reducible exact ih4 _ _ _ _ _ _ _)
   | (with_reducible exact impl_AreasAgainst.mono _ _ _ _ _ _)
   | (with_reducible exact impl_DistanceFor.mono _ _ _ _)
   | (with_reducible exact impl_GreatestCalibre.mono _ _ _ _ _)
   | (with_reducible exact impl_IsAllowed.mono _ _ _ _ _ _)
   | (with_reducible exact laws_hasInt.mono _ _ _)
   | (with_reducible exact laws_likeInts.mono _ _ _)
   | (with_reducible exact spec_AreasAgainst.mono _ _ _ _ _ _)
   | (with_reducible exact spec_DistanceFor.mono _ _ _ _)
   | (with_reducible exact spec_DrawDistanceFor.mono _ _)
   | (with_reducible exact spec_DrawIsAllowed.mono _ _)
   | (with_reducible exact spec_GreatestCalibre.mono _ _ _ _ _)
   | (with_reducible exact spec_IsAllowed.mono _ _ _ _ _ _)
   | (with_reducible exact LeO.refl _)
   | (with_reducible exact LeO.none _)
   | (with_reducible refine LeO.ite ?_ ?_)
   | (with_reducible refine LeO.bind ?_ (fun _ => ?_))
   | exact ih0 _ _ _ _ _ _ _ _ _ _ _ _ _ _ _ _
   | exact ih1 _ _ _ _ _ _ _ _ _ _ _ _ _ _ _
   | exact ih2 _ _ _ _ _ _ _ _ _ _
   | exact ih3 _ _ _ _ _ _ _
   | exact ih4 _ _ _ _ _ _ _
   | exact impl_AreasAgainst.mono _ _ _ _ _ _
   | exact impl_DistanceFor.mono _ _ _ _
   | exact impl_GreatestCalibre.mono _ _ _ _ _
   | exact impl_IsAllowed.mono _ _ _ _ _ _
   | exact laws_hasInt.mono _ _ _
   | exact laws_likeInts.mono _ _ _
   | exact spec_AreasAgainst.mono _ _ _ _ _ _
   | exact spec_DistanceFor.mono _ _ _ _
   | exact spec_DrawDistanceFor.mono _ _
   | exact spec_DrawIsAllowed.mono _ _
   | exact spec_GreatestCalibre.mono _ _ _ _ _
   | exact spec_IsAllowed.mono _ _ _ _ _ _
   | exact LeO.none _
   | refine LeO.ite ?_ ?_
   | refine LeO.bind ?_ (fun _ => ?_)
  ·intro y0 y1 y2 y3 y4 y5 y6
   unfold laws_FnDistances.j3
   repeat' first
   | (with_reducible exact ih0 _ _ _ _ _ _ _ _ _ _ _ _ _ _ _ _)
   | (with_reducible exact ih1 _ _ _ _ _ _ _ _ _ _ _ _ _ _ _)
   | (with_reducible exact ih2 _ _ _ _ _ _ _ _ _ _)
   | (with_reducible exact ih3 _ _ _ _ _ _ _)
   | (with_reducible exact ih4 _ _ _ _ _ _ _)
   | (with_reducible exact impl_AreasAgainst.mono _ _ _ _ _ _)
   | (with_reducible exact impl_DistanceFor.mono _ _ _ _)
   | (with_reducible exact impl_GreatestCalibre.mono _ _ _ _ _)
   | (with_reducible exact impl_IsAllowed.mono _ _ _ _ _ _)
   | (with_reducible exact laws_hasInt.mono _ _ _)
   | (with_reducible exact laws_likeInts.mono _ _ _)
   | (with_reducible exact spec_AreasAgainst.mono _ _ _ _ _ _)
   | (with_reducible exact spec_DistanceFor.mono _ _ _ _)
   | (with_reducible exact spec_DrawDistanceFor.mono _ _)
   | (with_reducible exact spec_DrawIsAllowed.mono _ _)
   | (with_reducible exact spec_GreatestCalibre.mono _ _ _ _ _)
   | (with_reducible exact spec_IsAllowed.mono _ _ _ _ _ _)
   | (with_reducible exact LeO.refl _)
   | (with_reducible exact LeO.none _)
   | (with_reducible refine LeO.ite ?_ ?_)
   | (with_reducible refine LeO.bind ?_ (fun _ => ?_))
   | exact ih0 _ _ _ _ _ _ _ _ _ _ _ _ _ _ _ _
   | exact ih1 _ _ _ _ _ _ _ _ _ _ _ _ _ _ _
   | exact ih2 _ _ _ _ _ _ _ _ _ _
   | exact ih3 _ _ _ _ _ _ _
   | exact ih4 _ _ _ _ _ _ _
   | exact impl_AreasAgainst.mono _ _ _ _ _ _
   | exact impl_DistanceFor.mono _ _ _ _
   | exact impl_GreatestCalibre.mono _ _ _ _ _
   | exact impl_IsAllowed.mono _ _ _ _ _ _
   | exact laws_hasInt.mono _ _ _
   | exact laws_likeInts.mono _ _ _
   | exact spec_AreasAgainst.mono _ _ _ _ _ _
   | exact spec_DistanceFor.mono _ _ _ _
   | exact spec_DrawDistanceFor.mono _ _
   | exact spec_DrawIsAllowed.mono _ _
   | exact spec_GreatestCalibre.mono _ _ _ _ _
   | exact spec_IsAllowed.mono _ _ _ _ _ _
   | exact LeO.none _
   | refine LeO.ite ?_ ?_
   | refine LeO.bind ?_ (fun _ => ?_)
  ·intro y0 y1 y2 y3 y4 y5 y6
   unfold laws_FnDistances.l0
   repeat' first
   | (with_reducible exact ih0 _ _ _ _ _ _ _ _ _ _ _ _ _ _ _ _)
   | (with_reducible exact ih1 _ _ _ _ _ _ _ _ _ _ _ _ _ _ _)
   | (with_reducible exact ih2 _ _ _ _ _ _ _ _ _ _)
   | (with_reducible exact ih3 _ _ _ _ _ _ _)
   | (with_reducible exact ih4 _ _ _ _ _ _ _)
   | (with_reducible exact impl_AreasAgainst.mono _ _ _ _ _ _)
   | (with_reducible exact impl_DistanceFor.mono _ _ _ _)
   | (with_reducible exact impl_GreatestCalibre.mono _ _ _ _ _)
   | (with_reducible exact impl_IsAllowed.mono _ _ _ _ _ _)
   | (with_reducible exact laws_hasInt.mono _ _ _)
   | (with_reducible exact laws_likeInts.mono _ _ _)
   | (with_reducible exact spec_AreasAgainst.mono _ _ _ _ _ _)
   | (with_reducible exact spec_DistanceFor.mono _ _ _ _)
   | (with_reducible exact spec_DrawDistanceFor.mono _ _)
   | (with_reducible exact spec_DrawIsAllowed.mono _ _)
   | (with_reducible exact spec_GreatestCalibre.mono _ _ _ _ _)
   | (with_reducible exact spec_IsAllowed.mono _ _ _ _ _ _)
   | (with_reducible exact LeO.refl _)
   | (with_reducible exact LeO.none _)
   | (with_reducible refine LeO.ite ?_ ?_)
   | (with_reducible refine LeO.bind ?_ (fun _ => ?_))
   | exact ih0 _ _ _ _ _ _ _ _ _ _ _ _ _ _ _ _
   | exact ih1 _ _ _ _ _ _ _ _ _ _ _ _ _ _ _
   | exact ih2 _ _ _ _ _ _ _ _ _ _
   | exact ih3 _ _ _ _ _ _ _
   | exact ih4 _ _ _ _ _ _ _
   | exact impl_AreasAgainst.mono _ _ _ _ _ _
   | exact impl_DistanceFor.mono _ _ _ _
   | exact impl_GreatestCalibre.mono _ _ _ _ _
   | exact impl_IsAllowed.mono _ _ _ _ _ _
   | exact laws_hasInt.mono _ _ _
   | exact laws_likeInts.mono _ _ _
   | exact spec_AreasAgainst.mono _ _ _ _ _ _
   | exact spec_DistanceFor.mono _ _ _ _
   | exact spec_DrawDistanceFor.mono _ _
   | exact spec_DrawIsAllowed.mono _ _
   | exact spec_GreatestCalibre.mono _ _ _ _ _
   | exact spec_IsAllowed.mono _ _ _ _ _ _
   | exact LeO.none _
   | refine LeO.ite ?_ ?_
   | refine LeO.bind ?_ (fun _ => ?_)
theorem laws_FnDistances.mono : ∀ a0 k, LeO (laws_FnDistances.f k a0) (laws_FnDistances.f (k + 1) a0) := by
 intro a0 k
 obtain ⟨ih0, ih1, ih2, ih3, ih4⟩ := laws_FnDistances.mono_l k
 unfold laws_FnDistances.f
 repeat' first
   | (with_reducible exact ih0 _ _ _ _ _ _ _ _ _ _ _ _ _ _ _ _)
   | (with_reducible exact ih1 _ _ _ _ _ _ _ _ _ _ _ _ _ _ _)
   | (with_reducible exact ih2 _ _ _ _ _ _ _ _ _ _)
   | (with_reducible exact ih3 _ _ _ _ _ _ _)
   | (with_reducible exact ih4 _ _ _ _ _ _ _)
   | (with_reducible exact impl_AreasAgainst.mono _ _ _ _ _ _)
   | (with_reducible exact impl_DistanceFor.mono _ _ _ _)
   | (with_reducible exact impl_GreatestCalibre.mono _ _ _ _ _)
   | (with_reducible exact impl_IsAllowed.mono _ _ _ _ _ _)
   | (with_reducible exact laws_hasInt.mono _ _ _)
   | (with_reducible exact laws_likeInts.mono _ _ _)
   | (with_reducible exact spec_AreasAgainst.mono _ _ _ _ _ _)
   | (with_reducible exact spec_DistanceFor.mono _ _ _ _)
   | (with_reducible exact spec_DrawDistanceFor.mono _ _)
   | (with_reducible exact spec_DrawIsAllowed.mono _ _)
   | (with_reducible exact spec_GreatestCalibre.mono _ _ _ _ _)
   | (with_reducible exact spec_IsAllowed.mono _ _ _ _ _ _)
   | (with_reducible exact LeO.refl _)
   | (with_reducible exact LeO.none _)
   | (with_reducible refine LeO.ite ?_ ?_)
   | (with_reducible refine LeO.bind ?_ (fun _ => ?_))
   | exact ih0 _ _ _ _ _ _ _ _ _ _ _ _ _ _ _ _
   | exact ih1 _ _ _ _ _ _ _ _ _ _ _ _ _ _ _
   | exact ih2 _ _ _ _ _ _ _ _ _ _
   | exact ih3 _ _ _ _ _ _ _
   | exact ih4 _ _ _ _ _ _ _
   | exact impl_AreasAgainst.mono _ _ _ _ _ _
   | exact impl_DistanceFor.mono _ _ _ _
   | exact impl_GreatestCalibre.mono _ _ _ _ _
   | exact impl_IsAllowed.mono _ _ _ _ _ _
   | exact laws_hasInt.mono _ _ _
   | exact laws_likeInts.mono _ _ _
   | exact spec_AreasAgainst.mono _ _ _ _ _ _
   | exact spec_DistanceFor.mono _ _ _ _
   | exact spec_DrawDistanceFor.mono _ _
   | exact spec_DrawIsAllowed.mono _ _
   | exact spec_GreatestCalibre.mono _ _ _ _ _
   | exact spec_IsAllowed.mono _ _ _ _ _ _
   | exact LeO.none _
   | refine LeO.ite ?_ ?_
   | refine LeO.bind ?_ (fun _ => ?_)
theorem laws_FnDistances.j0_true {k : Nat} {a0} {a1} {a2} {a3} {a4} {a5} {a6} {a7} {a8} {a9} {a10} {a11} {a12} {a13} {a14} {r : Bool} (h : laws_FnDistances.j0 k a0 a1 a2 a3 a4 a5 a6 a7 a8 a9 a10 a11 a12 a13 a14 true = some r) : false = r := by
 cases k with
 | zero => simp [laws_FnDistances.j0] at h
 | succ k => simpa [laws_FnDistances.j0] using h
theorem laws_FnDistances.j3_true {k : Nat} {a0} {a1} {a2} {a3} {a4} {a5} {r : Bool} (h : laws_FnDistances.j3 k a0 a1 a2 a3 a4 a5 true = some r) : false = r := by
 cases k with
 | zero => simp [laws_FnDistances.j3] at h
 | succ k => simpa [laws_FnDistances.j3] using h
set_option maxHeartbeats 8000000 in
set_option maxRecDepth 100000 in
theorem laws_FnDistances.calls (k : Nat) (A0 : Option Addr) (c0 : Nat) (l0 : List Int) (r : Bool) (w : World) (hr0 : Kd.C (Kd.int .u8) w A0 l0.length l0) (hc0 : l0.length ≤ c0) (h : laws_FnDistances.f k l0 = some r) (hT : r = true) :
  Calls Try.prog 8 #[.slice A0 l0.length c0] w fun e w' => e = .returned (.bool r) ∧ Below w.heap.size w w' := by
 have hu83 := Try.underlying83
 have HR0 := Aside0.mk hr0
 have HC0 := Aside0.mk hc0
 clear hr0 hc0
 have HB := Aside0.mk (Below.refl w.heap.size w)
 have H : ((laws_big.f l0).bind fun t449 => (if t449 = true then (some true) else ((spec_DrawIsAllowed.f k l0).bind fun bt450 => ((impl_IsAllowed.f k bt450.1 bt450.2.1 bt450.2.2.1 bt450.2.2.2.1 bt450.2.2.2.2).bind fun bt459 => ((spec_IsAllowed.f k bt450.1 bt450.2.1 bt450.2.2.1 bt450.2.2.2.1 bt450.2.2.2.2).bind fun bt461 => ((impl_AreasAgainst.f k bt450.1 bt450.2.1 bt450.2.2.1 bt450.2.2.2.1 bt450.2.2.2.2).bind fun bt463 => ((spec_AreasAgainst.f k bt450.1 bt450.2.1 bt450.2.2.1 bt450.2.2.2.1 bt450.2.2.2.2).bind fun bt467 => ((impl_GreatestCalibre.f k bt450.1 bt450.2.1 bt450.2.2.2.1 bt450.2.2.2.2).bind fun bt471 => ((spec_GreatestCalibre.f k bt450.1 bt450.2.1 bt450.2.2.2.1 bt450.2.2.2.2).bind fun bt473 => ((spec_DrawDistanceFor.f k l0).bind fun bt475 => ((impl_DistanceFor.f k bt475.1 bt475.2.1 bt475.2.2).bind fun bt480 => ((spec_DistanceFor.f k bt475.1 bt475.2.1 bt475.2.2).bind fun bt482 => (if bt459.2 = bt461.2 then (if (bt459.1 != bt461.1) = true then (laws_FnDistances.j0 k bt450.1 bt450.2.1 bt450.2.2.1 bt450.2.2.2.1 bt450.2.2.2.2 bt459.1 bt459.2 bt463.1 bt471.1 bt471.2 bt475.1 bt475.2.1 bt475.2.2 bt480.1 bt480.2 true) else (if bt463.2 = bt467.2 then ((laws_likeInts.f k bt463.1 bt467.1).bind fun t484 => (if t484 = true then (if bt471.2 = bt473.2 then (if bt471.1 = bt473.1 then (if bt480.2 = bt482.2 then (if bt480.1 = bt482.1 then (laws_FnDistances.j0 k bt450.1 bt450.2.1 bt450.2.2.1 bt450.2.2.2.1 bt450.2.2.2.2 bt459.1 bt459.2 bt463.1 bt471.1 bt471.2 bt475.1 bt475.2.1 bt475.2.2 bt480.1 bt480.2 (bt463.2 != bt459.2)) else (laws_FnDistances.j0 k bt450.1 bt450.2.1 bt450.2.2.1 bt450.2.2.2.1 bt450.2.2.2.2 bt459.1 bt459.2 bt463.1 bt471.1 bt471.2 bt475.1 bt475.2.1 bt475.2.2 bt480.1 bt480.2 true)) else (laws_FnDistances.j0 k bt450.1 bt450.2.1 bt450.2.2.1 bt450.2.2.2.1 bt450.2.2.2.2 bt459.1 bt459.2 bt463.1 bt471.1 bt471.2 bt475.1 bt475.2.1 bt475.2.2 bt480.1 bt480.2 true)) else (laws_FnDistances.j0 k bt450.1 bt450.2.1 bt450.2.2.1 bt450.2.2.2.1 bt450.2.2.2.2 bt459.1 bt459.2 bt463.1 bt471.1 bt471.2 bt475.1 bt475.2.1 bt475.2.2 bt480.1 bt480.2 true)) else (laws_FnDistances.j0 k bt450.1 bt450.2.1 bt450.2.2.1 bt450.2.2.2.1 bt450.2.2.2.2 bt459.1 bt459.2 bt463.1 bt471.1 bt471.2 bt475.1 bt475.2.1 bt475.2.2 bt480.1 bt480.2 true)) else (laws_FnDistances.j0 k bt450.1 bt450.2.1 bt450.2.2.1 bt450.2.2.2.1 bt450.2.2.2.2 bt459.1 bt459.2 bt463.1 bt471.1 bt471.2 bt475.1 bt475.2.1 bt475.2.2 bt480.1 bt480.2 true))) else (laws_FnDistances.j0 k bt450.1 bt450.2.1 bt450.2.2.1 bt450.2.2.2.1 bt450.2.2.2.2 bt459.1 bt459.2 bt463.1 bt471.1 bt471.2 bt475.1 bt475.2.1 bt475.2.2 bt480.1 bt480.2 true))) else (laws_FnDistances.j0 k bt450.1 bt450.2.1 bt450.2.2.1 bt450.2.2.2.1 bt450.2.2.2.2 bt459.1 bt459.2 bt463.1 bt471.1 bt471.2 bt475.1 bt475.2.1 bt475.2.2 bt480.1 bt480.2 true)))))))))))))) = some r := h
 clear h
 replace H := Option.bind_eq_some_iff.mp H
 obtain ⟨t449, A20, H⟩ := H
 replace H : (if t449 = true then (some true) else ((spec_DrawIsAllowed.f k l0).bind fun bt450 => ((impl_IsAllowed.f k bt450.1 bt450.2.1 bt450.2.2.1 bt450.2.2.2.1 bt450.2.2.2.2).bind fun bt459 => ((spec_IsAllowed.f k bt450.1 bt450.2.1 bt450.2.2.1 bt450.2.2.2.1 bt450.2.2.2.2).bind fun bt461 => ((impl_AreasAgainst.f k bt450.1 bt450.2.1 bt450.2.2.1 bt450.2.2.2.1 bt450.2.2.2.2).bind fun bt463 => ((spec_AreasAgainst.f k bt450.1 bt450.2.1 bt450.2.2.1 bt450.2.2.2.1 bt450.2.2.2.2).bind fun bt467 => ((impl_GreatestCalibre.f k bt450.1 bt450.2.1 bt450.2.2.2.1 bt450.2.2.2.2).bind fun bt471 => ((spec_GreatestCalibre.f k bt450.1 bt450.2.1 bt450.2.2.2.1 bt450.2.2.2.2).bind fun bt473 => ((spec_DrawDistanceFor.f k l0).bind fun bt475 => ((impl_DistanceFor.f k bt475.1 bt475.2.1 bt475.2.2).bind fun bt480 => ((spec_DistanceFor.f k bt475.1 bt475.2.1 bt475.2.2).bind fun bt482 => (if bt459.2 = bt461.2 then (if (bt459.1 != bt461.1) = true then (laws_FnDistances.j0 k bt450.1 bt450.2.1 bt450.2.2.1 bt450.2.2.2.1 bt450.2.2.2.2 bt459.1 bt459.2 bt463.1 bt471.1 bt471.2 bt475.1 bt475.2.1 bt475.2.2 bt480.1 bt480.2 true) else (if bt463.2 = bt467.2 then ((laws_likeInts.f k bt463.1 bt467.1).bind fun t484 => (if t484 = true then (if bt471.2 = bt473.2 then (if bt471.1 = bt473.1 then (if bt480.2 = bt482.2 then (if bt480.1 = bt482.1 then (laws_FnDistances.j0 k bt450.1 bt450.2.1 bt450.2.2.1 bt450.2.2.2.1 bt450.2.2.2.2 bt459.1 bt459.2 bt463.1 bt471.1 bt471.2 bt475.1 bt475.2.1 bt475.2.2 bt480.1 bt480.2 (bt463.2 != bt459.2)) else (laws_FnDistances.j0 k bt450.1 bt450.2.1 bt450.2.2.1 bt450.2.2.2.1 bt450.2.2.2.2 bt459.1 bt459.2 bt463.1 bt471.1 bt471.2 bt475.1 bt475.2.1 bt475.2.2 bt480.1 bt480.2 true)) else (laws_FnDistances.j0 k bt450.1 bt450.2.1 bt450.2.2.1 bt450.2.2.2.1 bt450.2.2.2.2 bt459.1 bt459.2 bt463.1 bt471.1 bt471.2 bt475.1 bt475.2.1 bt475.2.2 bt480.1 bt480.2 true)) else (laws_FnDistances.j0 k bt450.1 bt450.2.1 bt450.2.2.1 bt450.2.2.2.1 bt450.2.2.2.2 bt459.1 bt459.2 bt463.1 bt471.1 bt471.2 bt475.1 bt475.2.1 bt475.2.2 bt480.1 bt480.2 true)) else (laws_FnDistances.j0 k bt450.1 bt450.2.1 bt450.2.2.1 bt450.2.2.2.1 bt450.2.2.2.2 bt459.1 bt459.2 bt463.1 bt471.1 bt471.2 bt475.1 bt475.2.1 bt475.2.2 bt480.1 bt480.2 true)) else (laws_FnDistances.j0 k bt450.1 bt450.2.1 bt450.2.2.1 bt450.2.2.2.1 bt450.2.2.2.2 bt459.1 bt459.2 bt463.1 bt471.1 bt471.2 bt475.1 bt475.2.1 bt475.2.2 bt480.1 bt480.2 true))) else (laws_FnDistances.j0 k bt450.1 bt450.2.1 bt450.2.2.1 bt450.2.2.2.1 bt450.2.2.2.2 bt459.1 bt459.2 bt463.1 bt471.1 bt471.2 bt475.1 bt475.2.1 bt475.2.2 bt480.1 bt480.2 true))) else (laws_FnDistances.j0 k bt450.1 bt450.2.1 bt450.2.2.1 bt450.2.2.2.1 bt450.2.2.2.2 bt459.1 bt459.2 bt463.1 bt471.1 bt471.2 bt475.1 bt475.2.1 bt475.2.2 bt480.1 bt480.2 true))))))))))))) = some r := H
 have A2 := Aside0.mk A20
 clear A20
 by_cases c3 : t449 = true
 ·subst c3
  have H1 : (some true) = some r := by rw [if_pos rfl] at H; exact H
  clear H
  have H := H1
  clear H1
  obtain rfl := Option.some.inj H
  go_enter Try.func8, Try.ntmps8
  go_wp2_with (first | ((with_reducible refine gate_callee (f := 47) rfl ?_); refine goesL_ (some 35) rfl rfl Try.func47 (by kernel_rfl) rfl #[.slice A0 l0.length c0] rfl (by (try simp only [List.map_toArray, List.map_cons, List.map_nil]); first | done | rfl | (simp only [List.length_drop, List.length_take]; rfl)) ?_; (with_reducible refine (laws_big.calls _ _ l0 true _ ?side1 ?side2 A2.out).mono ?_); (case side1 => repeat (first | exact HR0.out | (with_reducible refine Kd.C_alloc ?_ _) | (with_reducible refine Kd.C_drewN ?_ _) | (with_reducible refine Kd.C_drew ?_))); (case side2 => exact HC0.out); rintro e w' ⟨rfl, ⟨nd, rfl⟩⟩; refine ⟨_, rfl, ?_⟩))
  go_ret
  exact ⟨by first | rfl | (simp [errW_none, errW_some] <;> rfl) | (simp [*, errW_none, errW_some] <;> rfl), bl_ HB.out⟩
 ·as_aux_lemma =>
   replace c3 := Bool.eq_false_iff.mpr c3
   subst c3
   have H1 : ((spec_DrawIsAllowed.f k l0).bind fun bt450 => ((impl_IsAllowed.f k bt450.1 bt450.2.1 bt450.2.2.1 bt450.2.2.2.1 bt450.2.2.2.2).bind fun bt459 => ((spec_IsAllowed.f k bt450.1 bt450.2.1 bt450.2.2.1 bt450.2.2.2.1 bt450.2.2.2.2).bind fun bt461 => ((impl_AreasAgainst.f k bt450.1 bt450.2.1 bt450.2.2.1 bt450.2.2.2.1 bt450.2.2.2.2).bind fun bt463 => ((spec_AreasAgainst.f k bt450.1 bt450.2.1 bt450.2.2.1 bt450.2.2.2.1 bt450.2.2.2.2).bind fun bt467 => ((impl_GreatestCalibre.f k bt450.1 bt450.2.1 bt450.2.2.2.1 bt450.2.2.2.2).bind fun bt471 => ((spec_GreatestCalibre.f k bt450.1 bt450.2.1 bt450.2.2.2.1 bt450.2.2.2.2).bind fun bt473 => ((spec_DrawDistanceFor.f k l0).bind fun bt475 => ((impl_DistanceFor.f k bt475.1 bt475.2.1 bt475.2.2).bind fun bt480 => ((spec_DistanceFor.f k bt475.1 bt475.2.1 bt475.2.2).bind fun bt482 => (if bt459.2 = bt461.2 then (if (bt459.1 != bt461.1) = true then (laws_FnDistances.j0 k bt450.1 bt450.2.1 bt450.2.2.1 bt450.2.2.2.1 bt450.2.2.2.2 bt459.1 bt459.2 bt463.1 bt471.1 bt471.2 bt475.1 bt475.2.1 bt475.2.2 bt480.1 bt480.2 true) else (if bt463.2 = bt467.2 then ((laws_likeInts.f k bt463.1 bt467.1).bind fun t484 => (if t484 = true then (if bt471.2 = bt473.2 then (if bt471.1 = bt473.1 then (if bt480.2 = bt482.2 then (if bt480.1 = bt482.1 then (laws_FnDistances.j0 k bt450.1 bt450.2.1 bt450.2.2.1 bt450.2.2.2.1 bt450.2.2.2.2 bt459.1 bt459.2 bt463.1 bt471.1 bt471.2 bt475.1 bt475.2.1 bt475.2.2 bt480.1 bt480.2 (bt463.2 != bt459.2)) else (laws_FnDistances.j0 k bt450.1 bt450.2.1 bt450.2.2.1 bt450.2.2.2.1 bt450.2.2.2.2 bt459.1 bt459.2 bt463.1 bt471.1 bt471.2 bt475.1 bt475.2.1 bt475.2.2 bt480.1 bt480.2 true)) else (laws_FnDistances.j0 k bt450.1 bt450.2.1 bt450.2.2.1 bt450.2.2.2.1 bt450.2.2.2.2 bt459.1 bt459.2 bt463.1 bt471.1 bt471.2 bt475.1 bt475.2.1 bt475.2.2 bt480.1 bt480.2 true)) else (laws_FnDistances.j0 k bt450.1 bt450.2.1 bt450.2.2.1 bt450.2.2.2.1 bt450.2.2.2.2 bt459.1 bt459.2 bt463.1 bt471.1 bt471.2 bt475.1 bt475.2.1 bt475.2.2 bt480.1 bt480.2 true)) else (laws_FnDistances.j0 k bt450.1 bt450.2.1 bt450.2.2.1 bt450.2.2.2.1 bt450.2.2.2.2 bt459.1 bt459.2 bt463.1 bt471.1 bt471.2 bt475.1 bt475.2.1 bt475.2.2 bt480.1 bt480.2 true)) else (laws_FnDistances.j0 k bt450.1 bt450.2.1 bt450.2.2.1 bt450.2.2.2.1 bt450.2.2.2.2 bt459.1 bt459.2 bt463.1 bt471.1 bt471.2 bt475.1 bt475.2.1 bt475.2.2 bt480.1 bt480.2 true))) else (laws_FnDistances.j0 k bt450.1 bt450.2.1 bt450.2.2.1 bt450.2.2.2.1 bt450.2.2.2.2 bt459.1 bt459.2 bt463.1 bt471.1 bt471.2 bt475.1 bt475.2.1 bt475.2.2 bt480.1 bt480.2 true))) else (laws_FnDistances.j0 k bt450.1 bt450.2.1 bt450.2.2.1 bt450.2.2.2.1 bt450.2.2.2.2 bt459.1 bt459.2 bt463.1 bt471.1 bt471.2 bt475.1 bt475.2.1 bt475.2.2 bt480.1 bt480.2 true)))))))))))) = some r := by rw [if_neg (show ¬ (false = true) by decide)] at H; exact H
   clear H
   have H := H1
   clear H1
   replace H := Option.bind_eq_some_iff.mp H
   obtain ⟨⟨t450, t451, t452, t453, t454⟩, A40, H⟩ := H
   replace H : ((impl_IsAllowed.f k t450 t451 t452 t453 t454).bind fun bt459 => ((spec_IsAllowed.f k t450 t451 t452 t453 t454).bind fun bt461 => ((impl_AreasAgainst.f k t450 t451 t452 t453 t454).bind fun bt463 => ((spec_AreasAgainst.f k t450 t451 t452 t453 t454).bind fun bt467 => ((impl_GreatestCalibre.f k t450 t451 t453 t454).bind fun bt471 => ((spec_GreatestCalibre.f k t450 t451 t453 t454).bind fun bt473 => ((spec_DrawDistanceFor.f k l0).bind fun bt475 => ((impl_DistanceFor.f k bt475.1 bt475.2.1 bt475.2.2).bind fun bt480 => ((spec_DistanceFor.f k bt475.1 bt475.2.1 bt475.2.2).bind fun bt482 => (if bt459.2 = bt461.2 then (if (bt459.1 != bt461.1) = true then (laws_FnDistances.j0 k t450 t451 t452 t453 t454 bt459.1 bt459.2 bt463.1 bt471.1 bt471.2 bt475.1 bt475.2.1 bt475.2.2 bt480.1 bt480.2 true) else (if bt463.2 = bt467.2 then ((laws_likeInts.f k bt463.1 bt467.1).bind fun t484 => (if t484 = true then (if bt471.2 = bt473.2 then (if bt471.1 = bt473.1 then (if bt480.2 = bt482.2 then (if bt480.1 = bt482.1 then (laws_FnDistances.j0 k t450 t451 t452 t453 t454 bt459.1 bt459.2 bt463.1 bt471.1 bt471.2 bt475.1 bt475.2.1 bt475.2.2 bt480.1 bt480.2 (bt463.2 != bt459.2)) else (laws_FnDistances.j0 k t450 t451 t452 t453 t454 bt459.1 bt459.2 bt463.1 bt471.1 bt471.2 bt475.1 bt475.2.1 bt475.2.2 bt480.1 bt480.2 true)) else (laws_FnDistances.j0 k t450 t451 t452 t453 t454 bt459.1 bt459.2 bt463.1 bt471.1 bt471.2 bt475.1 bt475.2.1 bt475.2.2 bt480.1 bt480.2 true)) else (laws_FnDistances.j0 k t450 t451 t452 t453 t454 bt459.1 bt459.2 bt463.1 bt471.1 bt471.2 bt475.1 bt475.2.1 bt475.2.2 bt480.1 bt480.2 true)) else (laws_FnDistances.j0 k t450 t451 t452 t453 t454 bt459.1 bt459.2 bt463.1 bt471.1 bt471.2 bt475.1 bt475.2.1 bt475.2.2 bt480.1 bt480.2 true)) else (laws_FnDistances.j0 k t450 t451 t452 t453 t454 bt459.1 bt459.2 bt463.1 bt471.1 bt471.2 bt475.1 bt475.2.1 bt475.2.2 bt480.1 bt480.2 true))) else (laws_FnDistances.j0 k t450 t451 t452 t453 t454 bt459.1 bt459.2 bt463.1 bt471.1 bt471.2 bt475.1 bt475.2.1 bt475.2.2 bt480.1 bt480.2 true))) else (laws_FnDistances.j0 k t450 t451 t452 t453 t454 bt459.1 bt459.2 bt463.1 bt471.1 bt471.2 bt475.1 bt475.2.1 bt475.2.2 bt480.1 bt480.2 true))))))))))) = some r := H
   have A4 := Aside0.mk A40
   clear A40
   replace H := Option.bind_eq_some_iff.mp H
   obtain ⟨⟨t459, t460⟩, A50, H⟩ := H
   replace H : ((spec_IsAllowed.f k t450 t451 t452 t453 t454).bind fun bt461 => ((impl_AreasAgainst.f k t450 t451 t452 t453 t454).bind fun bt463 => ((spec_AreasAgainst.f k t450 t451 t452 t453 t454).bind fun bt467 => ((impl_GreatestCalibre.f k t450 t451 t453 t454).bind fun bt471 => ((spec_GreatestCalibre.f k t450 t451 t453 t454).bind fun bt473 => ((spec_DrawDistanceFor.f k l0).bind fun bt475 => ((impl_DistanceFor.f k bt475.1 bt475.2.1 bt475.2.2).bind fun bt480 => ((spec_DistanceFor.f k bt475.1 bt475.2.1 bt475.2.2).bind fun bt482 => (if t460 = bt461.2 then (if (t459 != bt461.1) = true then (laws_FnDistances.j0 k t450 t451 t452 t453 t454 t459 t460 bt463.1 bt471.1 bt471.2 bt475.1 bt475.2.1 bt475.2.2 bt480.1 bt480.2 true) else (if bt463.2 = bt467.2 then ((laws_likeInts.f k bt463.1 bt467.1).bind fun t484 => (if t484 = true then (if bt471.2 = bt473.2 then (if bt471.1 = bt473.1 then (if bt480.2 = bt482.2 then (if bt480.1 = bt482.1 then (laws_FnDistances.j0 k t450 t451 t452 t453 t454 t459 t460 bt463.1 bt471.1 bt471.2 bt475.1 bt475.2.1 bt475.2.2 bt480.1 bt480.2 (bt463.2 != t460)) else (laws_FnDistances.j0 k t450 t451 t452 t453 t454 t459 t460 bt463.1 bt471.1 bt471.2 bt475.1 bt475.2.1 bt475.2.2 bt480.1 bt480.2 true)) else (laws_FnDistances.j0 k t450 t451 t452 t453 t454 t459 t460 bt463.1 bt471.1 bt471.2 bt475.1 bt475.2.1 bt475.2.2 bt480.1 bt480.2 true)) else (laws_FnDistances.j0 k t450 t451 t452 t453 t454 t459 t460 bt463.1 bt471.1 bt471.2 bt475.1 bt475.2.1 bt475.2.2 bt480.1 bt480.2 true)) else (laws_FnDistances.j0 k t450 t451 t452 t453 t454 t459 t460 bt463.1 bt471.1 bt471.2 bt475.1 bt475.2.1 bt475.2.2 bt480.1 bt480.2 true)) else (laws_FnDistances.j0 k t450 t451 t452 t453 t454 t459 t460 bt463.1 bt471.1 bt471.2 bt475.1 bt475.2.1 bt475.2.2 bt480.1 bt480.2 true))) else (laws_FnDistances.j0 k t450 t451 t452 t453 t454 t459 t460 bt463.1 bt471.1 bt471.2 bt475.1 bt475.2.1 bt475.2.2 bt480.1 bt480.2 true))) else (laws_FnDistances.j0 k t450 t451 t452 t453 t454 t459 t460 bt463.1 bt471.1 bt471.2 bt475.1 bt475.2.1 bt475.2.2 bt480.1 bt480.2 true)))))))))) = some r := H
   have A5 := Aside0.mk A50
   clear A50
   replace H := Option.bind_eq_some_iff.mp H
   obtain ⟨⟨t461, t462⟩, A60, H⟩ := H
   replace H : ((impl_AreasAgainst.f k t450 t451 t452 t453 t454).bind fun bt463 => ((spec_AreasAgainst.f k t450 t451 t452 t453 t454).bind fun bt467 => ((impl_GreatestCalibre.f k t450 t451 t453 t454).bind fun bt471 => ((spec_GreatestCalibre.f k t450 t451 t453 t454).bind fun bt473 => ((spec_DrawDistanceFor.f k l0).bind fun bt475 => ((impl_DistanceFor.f k bt475.1 bt475.2.1 bt475.2.2).bind fun bt480 => ((spec_DistanceFor.f k bt475.1 bt475.2.1 bt475.2.2).bind fun bt482 => (if t460 = t462 then (if (t459 != t461) = true then (laws_FnDistances.j0 k t450 t451 t452 t453 t454 t459 t460 bt463.1 bt471.1 bt471.2 bt475.1 bt475.2.1 bt475.2.2 bt480.1 bt480.2 true) else (if bt463.2 = bt467.2 then ((laws_likeInts.f k bt463.1 bt467.1).bind fun t484 => (if t484 = true then (if bt471.2 = bt473.2 then (if bt471.1 = bt473.1 then (if bt480.2 = bt482.2 then (if bt480.1 = bt482.1 then (laws_FnDistances.j0 k t450 t451 t452 t453 t454 t459 t460 bt463.1 bt471.1 bt471.2 bt475.1 bt475.2.1 bt475.2.2 bt480.1 bt480.2 (bt463.2 != t460)) else (laws_FnDistances.j0 k t450 t451 t452 t453 t454 t459 t460 bt463.1 bt471.1 bt471.2 bt475.1 bt475.2.1 bt475.2.2 bt480.1 bt480.2 true)) else (laws_FnDistances.j0 k t450 t451 t452 t453 t454 t459 t460 bt463.1 bt471.1 bt471.2 bt475.1 bt475.2.1 bt475.2.2 bt480.1 bt480.2 true)) else (laws_FnDistances.j0 k t450 t451 t452 t453 t454 t459 t460 bt463.1 bt471.1 bt471.2 bt475.1 bt475.2.1 bt475.2.2 bt480.1 bt480.2 true)) else (laws_FnDistances.j0 k t450 t451 t452 t453 t454 t459 t460 bt463.1 bt471.1 bt471.2 bt475.1 bt475.2.1 bt475.2.2 bt480.1 bt480.2 true)) else (laws_FnDistances.j0 k t450 t451 t452 t453 t454 t459 t460 bt463.1 bt471.1 bt471.2 bt475.1 bt475.2.1 bt475.2.2 bt480.1 bt480.2 true))) else (laws_FnDistances.j0 k t450 t451 t452 t453 t454 t459 t460 bt463.1 bt471.1 bt471.2 bt475.1 bt475.2.1 bt475.2.2 bt480.1 bt480.2 true))) else (laws_FnDistances.j0 k t450 t451 t452 t453 t454 t459 t460 bt463.1 bt471.1 bt471.2 bt475.1 bt475.2.1 bt475.2.2 bt480.1 bt480.2 true))))))))) = some r := H
   have A6 := Aside0.mk A60
   clear A60
   replace H := Option.bind_eq_some_iff.mp H
   obtain ⟨⟨t463, t464⟩, A70, H⟩ := H
   replace H : ((spec_AreasAgainst.f k t450 t451 t452 t453 t454).bind fun bt467 => ((impl_GreatestCalibre.f k t450 t451 t453 t454).bind fun bt471 => ((spec_GreatestCalibre.f k t450 t451 t453 t454).bind fun bt473 => ((spec_DrawDistanceFor.f k l0).bind fun bt475 => ((impl_DistanceFor.f k bt475.1 bt475.2.1 bt475.2.2).bind fun bt480 => ((spec_DistanceFor.f k bt475.1 bt475.2.1 bt475.2.2).bind fun bt482 => (if t460 = t462 then (if (t459 != t461) = true then (laws_FnDistances.j0 k t450 t451 t452 t453 t454 t459 t460 t463 bt471.1 bt471.2 bt475.1 bt475.2.1 bt475.2.2 bt480.1 bt480.2 true) else (if t464 = bt467.2 then ((laws_likeInts.f k t463 bt467.1).bind fun t484 => (if t484 = true then (if bt471.2 = bt473.2 then (if bt471.1 = bt473.1 then (if bt480.2 = bt482.2 then (if bt480.1 = bt482.1 then (laws_FnDistances.j0 k t450 t451 t452 t453 t454 t459 t460 t463 bt471.1 bt471.2 bt475.1 bt475.2.1 bt475.2.2 bt480.1 bt480.2 (t464 != t460)) else (laws_FnDistances.j0 k t450 t451 t452 t453 t454 t459 t460 t463 bt471.1 bt471.2 bt475.1 bt475.2.1 bt475.2.2 bt480.1 bt480.2 true)) else (laws_FnDistances.j0 k t450 t451 t452 t453 t454 t459 t460 t463 bt471.1 bt471.2 bt475.1 bt475.2.1 bt475.2.2 bt480.1 bt480.2 true)) else (laws_FnDistances.j0 k t450 t451 t452 t453 t454 t459 t460 t463 bt471.1 bt471.2 bt475.1 bt475.2.1 bt475.2.2 bt480.1 bt480.2 true)) else (laws_FnDistances.j0 k t450 t451 t452 t453 t454 t459 t460 t463 bt471.1 bt471.2 bt475.1 bt475.2.1 bt475.2.2 bt480.1 bt480.2 true)) else (laws_FnDistances.j0 k t450 t451 t452 t453 t454 t459 t460 t463 bt471.1 bt471.2 bt475.1 bt475.2.1 bt475.2.2 bt480.1 bt480.2 true))) else (laws_FnDistances.j0 k t450 t451 t452 t453 t454 t459 t460 t463 bt471.1 bt471.2 bt475.1 bt475.2.1 bt475.2.2 bt480.1 bt480.2 true))) else (laws_FnDistances.j0 k t450 t451 t452 t453 t454 t459 t460 t463 bt471.1 bt471.2 bt475.1 bt475.2.1 bt475.2.2 bt480.1 bt480.2 true)))))))) = some r := H
   have A7 := Aside0.mk A70
   clear A70
   replace H := Option.bind_eq_some_iff.mp H
   obtain ⟨⟨t467, t468⟩, A80, H⟩ := H
   replace H : ((impl_GreatestCalibre.f k t450 t451 t453 t454).bind fun bt471 => ((spec_GreatestCalibre.f k t450 t451 t453 t454).bind fun bt473 => ((spec_DrawDistanceFor.f k l0).bind fun bt475 => ((impl_DistanceFor.f k bt475.1 bt475.2.1 bt475.2.2).bind fun bt480 => ((spec_DistanceFor.f k bt475.1 bt475.2.1 bt475.2.2).bind fun bt482 => (if t460 = t462 then (if (t459 != t461) = true then (laws_FnDistances.j0 k t450 t451 t452 t453 t454 t459 t460 t463 bt471.1 bt471.2 bt475.1 bt475.2.1 bt475.2.2 bt480.1 bt480.2 true) else (if t464 = t468 then ((laws_likeInts.f k t463 t467).bind fun t484 => (if t484 = true then (if bt471.2 = bt473.2 then (if bt471.1 = bt473.1 then (if bt480.2 = bt482.2 then (if bt480.1 = bt482.1 then (laws_FnDistances.j0 k t450 t451 t452 t453 t454 t459 t460 t463 bt471.1 bt471.2 bt475.1 bt475.2.1 bt475.2.2 bt480.1 bt480.2 (t464 != t460)) else (laws_FnDistances.j0 k t450 t451 t452 t453 t454 t459 t460 t463 bt471.1 bt471.2 bt475.1 bt475.2.1 bt475.2.2 bt480.1 bt480.2 true)) else (laws_FnDistances.j0 k t450 t451 t452 t453 t454 t459 t460 t463 bt471.1 bt471.2 bt475.1 bt475.2.1 bt475.2.2 bt480.1 bt480.2 true)) else (laws_FnDistances.j0 k t450 t451 t452 t453 t454 t459 t460 t463 bt471.1 bt471.2 bt475.1 bt475.2.1 bt475.2.2 bt480.1 bt480.2 true)) else (laws_FnDistances.j0 k t450 t451 t452 t453 t454 t459 t460 t463 bt471.1 bt471.2 bt475.1 bt475.2.1 bt475.2.2 bt480.1 bt480.2 true)) else (laws_FnDistances.j0 k t450 t451 t452 t453 t454 t459 t460 t463 bt471.1 bt471.2 bt475.1 bt475.2.1 bt475.2.2 bt480.1 bt480.2 true))) else (laws_FnDistances.j0 k t450 t451 t452 t453 t454 t459 t460 t463 bt471.1 bt471.2 bt475.1 bt475.2.1 bt475.2.2 bt480.1 bt480.2 true))) else (laws_FnDistances.j0 k t450 t451 t452 t453 t454 t459 t460 t463 bt471.1 bt471.2 bt475.1 bt475.2.1 bt475.2.2 bt480.1 bt480.2 true))))))) = some r := H
   have A8 := Aside0.mk A80
   clear A80
   replace H := Option.bind_eq_some_iff.mp H
   obtain ⟨⟨t471, t472⟩, A90, H⟩ := H
   replace H : ((spec_GreatestCalibre.f k t450 t451 t453 t454).bind fun bt473 => ((spec_DrawDistanceFor.f k l0).bind fun bt475 => ((impl_DistanceFor.f k bt475.1 bt475.2.1 bt475.2.2).bind fun bt480 => ((spec_DistanceFor.f k bt475.1 bt475.2.1 bt475.2.2).bind fun bt482 => (if t460 = t462 then (if (t459 != t461) = true then (laws_FnDistances.j0 k t450 t451 t452 t453 t454 t459 t460 t463 t471 t472 bt475.1 bt475.2.1 bt475.2.2 bt480.1 bt480.2 true) else (if t464 = t468 then ((laws_likeInts.f k t463 t467).bind fun t484 => (if t484 = true then (if t472 = bt473.2 then (if t471 = bt473.1 then (if bt480.2 = bt482.2 then (if bt480.1 = bt482.1 then (laws_FnDistances.j0 k t450 t451 t452 t453 t454 t459 t460 t463 t471 t472 bt475.1 bt475.2.1 bt475.2.2 bt480.1 bt480.2 (t464 != t460)) else (laws_FnDistances.j0 k t450 t451 t452 t453 t454 t459 t460 t463 t471 t472 bt475.1 bt475.2.1 bt475.2.2 bt480.1 bt480.2 true)) else (laws_FnDistances.j0 k t450 t451 t452 t453 t454 t459 t460 t463 t471 t472 bt475.1 bt475.2.1 bt475.2.2 bt480.1 bt480.2 true)) else (laws_FnDistances.j0 k t450 t451 t452 t453 t454 t459 t460 t463 t471 t472 bt475.1 bt475.2.1 bt475.2.2 bt480.1 bt480.2 true)) else (laws_FnDistances.j0 k t450 t451 t452 t453 t454 t459 t460 t463 t471 t472 bt475.1 bt475.2.1 bt475.2.2 bt480.1 bt480.2 true)) else (laws_FnDistances.j0 k t450 t451 t452 t453 t454 t459 t460 t463 t471 t472 bt475.1 bt475.2.1 bt475.2.2 bt480.1 bt480.2 true))) else (laws_FnDistances.j0 k t450 t451 t452 t453 t454 t459 t460 t463 t471 t472 bt475.1 bt475.2.1 bt475.2.2 bt480.1 bt480.2 true))) else (laws_FnDistances.j0 k t450 t451 t452 t453 t454 t459 t460 t463 t471 t472 bt475.1 bt475.2.1 bt475.2.2 bt480.1 bt480.2 true)))))) = some r := H
   have A9 := Aside0.mk A90
   clear A90
   replace H := Option.bind_eq_some_iff.mp H
   obtain ⟨⟨t473, t474⟩, A100, H⟩ := H
   replace H : ((spec_DrawDistanceFor.f k l0).bind fun bt475 => ((impl_DistanceFor.f k bt475.1 bt475.2.1 bt475.2.2).bind fun bt480 => ((spec_DistanceFor.f k bt475.1 bt475.2.1 bt475.2.2).bind fun bt482 => (if t460 = t462 then (if (t459 != t461) = true then (laws_FnDistances.j0 k t450 t451 t452 t453 t454 t459 t460 t463 t471 t472 bt475.1 bt475.2.1 bt475.2.2 bt480.1 bt480.2 true) else (if t464 = t468 then ((laws_likeInts.f k t463 t467).bind fun t484 => (if t484 = true then (if t472 = t474 then (if t471 = t473 then (if bt480.2 = bt482.2 then (if bt480.1 = bt482.1 then (laws_FnDistances.j0 k t450 t451 t452 t453 t454 t459 t460 t463 t471 t472 bt475.1 bt475.2.1 bt475.2.2 bt480.1 bt480.2 (t464 != t460)) else (laws_FnDistances.j0 k t450 t451 t452 t453 t454 t459 t460 t463 t471 t472 bt475.1 bt475.2.1 bt475.2.2 bt480.1 bt480.2 true)) else (laws_FnDistances.j0 k t450 t451 t452 t453 t454 t459 t460 t463 t471 t472 bt475.1 bt475.2.1 bt475.2.2 bt480.1 bt480.2 true)) else (laws_FnDistances.j0 k t450 t451 t452 t453 t454 t459 t460 t463 t471 t472 bt475.1 bt475.2.1 bt475.2.2 bt480.1 bt480.2 true)) else (laws_FnDistances.j0 k t450 t451 t452 t453 t454 t459 t460 t463 t471 t472 bt475.1 bt475.2.1 bt475.2.2 bt480.1 bt480.2 true)) else (laws_FnDistances.j0 k t450 t451 t452 t453 t454 t459 t460 t463 t471 t472 bt475.1 bt475.2.1 bt475.2.2 bt480.1 bt480.2 true))) else (laws_FnDistances.j0 k t450 t451 t452 t453 t454 t459 t460 t463 t471 t472 bt475.1 bt475.2.1 bt475.2.2 bt480.1 bt480.2 true))) else (laws_FnDistances.j0 k t450 t451 t452 t453 t454 t459 t460 t463 t471 t472 bt475.1 bt475.2.1 bt475.2.2 bt480.1 bt480.2 true))))) = some r := H
   have A10 := Aside0.mk A100
   clear A100
   replace H := Option.bind_eq_some_iff.mp H
   obtain ⟨⟨t475, t476, t477⟩, A110, H⟩ := H
   replace H : ((impl_DistanceFor.f k t475 t476 t477).bind fun bt480 => ((spec_DistanceFor.f k t475 t476 t477).bind fun bt482 => (if t460 = t462 then (if (t459 != t461) = true then (laws_FnDistances.j0 k t450 t451 t452 t453 t454 t459 t460 t463 t471 t472 t475 t476 t477 bt480.1 bt480.2 true) else (if t464 = t468 then ((laws_likeInts.f k t463 t467).bind fun t484 => (if t484 = true then (if t472 = t474 then (if t471 = t473 then (if bt480.2 = bt482.2 then (if bt480.1 = bt482.1 then (laws_FnDistances.j0 k t450 t451 t452 t453 t454 t459 t460 t463 t471 t472 t475 t476 t477 bt480.1 bt480.2 (t464 != t460)) else (laws_FnDistances.j0 k t450 t451 t452 t453 t454 t459 t460 t463 t471 t472 t475 t476 t477 bt480.1 bt480.2 true)) else (laws_FnDistances.j0 k t450 t451 t452 t453 t454 t459 t460 t463 t471 t472 t475 t476 t477 bt480.1 bt480.2 true)) else (laws_FnDistances.j0 k t450 t451 t452 t453 t454 t459 t460 t463 t471 t472 t475 t476 t477 bt480.1 bt480.2 true)) else (laws_FnDistances.j0 k t450 t451 t452 t453 t454 t459 t460 t463 t471 t472 t475 t476 t477 bt480.1 bt480.2 true)) else (laws_FnDistances.j0 k t450 t451 t452 t453 t454 t459 t460 t463 t471 t472 t475 t476 t477 bt480.1 bt480.2 true))) else (laws_FnDistances.j0 k t450 t451 t452 t453 t454 t459 t460 t463 t471 t472 t475 t476 t477 bt480.1 bt480.2 true))) else (laws_FnDistances.j0 k t450 t451 t452 t453 t454 t459 t460 t463 t471 t472 t475 t476 t477 bt480.1 bt480.2 true)))) = some r := H
   have A11 := Aside0.mk A110
   clear A110
   replace H := Option.bind_eq_some_iff.mp H
   obtain ⟨⟨t480, t481⟩, A120, H⟩ := H
   replace H : ((spec_DistanceFor.f k t475 t476 t477).bind fun bt482 => (if t460 = t462 then (if (t459 != t461) = true then (laws_FnDistances.j0 k t450 t451 t452 t453 t454 t459 t460 t463 t471 t472 t475 t476 t477 t480 t481 true) else (if t464 = t468 then ((laws_likeInts.f k t463 t467).bind fun t484 => (if t484 = true then (if t472 = t474 then (if t471 = t473 then (if t481 = bt482.2 then (if t480 = bt482.1 then (laws_FnDistances.j0 k t450 t451 t452 t453 t454 t459 t460 t463 t471 t472 t475 t476 t477 t480 t481 (t464 != t460)) else (laws_FnDistances.j0 k t450 t451 t452 t453 t454 t459 t460 t463 t471 t472 t475 t476 t477 t480 t481 true)) else (laws_FnDistances.j0 k t450 t451 t452 t453 t454 t459 t460 t463 t471 t472 t475 t476 t477 t480 t481 true)) else (laws_FnDistances.j0 k t450 t451 t452 t453 t454 t459 t460 t463 t471 t472 t475 t476 t477 t480 t481 true)) else (laws_FnDistances.j0 k t450 t451 t452 t453 t454 t459 t460 t463 t471 t472 t475 t476 t477 t480 t481 true)) else (laws_FnDistances.j0 k t450 t451 t452 t453 t454 t459 t460 t463 t471 t472 t475 t476 t477 t480 t481 true))) else (laws_FnDistances.j0 k t450 t451 t452 t453 t454 t459 t460 t463 t471 t472 t475 t476 t477 t480 t481 true))) else (laws_FnDistances.j0 k t450 t451 t452 t453 t454 t459 t460 t463 t471 t472 t475 t476 t477 t480 t481 true))) = some r := H
   have A12 := Aside0.mk A120
   clear A120
   replace H := Option.bind_eq_some_iff.mp H
   obtain ⟨⟨t482, t483⟩, A130, H⟩ := H
   replace H : (if t460 = t462 then (if (t459 != t461) = true then (laws_FnDistances.j0 k t450 t451 t452 t453 t454 t459 t460 t463 t471 t472 t475 t476 t477 t480 t481 true) else (if t464 = t468 then ((laws_likeInts.f k t463 t467).bind fun t484 => (if t484 = true then (if t472 = t474 then (if t471 = t473 then (if t481 = t483 then (if t480 = t482 then (laws_FnDistances.j0 k t450 t451 t452 t453 t454 t459 t460 t463 t471 t472 t475 t476 t477 t480 t481 (t464 != t460)) else (laws_FnDistances.j0 k t450 t451 t452 t453 t454 t459 t460 t463 t471 t472 t475 t476 t477 t480 t481 true)) else (laws_FnDistances.j0 k t450 t451 t452 t453 t454 t459 t460 t463 t471 t472 t475 t476 t477 t480 t481 true)) else (laws_FnDistances.j0 k t450 t451 t452 t453 t454 t459 t460 t463 t471 t472 t475 t476 t477 t480 t481 true)) else (laws_FnDistances.j0 k t450 t451 t452 t453 t454 t459 t460 t463 t471 t472 t475 t476 t477 t480 t481 true)) else (laws_FnDistances.j0 k t450 t451 t452 t453 t454 t459 t460 t463 t471 t472 t475 t476 t477 t480 t481 true))) else (laws_FnDistances.j0 k t450 t451 t452 t453 t454 t459 t460 t463 t471 t472 t475 t476 t477 t480 t481 true))) else (laws_FnDistances.j0 k t450 t451 t452 t453 t454 t459 t460 t463 t471 t472 t475 t476 t477 t480 t481 true)) = some r := H
   have A13 := Aside0.mk A130
   clear A130
   have HC14 := Aside0.mk H
   clear H
   go_enter Try.func8, Try.ntmps8
   go_upto_region 13 with (first | ((with_reducible refine gate_callee (f := 47) rfl ?_); refine goesL_ (some 35) rfl rfl Try.func47 (by kernel_rfl) rfl #[.slice A0 l0.length c0] rfl (by (try simp only [List.map_toArray, List.map_cons, List.map_nil]); first | done | rfl | (simp only [List.length_drop, List.length_take]; rfl)) ?_; (with_reducible refine (laws_big.calls _ _ l0 false _ ?side1 ?side2 A2.out).mono ?_); (case side1 => repeat (first | exact HR0.out | (with_reducible refine Kd.C_alloc ?_ _) | (with_reducible refine Kd.C_drewN ?_ _) | (with_reducible refine Kd.C_drew ?_))); (case side2 => exact HC0.out); rintro e w' ⟨rfl, ⟨nd, rfl⟩⟩; refine ⟨_, rfl, ?_⟩) | ((with_reducible refine gate_callee (f := 48) rfl ?_); refine goesL_ (some 38) rfl rfl Try.func48 (by kernel_rfl) rfl #[.slice A0 l0.length c0] rfl (by (try simp only [List.map_toArray, List.map_cons, List.map_nil]); first | done | rfl | (simp only [List.length_drop, List.length_take]; rfl)) ?_; (with_reducible refine (spec_DrawIsAllowed.calls k _ _ l0 t450 t451 t452 t453 t454 _ ?side1 ?side2 A4.out).mono ?_); (case side1 => repeat (first | exact HR0.out | (with_reducible refine Kd.C_alloc ?_ _) | (with_reducible refine Kd.C_drewN ?_ _) | (with_reducible refine Kd.C_drew ?_))); (case side2 => exact HC0.out); rintro e w15 ⟨v455, v457, rfl, ho0, ho1, hb⟩; refine ⟨_, rfl, ?_⟩; have n0_ := Aside0.mk (Kd.R_lower ho0 (below_size (bl_ HB.out))); have n1_ := Aside0.mk (Kd.R_lower ho1 (below_size (bl_ HB.out))); have n2_ := Aside0.mk (below_step (bl_ HB.out) hb); clear HB; have HO456 := n0_; have HO458 := n1_; have HB := n2_; clear n0_ n1_ n2_; (try clear hb); (try clear hb2); (try clear hk); (try clear hi); (try clear ho0); (try clear ho1); obtain ⟨Ao16, co16, eo16⟩ := Kd.R_slice HO456.out; subst eo16; obtain ⟨Ao17, co17, eo17⟩ := Kd.R_slice HO458.out; subst eo17) | ((with_reducible refine gate_callee (f := 49) rfl ?_); refine goesL_ (some 50) rfl rfl Try.func49 (by kernel_rfl) rfl #[.slice Ao16 t450.length co16, .slice Ao17 t451.length co17, .int .i64 t452, .int .i64 t453, .int .i64 t454] rfl (by (try simp only [List.map_toArray, List.map_cons, List.map_nil]); first | done | rfl | (simp only [List.length_drop, List.length_take]; rfl)) ?_; (with_reducible refine (impl_IsAllowed.calls k _ _ t450 _ _ t451 t452 t453 t454 t459 t460 _ ?side1 ?side2 ?side3 ?side4 A5.out).mono ?_); (case side1 => repeat (first | exact (Kd.R_reads' HO456.out).2.2 | (with_reducible refine Kd.C_alloc ?_ _) | (with_reducible refine Kd.C_drewN ?_ _) | (with_reducible refine Kd.C_drew ?_))); (case side2 => exact (Kd.R_reads' HO456.out).2.1); (case side3 => repeat (first | exact (Kd.R_reads' HO458.out).2.2 | (with_reducible refine Kd.C_alloc ?_ _) | (with_reducible refine Kd.C_drewN ?_ _) | (with_reducible refine Kd.C_drew ?_))); (case side4 => exact (Kd.R_reads' HO458.out).2.1); rintro e w18 ⟨rfl, hb⟩; refine ⟨_, rfl, ?_⟩; have n0_ := Aside0.mk (Kd.R_below (by (with_reducible repeat (first | apply Kd.R_alloc | apply Kd.R_drewN | apply Kd.R_drew)); exact HO456.out) hb); have n1_ := Aside0.mk (Kd.R_below (by (with_reducible repeat (first | apply Kd.R_alloc | apply Kd.R_drewN | apply Kd.R_drew)); exact HO458.out) hb); have n2_ := Aside0.mk (below_step (bl_ HB.out) hb); clear HO456; clear HO458; clear HB; have HO456 := n0_; have HO458 := n1_; have HB := n2_; clear n0_ n1_ n2_; (try clear hb); (try clear hb2); (try clear hk); (try clear hi)) | ((with_reducible refine gate_callee (f := 50) rfl ?_); refine goesL_ (some 59) rfl rfl Try.func50 (by kernel_rfl) rfl #[.slice Ao16 t450.length co16, .slice Ao17 t451.length co17, .int .i64 t452, .int .i64 t453, .int .i64 t454] rfl (by (try simp only [List.map_toArray, List.map_cons, List.map_nil]); first | done | rfl | (simp only [List.length_drop, List.length_take]; rfl)) ?_; (with_reducible refine (spec_IsAllowed.calls k _ _ t450 _ _ t451 t452 t453 t454 t461 t462 _ ?side1 ?side2 ?side3 ?side4 A6.out).mono ?_); (case side1 => repeat (first | exact (Kd.R_reads' HO456.out).2.2 | (with_reducible refine Kd.C_alloc ?_ _) | (with_reducible refine Kd.C_drewN ?_ _) | (with_reducible refine Kd.C_drew ?_))); (case side2 => exact (Kd.R_reads' HO456.out).2.1); (case side3 => repeat (first | exact (Kd.R_reads' HO458.out).2.2 | (with_reducible refine Kd.C_alloc ?_ _) | (with_reducible refine Kd.C_drewN ?_ _) | (with_reducible refine Kd.C_drew ?_))); (case side4 => exact (Kd.R_reads' HO458.out).2.1); rintro e w19 ⟨rfl, hb⟩; refine ⟨_, rfl, ?_⟩; have n0_ := Aside0.mk (Kd.R_below (by (with_reducible repeat (first | apply Kd.R_alloc | apply Kd.R_drewN | apply Kd.R_drew)); exact HO456.out) hb); have n1_ := Aside0.mk (Kd.R_below (by (with_reducible repeat (first | apply Kd.R_alloc | apply Kd.R_drewN | apply Kd.R_drew)); exact HO458.out) hb); have n2_ := Aside0.mk (below_step (bl_ HB.out) hb); clear HO456; clear HO458; clear HB; have HO456 := n0_; have HO458 := n1_; have HB := n2_; clear n0_ n1_ n2_; (try clear hb); (try clear hb2); (try clear hk); (try clear hi)) | ((with_reducible refine gate_callee (f := 27) rfl ?_); refine goesL_ (some 68) rfl rfl Try.func27 (by kernel_rfl) rfl #[.slice Ao16 t450.length co16, .slice Ao17 t451.length co17, .int .i64 t452, .int .i64 t453, .int .i64 t454] rfl (by (try simp only [List.map_toArray, List.map_cons, List.map_nil]); first | done | rfl | (simp only [List.length_drop, List.length_take]; rfl)) ?_; (with_reducible refine (impl_AreasAgainst.calls k _ _ t450 _ _ t451 t452 t453 t454 t463 t464 _ ?side1 ?side2 ?side3 ?side4 A7.out).mono ?_); (case side1 => repeat (first | exact (Kd.R_reads' HO456.out).2.2 | (with_reducible refine Kd.C_alloc ?_ _) | (with_reducible refine Kd.C_drewN ?_ _) | (with_reducible refine Kd.C_drew ?_))); (case side2 => exact (Kd.R_reads' HO456.out).2.1); (case side3 => repeat (first | exact (Kd.R_reads' HO458.out).2.2 | (with_reducible refine Kd.C_alloc ?_ _) | (with_reducible refine Kd.C_drewN ?_ _) | (with_reducible refine Kd.C_drew ?_))); (case side4 => exact (Kd.R_reads' HO458.out).2.1); rintro e w20 ⟨v465, rfl, ho0, hb⟩; refine ⟨_, rfl, ?_⟩; have n0_ := Aside0.mk (Kd.R_below (by (with_reducible repeat (first | apply Kd.R_alloc | apply Kd.R_drewN | apply Kd.R_drew)); exact HO456.out) hb); have n1_ := Aside0.mk (Kd.R_below (by (with_reducible repeat (first | apply Kd.R_alloc | apply Kd.R_drewN | apply Kd.R_drew)); exact HO458.out) hb); have n2_ := Aside0.mk (Kd.R_lower ho0 (below_size (bl_ HB.out))); have n3_ := Aside0.mk (below_step (bl_ HB.out) hb); clear HO456; clear HO458; clear HB; have HO456 := n0_; have HO458 := n1_; have HO466 := n2_; have HB := n3_; clear n0_ n1_ n2_ n3_; (try clear hb); (try clear hb2); (try clear hk); (try clear hi); (try clear ho0)) | ((with_reducible refine gate_callee (f := 24) rfl ?_); refine goesL_ (some 77) rfl rfl Try.func24 (by kernel_rfl) rfl #[.slice Ao16 t450.length co16, .slice Ao17 t451.length co17, .int .i64 t452, .int .i64 t453, .int .i64 t454] rfl (by (try simp only [List.map_toArray, List.map_cons, List.map_nil]); first | done | rfl | (simp only [List.length_drop, List.length_take]; rfl)) ?_; (with_reducible refine (spec_AreasAgainst.calls k _ _ t450 _ _ t451 t452 t453 t454 t467 t468 _ ?side1 ?side2 ?side3 ?side4 A8.out).mono ?_); (case side1 => repeat (first | exact (Kd.R_reads' HO456.out).2.2 | (with_reducible refine Kd.C_alloc ?_ _) | (with_reducible refine Kd.C_drewN ?_ _) | (with_reducible refine Kd.C_drew ?_))); (case side2 => exact (Kd.R_reads' HO456.out).2.1); (case side3 => repeat (first | exact (Kd.R_reads' HO458.out).2.2 | (with_reducible refine Kd.C_alloc ?_ _) | (with_reducible refine Kd.C_drewN ?_ _) | (with_reducible refine Kd.C_drew ?_))); (case side4 => exact (Kd.R_reads' HO458.out).2.1); rintro e w21 ⟨v469, rfl, ho0, hb⟩; refine ⟨_, rfl, ?_⟩; have n0_ := Aside0.mk (Kd.R_below (by (with_reducible repeat (first | apply Kd.R_alloc | apply Kd.R_drewN | apply Kd.R_drew)); exact HO456.out) hb); have n1_ := Aside0.mk (Kd.R_below (by (with_reducible repeat (first | apply Kd.R_alloc | apply Kd.R_drewN | apply Kd.R_drew)); exact HO458.out) hb); have n2_ := Aside0.mk (Kd.R_elder' (by (with_reducible repeat (first | apply Kd.R_alloc | apply Kd.R_drewN | apply Kd.R_drew)); exact HO466.out) (Kd.R_base ho0) hb); have n3_ := Aside0.mk (Kd.R_lower (Kd.R_new' ho0 (Kd.R_lt (by (with_reducible repeat (first | apply Kd.R_alloc | apply Kd.R_drewN | apply Kd.R_drew)); exact HO466.out))) (below_size (bl_ HB.out))); have n4_ := Aside0.mk (below_step (bl_ HB.out) hb); clear HO456; clear HO458; clear HO466; clear HB; have HO456 := n0_; have HO458 := n1_; have HO466 := n2_; have HO470 := n3_; have HB := n4_; clear n0_ n1_ n2_ n3_ n4_; (try clear hb); (try clear hb2); (try clear hk); (try clear hi); (try clear ho0)) | ((with_reducible refine gate_callee (f := 51) rfl ?_); refine goesL_ (some 85) rfl rfl Try.func51 (by kernel_rfl) rfl #[.slice Ao16 t450.length co16, .slice Ao17 t451.length co17, .int .i64 t453, .int .i64 t454] rfl (by (try simp only [List.map_toArray, List.map_cons, List.map_nil]); first | done | rfl | (simp only [List.length_drop, List.length_take]; rfl)) ?_; (with_reducible refine (impl_GreatestCalibre.calls k _ _ t450 _ _ t451 t453 t454 t471 t472 _ ?side1 ?side2 ?side3 ?side4 A9.out).mono ?_); (case side1 => repeat (first | exact (Kd.R_reads' HO456.out).2.2 | (with_reducible refine Kd.C_alloc ?_ _) | (with_reducible refine Kd.C_drewN ?_ _) | (with_reducible refine Kd.C_drew ?_))); (case side2 => exact (Kd.R_reads' HO456.out).2.1); (case side3 => repeat (first | exact (Kd.R_reads' HO458.out).2.2 | (with_reducible refine Kd.C_alloc ?_ _) | (with_reducible refine Kd.C_drewN ?_ _) | (with_reducible refine Kd.C_drew ?_))); (case side4 => exact (Kd.R_reads' HO458.out).2.1); rintro e w22 ⟨rfl, hb⟩; refine ⟨_, rfl, ?_⟩; have n0_ := Aside0.mk (Kd.R_below (by (with_reducible repeat (first | apply Kd.R_alloc | apply Kd.R_drewN | apply Kd.R_drew)); exact HO456.out) hb); have n1_ := Aside0.mk (Kd.R_below (by (with_reducible repeat (first | apply Kd.R_alloc | apply Kd.R_drewN | apply Kd.R_drew)); exact HO458.out) hb); have n2_ := Aside0.mk (Kd.R_below (by (with_reducible repeat (first | apply Kd.R_alloc | apply Kd.R_drewN | apply Kd.R_drew)); exact HO466.out) hb); have n3_ := Aside0.mk (Kd.R_below (by (with_reducible repeat (first | apply Kd.R_alloc | apply Kd.R_drewN | apply Kd.R_drew)); exact HO470.out) hb); have n4_ := Aside0.mk (below_step (bl_ HB.out) hb); clear HO456; clear HO458; clear HO466; clear HO470; clear HB; have HO456 := n0_; have HO458 := n1_; have HO466 := n2_; have HO470 := n3_; have HB := n4_; clear n0_ n1_ n2_ n3_ n4_; (try clear hb); (try clear hb2); (try clear hk); (try clear hi)) | ((with_reducible refine gate_callee (f := 52) rfl ?_); refine goesL_ (some 93) rfl rfl Try.func52 (by kernel_rfl) rfl #[.slice Ao16 t450.length co16, .slice Ao17 t451.length co17, .int .i64 t453, .int .i64 t454] rfl (by (try simp only [List.map_toArray, List.map_cons, List.map_nil]); first | done | rfl | (simp only [List.length_drop, List.length_take]; rfl)) ?_; (with_reducible refine (spec_GreatestCalibre.calls k _ _ t450 _ _ t451 t453 t454 t473 t474 _ ?side1 ?side2 ?side3 ?side4 A10.out).mono ?_); (case side1 => repeat (first | exact (Kd.R_reads' HO456.out).2.2 | (with_reducible refine Kd.C_alloc ?_ _) | (with_reducible refine Kd.C_drewN ?_ _) | (with_reducible refine Kd.C_drew ?_))); (case side2 => exact (Kd.R_reads' HO456.out).2.1); (case side3 => repeat (first | exact (Kd.R_reads' HO458.out).2.2 | (with_reducible refine Kd.C_alloc ?_ _) | (with_reducible refine Kd.C_drewN ?_ _) | (with_reducible refine Kd.C_drew ?_))); (case side4 => exact (Kd.R_reads' HO458.out).2.1); rintro e w23 ⟨rfl, hb⟩; refine ⟨_, rfl, ?_⟩; have n0_ := Aside0.mk (Kd.R_below (by (with_reducible repeat (first | apply Kd.R_alloc | apply Kd.R_drewN | apply Kd.R_drew)); exact HO456.out) hb); have n1_ := Aside0.mk (Kd.R_below (by (with_reducible repeat (first | apply Kd.R_alloc | apply Kd.R_drewN | apply Kd.R_drew)); exact HO458.out) hb); have n2_ := Aside0.mk (Kd.R_below (by (with_reducible repeat (first | apply Kd.R_alloc | apply Kd.R_drewN | apply Kd.R_drew)); exact HO466.out) hb); have n3_ := Aside0.mk (Kd.R_below (by (with_reducible repeat (first | apply Kd.R_alloc | apply Kd.R_drewN | apply Kd.R_drew)); exact HO470.out) hb); have n4_ := Aside0.mk (below_step (bl_ HB.out) hb); clear HO456; clear HO458; clear HO466; clear HO470; clear HB; have HO456 := n0_; have HO458 := n1_; have HO466 := n2_; have HO470 := n3_; have HB := n4_; clear n0_ n1_ n2_ n3_ n4_; (try clear hb); (try clear hb2); (try clear hk); (try clear hi)) | ((with_reducible refine gate_callee (f := 53) rfl ?_); refine goesL_ (some 98) rfl rfl Try.func53 (by kernel_rfl) rfl #[.slice A0 l0.length c0] rfl (by (try simp only [List.map_toArray, List.map_cons, List.map_nil]); first | done | rfl | (simp only [List.length_drop, List.length_take]; rfl)) ?_; (with_reducible refine (spec_DrawDistanceFor.calls k _ _ l0 t475 t476 t477 _ ?side1 ?side2 A11.out).mono ?_); (case side1 => repeat (first | exact (Kd.C_below HR0.out HB.out) | (with_reducible refine Kd.C_alloc ?_ _) | (with_reducible refine Kd.C_drewN ?_ _) | (with_reducible refine Kd.C_drew ?_))); (case side2 => exact HC0.out); rintro e w24 ⟨v478, rfl, ho0, hb⟩; refine ⟨_, rfl, ?_⟩; have n0_ := Aside0.mk (Kd.R_elder' (by (with_reducible repeat (first | apply Kd.R_alloc | apply Kd.R_drewN | apply Kd.R_drew)); exact HO456.out) (Kd.R_base ho0) hb); have n1_ := Aside0.mk (Kd.R_below (by (with_reducible repeat (first | apply Kd.R_alloc | apply Kd.R_drewN | apply Kd.R_drew)); exact HO458.out) hb); have n2_ := Aside0.mk (Kd.R_below (by (with_reducible repeat (first | apply Kd.R_alloc | apply Kd.R_drewN | apply Kd.R_drew)); exact HO466.out) hb); have n3_ := Aside0.mk (Kd.R_below (by (with_reducible repeat (first | apply Kd.R_alloc | apply Kd.R_drewN | apply Kd.R_drew)); exact HO470.out) hb); have n4_ := Aside0.mk (Kd.R_lower (Kd.R_new' ho0 (Kd.R_lt (by (with_reducible repeat (first | apply Kd.R_alloc | apply Kd.R_drewN | apply Kd.R_drew)); exact HO456.out))) (below_size (bl_ HB.out))); have n5_ := Aside0.mk (below_step (bl_ HB.out) hb); clear HO456; clear HO458; clear HO466; clear HO470; clear HB; have HO456 := n0_; have HO458 := n1_; have HO466 := n2_; have HO470 := n3_; have HO479 := n4_; have HB := n5_; clear n0_ n1_ n2_ n3_ n4_ n5_; (try clear hb); (try clear hb2); (try clear hk); (try clear hi); (try clear ho0); obtain ⟨Ao25, co25, eo25⟩ := Kd.R_slice HO479.out; subst eo25) | ((with_reducible refine gate_callee (f := 54) rfl ?_); refine goesL_ (some 106) rfl rfl Try.func54 (by kernel_rfl) rfl #[.slice Ao25 t475.length co25, .int .i64 t476, .int .i64 t477] rfl (by (try simp only [List.map_toArray, List.map_cons, List.map_nil]); first | done | rfl | (simp only [List.length_drop, List.length_take]; rfl)) ?_; (with_reducible refine (impl_DistanceFor.calls k _ _ t475 t476 t477 t480 t481 _ ?side1 ?side2 A12.out).mono ?_); (case side1 => repeat (first | exact (Kd.R_reads' HO479.out).2.2 | (with_reducible refine Kd.C_alloc ?_ _) | (with_reducible refine Kd.C_drewN ?_ _) | (with_reducible refine Kd.C_drew ?_))); (case side2 => exact (Kd.R_reads' HO479.out).2.1); rintro e w26 ⟨rfl, hb⟩; refine ⟨_, rfl, ?_⟩; have n0_ := Aside0.mk (Kd.R_below (by (with_reducible repeat (first | apply Kd.R_alloc | apply Kd.R_drewN | apply Kd.R_drew)); exact HO456.out) hb); have n1_ := Aside0.mk (Kd.R_below (by (with_reducible repeat (first | apply Kd.R_alloc | apply Kd.R_drewN | apply Kd.R_drew)); exact HO458.out) hb); have n2_ := Aside0.mk (Kd.R_below (by (with_reducible repeat (first | apply Kd.R_alloc | apply Kd.R_drewN | apply Kd.R_drew)); exact HO466.out) hb); have n3_ := Aside0.mk (Kd.R_below (by (with_reducible repeat (first | apply Kd.R_alloc | apply Kd.R_drewN | apply Kd.R_drew)); exact HO470.out) hb); have n4_ := Aside0.mk (Kd.R_below (by (with_reducible repeat (first | apply Kd.R_alloc | apply Kd.R_drewN | apply Kd.R_drew)); exact HO479.out) hb); have n5_ := Aside0.mk (below_step (bl_ HB.out) hb); clear HO456; clear HO458; clear HO466; clear HO470; clear HO479; clear HB; have HO456 := n0_; have HO458 := n1_; have HO466 := n2_; have HO470 := n3_; have HO479 := n4_; have HB := n5_; clear n0_ n1_ n2_ n3_ n4_ n5_; (try clear hb); (try clear hb2); (try clear hk); (try clear hi)) | ((with_reducible refine gate_callee (f := 55) rfl ?_); refine goesL_ (some 113) rfl rfl Try.func55 (by kernel_rfl) rfl #[.slice Ao25 t475.length co25, .int .i64 t476, .int .i64 t477] rfl (by (try simp only [List.map_toArray, List.map_cons, List.map_nil]); first | done | rfl | (simp only [List.length_drop, List.length_take]; rfl)) ?_; (with_reducible refine (spec_DistanceFor.calls k _ _ t475 t476 t477 t482 t483 _ ?side1 ?side2 A13.out).mono ?_); (case side1 => repeat (first | exact (Kd.R_reads' HO479.out).2.2 | (with_reducible refine Kd.C_alloc ?_ _) | (with_reducible refine Kd.C_drewN ?_ _) | (with_reducible refine Kd.C_drew ?_))); (case side2 => exact (Kd.R_reads' HO479.out).2.1); rintro e w27 ⟨rfl, hb⟩; refine ⟨_, rfl, ?_⟩; have n0_ := Aside0.mk (Kd.R_below (by (with_reducible repeat (first | apply Kd.R_alloc | apply Kd.R_drewN | apply Kd.R_drew)); exact HO456.out) hb); have n1_ := Aside0.mk (Kd.R_below (by (with_reducible repeat (first | apply Kd.R_alloc | apply Kd.R_drewN | apply Kd.R_drew)); exact HO458.out) hb); have n2_ := Aside0.mk (Kd.R_below (by (with_reducible repeat (first | apply Kd.R_alloc | apply Kd.R_drewN | apply Kd.R_drew)); exact HO466.out) hb); have n3_ := Aside0.mk (Kd.R_below (by (with_reducible repeat (first | apply Kd.R_alloc | apply Kd.R_drewN | apply Kd.R_drew)); exact HO470.out) hb); have n4_ := Aside0.mk (Kd.R_below (by (with_reducible repeat (first | apply Kd.R_alloc | apply Kd.R_drewN | apply Kd.R_drew)); exact HO479.out) hb); have n5_ := Aside0.mk (below_step (bl_ HB.out) hb); clear HO456; clear HO458; clear HO466; clear HO470; clear HO479; clear HB; have HO456 := n0_; have HO458 := n1_; have HO466 := n2_; have HO470 := n3_; have HO479 := n4_; have HB := n5_; clear n0_ n1_ n2_ n3_ n4_ n5_; (try clear hb); (try clear hb2); (try clear hk); (try clear hi)))
   (try simp only [Act.put, List.setIfInBounds_toArray, List.set_cons_zero, List.set_cons_succ])
   go_cut [159] (fun v159 wc => ∃ (kq : Nat) (x159_13 : Bool), v159 = .bool x159_13 ∧ Aside0 (laws_FnDistances.j0 kq t450 t451 t452 t453 t454 t459 t460 t463 t471 t472 t475 t476 t477 t480 t481 x159_13 = some r) ∧ Aside0 (kq ≤ k) ∧ Aside0 (Kd.R k112 112 wc w.heap.size (fun k_ => some k_ ≠ ((.slice Ao25 t475.length co25) : Value).ownBlock) (.slice Ao16 t450.length co16) t450) ∧ Aside0 (Kd.R k83 83 wc w.heap.size (fun _ => True) (.slice Ao17 t451.length co17) t451) ∧ Aside0 (Kd.R (Kd.int .i64) 2 wc w.heap.size (fun _ => True) v465 t463) ∧ Aside0 (Kd.R k112 112 wc w.heap.size (fun k_ => some k_ ≠ ((.slice Ao16 t450.length co16) : Value).ownBlock) (.slice Ao25 t475.length co25) t475) ∧ Aside0 (Below w.heap.size w wc))
   case first =>
    as_aux_lemma =>
     have H := HC14.out
     clear HC14
     by_cases c28 : t460 = t462
     case neg =>
      rw [if_neg c28] at H
      have c28b0 : (t460 == t462) = false := beq_eq_false_iff_ne.mpr c28
      have c28b1 : (t460 != t462) = true := bne_iff_ne.mpr c28
      (first | rw [c28b0] | (simp only [i64_w, i32_w]; rw [c28b0]) | skip)
      exact absurd ((laws_FnDistances.j0_true H).trans hT) (by decide)
     rw [if_pos c28] at H
     have c28b0 : (t460 == t462) = true := beq_iff_eq.mpr c28
     have c28b1 : (t460 != t462) = false := bne_eq_false_iff_eq.mpr c28
     clear c28
     (first | rw [c28b0] | (simp only [i64_w, i32_w]; rw [c28b0]) | skip)
     by_cases c29 : (t459 != t461) = true
     ·rw [if_pos c29] at H
      have c29b0 : (t459 != t461) = true := c29
      (try (have c29b1 : decide (t459 = t461) = false := by simpa using c29))
      (try (have c29b2 : (t459 == t461) = false := by simpa using c29))
      (try (have c29b3 : ¬ (t459 = t461) := by simpa using c29))
      clear c29
      exact absurd ((laws_FnDistances.j0_true H).trans hT) (by decide)
     ·rw [if_neg c29] at H
      have c29b0 : (t459 != t461) = false := by simpa using c29
      (try (have c29b1 : decide (t459 = t461) = true := by simpa using c29))
      (try (have c29b2 : (t459 == t461) = true := by simpa using c29))
      clear c29
      by_cases c30 : t464 = t468
      case neg =>
       rw [if_neg c30] at H
       have c30b0 : (t464 == t468) = false := beq_eq_false_iff_ne.mpr c30
       have c30b1 : (t464 != t468) = true := bne_iff_ne.mpr c30
       exact absurd ((laws_FnDistances.j0_true H).trans hT) (by decide)
      rw [if_pos c30] at H
      have c30b0 : (t464 == t468) = true := beq_iff_eq.mpr c30
      have c30b1 : (t464 != t468) = false := bne_eq_false_iff_eq.mpr c30
      clear c30
      replace H := Option.bind_eq_some_iff.mp H
      obtain ⟨t484, A310, H⟩ := H
      replace H : (if t484 = true then (if t472 = t474 then (if t471 = t473 then (if t481 = t483 then (if t480 = t482 then (laws_FnDistances.j0 k t450 t451 t452 t453 t454 t459 t460 t463 t471 t472 t475 t476 t477 t480 t481 (t464 != t460)) else (laws_FnDistances.j0 k t450 t451 t452 t453 t454 t459 t460 t463 t471 t472 t475 t476 t477 t480 t481 true)) else (laws_FnDistances.j0 k t450 t451 t452 t453 t454 t459 t460 t463 t471 t472 t475 t476 t477 t480 t481 true)) else (laws_FnDistances.j0 k t450 t451 t452 t453 t454 t459 t460 t463 t471 t472 t475 t476 t477 t480 t481 true)) else (laws_FnDistances.j0 k t450 t451 t452 t453 t454 t459 t460 t463 t471 t472 t475 t476 t477 t480 t481 true)) else (laws_FnDistances.j0 k t450 t451 t452 t453 t454 t459 t460 t463 t471 t472 t475 t476 t477 t480 t481 true)) = some r := H
      have A31 := Aside0.mk A310
      clear A310
      by_cases c32 : t484 = true
      ·subst c32
       have H1 : (if t472 = t474 then (if t471 = t473 then (if t481 = t483 then (if t480 = t482 then (laws_FnDistances.j0 k t450 t451 t452 t453 t454 t459 t460 t463 t471 t472 t475 t476 t477 t480 t481 (t464 != t460)) else (laws_FnDistances.j0 k t450 t451 t452 t453 t454 t459 t460 t463 t471 t472 t475 t476 t477 t480 t481 true)) else (laws_FnDistances.j0 k t450 t451 t452 t453 t454 t459 t460 t463 t471 t472 t475 t476 t477 t480 t481 true)) else (laws_FnDistances.j0 k t450 t451 t452 t453 t454 t459 t460 t463 t471 t472 t475 t476 t477 t480 t481 true)) else (laws_FnDistances.j0 k t450 t451 t452 t453 t454 t459 t460 t463 t471 t472 t475 t476 t477 t480 t481 true)) = some r := by rw [if_pos rfl] at H; exact H
       clear H
       have H := H1
       clear H1
       by_cases c33 : t472 = t474
       case neg =>
        rw [if_neg c33] at H
        have c33b0 : (t472 == t474) = false := beq_eq_false_iff_ne.mpr c33
        have c33b1 : (t472 != t474) = true := bne_iff_ne.mpr c33
        exact absurd ((laws_FnDistances.j0_true H).trans hT) (by decide)
       rw [if_pos c33] at H
       have c33b0 : (t472 == t474) = true := beq_iff_eq.mpr c33
       have c33b1 : (t472 != t474) = false := bne_eq_false_iff_eq.mpr c33
       clear c33
       by_cases c34 : t471 = t473
       case neg =>
        rw [if_neg c34] at H
        have c34b0 : (t471 == t473) = false := beq_eq_false_iff_ne.mpr c34
        have c34b1 : (t471 != t473) = true := bne_iff_ne.mpr c34
        exact absurd ((laws_FnDistances.j0_true H).trans hT) (by decide)
       rw [if_pos c34] at H
       have c34b0 : (t471 == t473) = true := beq_iff_eq.mpr c34
       have c34b1 : (t471 != t473) = false := bne_eq_false_iff_eq.mpr c34
       clear c34
       by_cases c35 : t481 = t483
       case neg =>
        rw [if_neg c35] at H
        have c35b0 : (t481 == t483) = false := beq_eq_false_iff_ne.mpr c35
        have c35b1 : (t481 != t483) = true := bne_iff_ne.mpr c35
        exact absurd ((laws_FnDistances.j0_true H).trans hT) (by decide)
       rw [if_pos c35] at H
       have c35b0 : (t481 == t483) = true := beq_iff_eq.mpr c35
       have c35b1 : (t481 != t483) = false := bne_eq_false_iff_eq.mpr c35
       clear c35
       by_cases c36 : t480 = t482
       case neg =>
        rw [if_neg c36] at H
        have c36b0 : (t480 == t482) = false := beq_eq_false_iff_ne.mpr c36
        have c36b1 : (t480 != t482) = true := bne_iff_ne.mpr c36
        exact absurd ((laws_FnDistances.j0_true H).trans hT) (by decide)
       rw [if_pos c36] at H
       have c36b0 : (t480 == t482) = true := beq_iff_eq.mpr c36
       have c36b1 : (t480 != t482) = false := bne_eq_false_iff_eq.mpr c36
       clear c36
       have H' := Aside0.mk H
       clear H
       obtain ⟨Ao37, co37, eo37⟩ := Kd.R_slice HO466.out
       subst eo37
       obtain ⟨Ao38, co38, eo38⟩ := Kd.R_slice HO470.out
       subst eo38
       go_wp2_with (first | (go_at_call 56; (with_reducible refine (laws_likeInts.calls k _ _ t463 _ _ t467 true _ ?side1 ?side2 ?side3 ?side4 A31.out).mono ?_); (case side1 => repeat (first | exact (Kd.R_reads' HO466.out).2.2 | (with_reducible refine Kd.C_alloc ?_ _) | (with_reducible refine Kd.C_drewN ?_ _) | (with_reducible refine Kd.C_drew ?_))); (case side2 => exact (Kd.R_reads' HO466.out).2.1); (case side3 => repeat (first | exact (Kd.R_reads' HO470.out).2.2 | (with_reducible refine Kd.C_alloc ?_ _) | (with_reducible refine Kd.C_drewN ?_ _) | (with_reducible refine Kd.C_drew ?_))); (case side4 => exact (Kd.R_reads' HO470.out).2.1); rintro e w' ⟨rfl, ⟨nd, rfl⟩⟩))
       go_meet
       case rel => exact ⟨_, ((t464 != t460)), (by first | rfl | (simp; done) | (simp [*]; done)), H', ⟨by first | omega | exact Nat.le_refl _⟩, ⟨by (with_reducible repeat (first | apply Kd.R_alloc | apply Kd.R_drewN | apply Kd.R_drew)); exact Kd.R_mono HO456.out (fun _ hk => hk.2)⟩, ⟨by (with_reducible repeat (first | apply Kd.R_alloc | apply Kd.R_drewN | apply Kd.R_drew)); exact HO458.out⟩, ⟨by (with_reducible repeat (first | apply Kd.R_alloc | apply Kd.R_drewN | apply Kd.R_drew)); exact Kd.R_mono HO466.out (fun _ hk => trivial)⟩, ⟨by (with_reducible repeat (first | apply Kd.R_alloc | apply Kd.R_drewN | apply Kd.R_drew)); exact Kd.R_mono HO479.out (fun _ hk => hk.2)⟩, ⟨bl_ HB.out⟩⟩
      ·replace c32 := Bool.eq_false_iff.mpr c32
       subst c32
       have H1 : (laws_FnDistances.j0 k t450 t451 t452 t453 t454 t459 t460 t463 t471 t472 t475 t476 t477 t480 t481 true) = some r := by rw [if_neg (show ¬ (false = true) by decide)] at H; exact H
       clear H
       have H := H1
       clear H1
       exact absurd ((laws_FnDistances.j0_true H).trans hT) (by decide)
   case rest =>
    as_aux_lemma =>
     clear HC14
     try clear c2
     try clear p2
     try clear c3
     try clear c4
     try clear c5
     try clear c8
     try clear c24
     try clear c27
     try clear c28
     try clear c28b0
     try clear c28b1
     try clear c29
     try clear c29b0
     try clear c29b1
     try clear c29b2
     try clear c30
     try clear c30b0
     try clear c30b1
     try clear c32
     try clear c33
     try clear c33b0
     try clear c33b1
     try clear c34
     try clear c34b0
     try clear c34b1
     try clear c35
     try clear c35b0
     try clear c35b1
     try clear c36
     try clear c36b0
     try clear c36b1
     try clear c47
     try clear c48
     obtain ⟨kq, x159_13, rfl, HA, HJ13, HO_3, HO_4, HO_12, HO_20, HB⟩ := hcut
     cases kq with
     | zero => exact absurd HA.out (by simp [laws_FnDistances.j0])
     | succ kj13 =>
      have H := HA.out
      clear HA
      simp only [laws_FnDistances.j0] at H
      by_cases c49 : x159_13 = true
      case pos =>
       subst c49
       have H1 : (some false) = some r := by rw [if_pos rfl] at H; exact H
       clear H
       have H := H1
       clear H1
       exact absurd ((Option.some.inj H).trans hT) (by decide)
      replace c49 := Bool.eq_false_iff.mpr c49
      subst c49
      have H1 : (if t481 = 0 then (laws_FnDistances.j1 kj13 t450 t451 t452 t453 t454 t459 t460 t463 t471 t472 t475 t476 t477 t480 (decide (t476 > 20))) else (laws_FnDistances.j1 kj13 t450 t451 t452 t453 t454 t459 t460 t463 t471 t472 t475 t476 t477 t480 false)) = some r := by rw [if_neg (show ¬ (false = true) by decide)] at H; exact H
      clear H
      have H := H1
      clear H1
      have HC50 := Aside0.mk H
      clear H
      go_upto_region 15 with (fail)
      go_cut [165] (fun v165 wc => ∃ (kq : Nat) (x165_49 : Bool), v165 = .bool x165_49 ∧ Aside0 (laws_FnDistances.j1 kq t450 t451 t452 t453 t454 t459 t460 t463 t471 t472 t475 t476 t477 t480 x165_49 = some r) ∧ Aside0 (kq ≤ kj13) ∧ Aside0 (Kd.R k112 112 wc w.heap.size (fun k_ => some k_ ≠ ((.slice Ao25 t475.length co25) : Value).ownBlock) (.slice Ao16 t450.length co16) t450) ∧ Aside0 (Kd.R k83 83 wc w.heap.size (fun _ => True) (.slice Ao17 t451.length co17) t451) ∧ Aside0 (Kd.R (Kd.int .i64) 2 wc w.heap.size (fun _ => True) v465 t463) ∧ Aside0 (Kd.R k112 112 wc w.heap.size (fun k_ => some k_ ≠ ((.slice Ao16 t450.length co16) : Value).ownBlock) (.slice Ao25 t475.length co25) t475) ∧ Aside0 (Below w.heap.size w wc))
      case first =>
       have H := HC50.out
       clear HC50
       by_cases c51 : t481 = 0
       ·rw [if_pos c51] at H
        have c51b0 : (t481 == 0) = true := beq_iff_eq.mpr c51
        have c51b1 : (t481 != 0) = false := bne_eq_false_iff_eq.mpr c51
        clear c51
        (first | rw [c51b0] | (simp only [i64_w, i32_w]; rw [c51b0]) | skip)
        have H' := Aside0.mk H
        clear H
        go_wp2
        go_meet
        case rel => exact ⟨_, (decide (t476 > 20)), (by first | rfl | (simp; done) | (simp [*]; done)), H', ⟨by have := HJ13.out; first | omega | exact Nat.le_refl _⟩, ⟨by (with_reducible repeat (first | apply Kd.R_alloc | apply Kd.R_drewN | apply Kd.R_drew)); exact HO_3.out⟩, ⟨by (with_reducible repeat (first | apply Kd.R_alloc | apply Kd.R_drewN | apply Kd.R_drew)); exact HO_4.out⟩, ⟨by (with_reducible repeat (first | apply Kd.R_alloc | apply Kd.R_drewN | apply Kd.R_drew)); exact HO_12.out⟩, ⟨by (with_reducible repeat (first | apply Kd.R_alloc | apply Kd.R_drewN | apply Kd.R_drew)); exact HO_20.out⟩, ⟨bl_ HB.out⟩⟩
       ·rw [if_neg c51] at H
        have c51b0 : (t481 == 0) = false := beq_eq_false_iff_ne.mpr c51
        have c51b1 : (t481 != 0) = true := bne_iff_ne.mpr c51
        (first | rw [c51b0] | (simp only [i64_w, i32_w]; rw [c51b0]) | skip)
        have H' := Aside0.mk H
        clear H
        go_wp2
        go_meet
        case rel => exact ⟨_, (false), (by first | rfl | (simp; done) | (simp [*]; done)), H', ⟨by have := HJ13.out; first | omega | exact Nat.le_refl _⟩, ⟨by (with_reducible repeat (first | apply Kd.R_alloc | apply Kd.R_drewN | apply Kd.R_drew)); exact HO_3.out⟩, ⟨by (with_reducible repeat (first | apply Kd.R_alloc | apply Kd.R_drewN | apply Kd.R_drew)); exact HO_4.out⟩, ⟨by (with_reducible repeat (first | apply Kd.R_alloc | apply Kd.R_drewN | apply Kd.R_drew)); exact HO_12.out⟩, ⟨by (with_reducible repeat (first | apply Kd.R_alloc | apply Kd.R_drewN | apply Kd.R_drew)); exact HO_20.out⟩, ⟨bl_ HB.out⟩⟩
      case rest =>
       as_aux_lemma =>
        clear HC50
        try clear c2
        try clear p2
        try clear c3
        try clear c4
        try clear c5
        try clear c8
        try clear c24
        try clear c27
        try clear c28
        try clear c28b0
        try clear c28b1
        try clear c29
        try clear c29b0
        try clear c29b1
        try clear c29b2
        try clear c30
        try clear c30b0
        try clear c30b1
        try clear c32
        try clear c33
        try clear c33b0
        try clear c33b1
        try clear c34
        try clear c34b0
        try clear c34b1
        try clear c35
        try clear c35b0
        try clear c35b1
        try clear c36
        try clear c36b0
        try clear c36b1
        try clear c47
        try clear c48
        try clear c49
        try clear c50
        try clear c51
        try clear c51b0
        try clear c51b1
        try clear p2
        obtain ⟨kq, x165_49, rfl, HA, HJ49, HO_3, HO_4, HO_12, HO_20, HB⟩ := hcut
        cases kq with
        | zero => exact absurd HA.out (by simp [laws_FnDistances.j1])
        | succ kj49 =>
         have H := HA.out
         clear HA
         simp only [laws_FnDistances.j1] at H
         have HC52 := Aside0.mk H
         clear H
         go_upto_if 165 with (fail)
         go_cut [] (fun wc => ∃ (kq : Nat), Aside0 (laws_FnDistances.j2 kq t450 t451 t452 t453 t454 t459 t460 t463 t471 t472 = some r) ∧ Aside0 (kq ≤ kj49) ∧ Aside0 (Kd.R k112 112 wc w.heap.size (fun _ => True) (.slice Ao16 t450.length co16) t450) ∧ Aside0 (Kd.R k83 83 wc w.heap.size (fun _ => True) (.slice Ao17 t451.length co17) t451) ∧ Aside0 (Kd.R (Kd.int .i64) 2 wc w.heap.size (fun _ => True) v465 t463) ∧ Aside0 (Below w.heap.size w wc))
         case first =>
          as_aux_lemma =>
           have H := HC52.out
           clear HC52
           by_cases c53 : x165_49 = true
           ·subst c53
            have H1 : ((impl_DistanceFor.f kj49 t475 (wrap64 (t476 - 1)) t477).bind fun bt485 => (if bt485.2 = 0 then (if bt485.1 > t480 then (some false) else (laws_FnDistances.j2 kj49 t450 t451 t452 t453 t454 t459 t460 t463 t471 t472)) else (some false))) = some r := by rw [if_pos rfl] at H; exact H
            clear H
            have H := H1
            clear H1
            replace H := Option.bind_eq_some_iff.mp H
            obtain ⟨⟨t485, t486⟩, A540, H⟩ := H
            replace H : (if t486 = 0 then (if t485 > t480 then (some false) else (laws_FnDistances.j2 kj49 t450 t451 t452 t453 t454 t459 t460 t463 t471 t472)) else (some false)) = some r := H
            have A54 := Aside0.mk A540
            clear A540
            by_cases c55 : t486 = 0
            case neg =>
             rw [if_neg c55] at H
             have c55b0 : (t486 == 0) = false := beq_eq_false_iff_ne.mpr c55
             have c55b1 : (t486 != 0) = true := bne_iff_ne.mpr c55
             (first | rw [c55b0] | (simp only [i64_w, i32_w]; rw [c55b0]) | skip)
             exact absurd ((Option.some.inj H).trans hT) (by decide)
            rw [if_pos c55] at H
            have c55b0 : (t486 == 0) = true := beq_iff_eq.mpr c55
            have c55b1 : (t486 != 0) = false := bne_eq_false_iff_eq.mpr c55
            clear c55
            (first | rw [c55b0] | (simp only [i64_w, i32_w]; rw [c55b0]) | skip)
            by_cases c56 : t485 > t480
            case pos =>
             rw [if_pos c56] at H
             have c56b0 : decide (t480 < t485) = true := decide_eq_true c56
             clear c56
             exact absurd ((Option.some.inj H).trans hT) (by decide)
            rw [if_neg c56] at H
            have c56b0 : decide (t480 < t485) = false := decide_eq_false c56
            clear c56
            have H' := Aside0.mk H
            clear H
            go_wp2_with (first | ((with_reducible refine gate_callee (f := 54) rfl ?_); refine goesL_ (some 171) rfl rfl Try.func54 (by kernel_rfl) rfl #[.slice Ao25 t475.length co25, .int .i64 (wrap64 (t476 - 1)), .int .i64 t477] rfl (by (try simp only [List.map_toArray, List.map_cons, List.map_nil]); first | done | rfl | (simp only [List.length_drop, List.length_take]; rfl)) ?_; (with_reducible refine (impl_DistanceFor.calls kj49 _ _ t475 (wrap64 (t476 - 1)) t477 t485 t486 _ ?side1 ?side2 A54.out).mono ?_); (case side1 => repeat (first | exact (Kd.R_reads' HO_20.out).2.2 | (with_reducible refine Kd.C_alloc ?_ _) | (with_reducible refine Kd.C_drewN ?_ _) | (with_reducible refine Kd.C_drew ?_))); (case side2 => exact (Kd.R_reads' HO_20.out).2.1); rintro e w58 ⟨rfl, hb⟩; refine ⟨_, rfl, ?_⟩; have n0_ := Aside0.mk (Kd.R_below (by (with_reducible repeat (first | apply Kd.R_alloc | apply Kd.R_drewN | apply Kd.R_drew)); exact HO_3.out) hb); have n1_ := Aside0.mk (Kd.R_below (by (with_reducible repeat (first | apply Kd.R_alloc | apply Kd.R_drewN | apply Kd.R_drew)); exact HO_4.out) hb); have n2_ := Aside0.mk (Kd.R_below (by (with_reducible repeat (first | apply Kd.R_alloc | apply Kd.R_drewN | apply Kd.R_drew)); exact HO_12.out) hb); have n3_ := Aside0.mk (Kd.R_below (by (with_reducible repeat (first | apply Kd.R_alloc | apply Kd.R_drewN | apply Kd.R_drew)); exact HO_20.out) hb); have n4_ := Aside0.mk (below_step (bl_ HB.out) hb); clear HO_3; clear HO_4; clear HO_12; clear HO_20; clear HB; have HO_3 := n0_; have HO_4 := n1_; have HO_12 := n2_; have HO_20 := n3_; have HB := n4_; clear n0_ n1_ n2_ n3_ n4_; (try clear hb); (try clear hb2); (try clear hk); (try clear hi)))
            go_meet
            case rel => exact ⟨_, H', ⟨by have := HJ13.out; have := HJ49.out; first | omega | exact Nat.le_refl _⟩, ⟨by (with_reducible repeat (first | apply Kd.R_alloc | apply Kd.R_drewN | apply Kd.R_drew)); exact Kd.R_mono HO_3.out (fun _ hk => trivial)⟩, ⟨by (with_reducible repeat (first | apply Kd.R_alloc | apply Kd.R_drewN | apply Kd.R_drew)); exact HO_4.out⟩, ⟨by (with_reducible repeat (first | apply Kd.R_alloc | apply Kd.R_drewN | apply Kd.R_drew)); exact HO_12.out⟩, ⟨bl_ HB.out⟩⟩
           ·replace c53 := Bool.eq_false_iff.mpr c53
            subst c53
            have H1 : (laws_FnDistances.j2 kj49 t450 t451 t452 t453 t454 t459 t460 t463 t471 t472) = some r := by rw [if_neg (show ¬ (false = true) by decide)] at H; exact H
            clear H
            have H := H1
            clear H1
            have H' := Aside0.mk H
            clear H
            go_wp2
            go_meet
            case rel => exact ⟨_, H', ⟨by have := HJ13.out; have := HJ49.out; first | omega | exact Nat.le_refl _⟩, ⟨by (with_reducible repeat (first | apply Kd.R_alloc | apply Kd.R_drewN | apply Kd.R_drew)); exact Kd.R_mono HO_3.out (fun _ hk => trivial)⟩, ⟨by (with_reducible repeat (first | apply Kd.R_alloc | apply Kd.R_drewN | apply Kd.R_drew)); exact HO_4.out⟩, ⟨by (with_reducible repeat (first | apply Kd.R_alloc | apply Kd.R_drewN | apply Kd.R_drew)); exact HO_12.out⟩, ⟨bl_ HB.out⟩⟩
         case rest =>
          as_aux_lemma =>
           clear HC52
           try clear c2
           try clear p2
           try clear c3
           try clear c4
           try clear c5
           try clear p6
           try clear c8
           try clear c24
           try clear c27
           try clear c28
           try clear c28b0
           try clear c28b1
           try clear c29
           try clear c29b0
           try clear c29b1
           try clear c29b2
           try clear c30
           try clear c30b0
           try clear c30b1
           try clear c32
           try clear c33
           try clear c33b0
           try clear c33b1
           try clear c34
           try clear c34b0
           try clear c34b1
           try clear c35
           try clear c35b0
           try clear c35b1
           try clear c36
           try clear c36b0
           try clear c36b1
           try clear c47
           try clear c48
           try clear c49
           try clear c50
           try clear c51
           try clear c51b0
           try clear c51b1
           try clear c52
           try clear c53
           try clear c54
           try clear c55
           try clear c55b0
           try clear c55b1
           try clear c56
           try clear c56b0
           try clear p2
           obtain ⟨kq, HA, HJ51, HO_3, HO_4, HO_12, HB⟩ := hcut
           cases kq with
           | zero => exact absurd HA.out (by simp [laws_FnDistances.j2])
           | succ kj51 =>
            have H := HA.out
            clear HA
            simp only [laws_FnDistances.j2] at H
            by_cases c60 : t460 = 0
            ·rw [if_pos c60] at H
             have c60b0 : (t460 == 0) = true := beq_iff_eq.mpr c60
             have c60b1 : (t460 != 0) = false := bne_eq_false_iff_eq.mpr c60
             clear c60
             have HC61 := Aside0.mk H
             clear H
             go_upto_region 21 with (fail)
             go_cut [198] (fun v198 wc => ∃ (kq : Nat) (x198_60 : Bool), v198 = .bool x198_60 ∧ Aside0 (laws_FnDistances.j3 kq t450 t451 t452 t453 t454 t463 x198_60 = some r) ∧ Aside0 (kq ≤ kj51) ∧ Aside0 (Kd.R k112 112 wc w.heap.size (fun _ => True) (.slice Ao16 t450.length co16) t450) ∧ Aside0 (Kd.R k83 83 wc w.heap.size (fun _ => True) (.slice Ao17 t451.length co17) t451) ∧ Aside0 (Kd.R (Kd.int .i64) 2 wc w.heap.size (fun _ => True) v465 t463) ∧ Aside0 (Below w.heap.size w wc))
             case first =>
              have H := HC61.out
              clear HC61
              by_cases c62 : (t459 != ((t463.length : Int) == 0)) = true
              ·rw [if_pos c62] at H
               have c62b0 : (t459 != ((t463.length : Int) == 0)) = true := c62
               (try (have c62b1 : decide (t459 = ((t463.length : Int) == 0)) = false := by simpa using c62))
               (try (have c62b2 : (t459 == ((t463.length : Int) == 0)) = false := by simpa using c62))
               (try (have c62b3 : ¬ (t459 = ((t463.length : Int) == 0)) := by simpa using c62))
               clear c62
               (first | rw [c62b0] | (simp only [i64_w, i32_w]; rw [c62b0]) | skip)
               exact absurd ((laws_FnDistances.j3_true H).trans hT) (by decide)
              ·rw [if_neg c62] at H
               have c62b0 : (t459 != ((t463.length : Int) == 0)) = false := by simpa using c62
               (try (have c62b1 : decide (t459 = ((t463.length : Int) == 0)) = true := by simpa using c62))
               (try (have c62b2 : (t459 == ((t463.length : Int) == 0)) = true := by simpa using c62))
               clear c62
               (first | rw [c62b0] | (simp only [i64_w, i32_w]; rw [c62b0]) | skip)
               by_cases c64 : t472 = 0
               ·rw [if_pos c64] at H
                have c64b0 : (t472 == 0) = true := beq_iff_eq.mpr c64
                have c64b1 : (t472 != 0) = false := bne_eq_false_iff_eq.mpr c64
                clear c64
                have H' := Aside0.mk H
                clear H
                obtain ⟨Ao65, co65, eo65⟩ := Kd.R_slice HO_12.out
                subst eo65
                go_wp2
                go_meet
                case rel => exact ⟨_, ((t459 != (decide (t452 ≤ t471)))), (by first | rfl | (simp; done) | (simp [*]; done)), H', ⟨by have := HJ13.out; have := HJ49.out; have := HJ51.out; first | omega | exact Nat.le_refl _⟩, ⟨by (with_reducible repeat (first | apply Kd.R_alloc | apply Kd.R_drewN | apply Kd.R_drew)); exact HO_3.out⟩, ⟨by (with_reducible repeat (first | apply Kd.R_alloc | apply Kd.R_drewN | apply Kd.R_drew)); exact HO_4.out⟩, ⟨by (with_reducible repeat (first | apply Kd.R_alloc | apply Kd.R_drewN | apply Kd.R_drew)); exact HO_12.out⟩, ⟨bl_ HB.out⟩⟩
               ·rw [if_neg c64] at H
                have c64b0 : (t472 == 0) = false := beq_eq_false_iff_ne.mpr c64
                have c64b1 : (t472 != 0) = true := bne_iff_ne.mpr c64
                have H' := Aside0.mk H
                clear H
                obtain ⟨Ao66, co66, eo66⟩ := Kd.R_slice HO_12.out
                subst eo66
                go_wp2
                go_meet
                case rel => exact ⟨_, ((t459 != false)), (by first | rfl | (simp; done) | (simp [*]; done)), H', ⟨by have := HJ13.out; have := HJ49.out; have := HJ51.out; first | omega | exact Nat.le_refl _⟩, ⟨by (with_reducible repeat (first | apply Kd.R_alloc | apply Kd.R_drewN | apply Kd.R_drew)); exact HO_3.out⟩, ⟨by (with_reducible repeat (first | apply Kd.R_alloc | apply Kd.R_drewN | apply Kd.R_drew)); exact HO_4.out⟩, ⟨by (with_reducible repeat (first | apply Kd.R_alloc | apply Kd.R_drewN | apply Kd.R_drew)); exact HO_12.out⟩, ⟨bl_ HB.out⟩⟩
             case rest =>
              as_aux_lemma =>
               clear HC61
               try clear c2
               try clear p2
               try clear c3
               try clear c4
               try clear c5
               try clear c6
               try clear p6
               try clear c8
               try clear c24
               try clear c27
               try clear c28
               try clear c28b0
               try clear c28b1
               try clear c29
               try clear c29b0
               try clear c29b1
               try clear c29b2
               try clear c30
               try clear c30b0
               try clear c30b1
               try clear c32
               try clear c33
               try clear c33b0
               try clear c33b1
               try clear c34
               try clear c34b0
               try clear c34b1
               try clear c35
               try clear c35b0
               try clear c35b1
               try clear c36
               try clear c36b0
               try clear c36b1
               try clear c47
               try clear c48
               try clear c49
               try clear c50
               try clear c51
               try clear c51b0
               try clear c51b1
               try clear c52
               try clear c53
               try clear c54
               try clear c55
               try clear c55b0
               try clear c55b1
               try clear c56
               try clear c56b0
               try clear c60
               try clear c60b0
               try clear c60b1
               try clear c62
               try clear c62b0
               try clear c62b1
               try clear c62b2
               try clear c64
               try clear c64b0
               try clear c64b1
               try clear p64
               try clear p2
               try clear p6
               obtain ⟨kq, x198_60, rfl, HA, HJ60, HO_3, HO_4, HO_12, HB⟩ := hcut
               cases kq with
               | zero => exact absurd HA.out (by simp [laws_FnDistances.j3])
               | succ kj60 =>
                have H := HA.out
                clear HA
                simp only [laws_FnDistances.j3] at H
                by_cases c67 : x198_60 = true
                case pos =>
                 subst c67
                 have H1 : (some false) = some r := by rw [if_pos rfl] at H; exact H
                 clear H
                 have H := H1
                 clear H1
                 exact absurd ((Option.some.inj H).trans hT) (by decide)
                replace c67 := Bool.eq_false_iff.mpr c67
                subst c67
                have H1 : (laws_FnDistances.l0 kj60 t450 t451 t452 t453 t454 t463 0) = some r := by rw [if_neg (show ¬ (false = true) by decide)] at H; exact H
                clear H
                have H := H1
                clear H1
                have H' := Aside0.mk H
                clear H
                go_wp2
                go_loopg [29] kj60 (fun kq v29 w' => ∃ (x29_5 : Int), v29 = .int .i64 x29_5 ∧ Aside0 (laws_FnDistances.l0 kq t450 t451 t452 t453 t454 t463 x29_5 = some r) ∧ Aside0 (kq ≤ kj60) ∧ Aside0 (Kd.R k112 112 w' w.heap.size (fun _ => True) (.slice Ao16 t450.length co16) t450) ∧ Aside0 (Kd.R k83 83 w' w.heap.size (fun _ => True) (.slice Ao17 t451.length co17) t451) ∧ Aside0 (Kd.R (Kd.int .i64) 2 w' w.heap.size (fun _ => True) v465 t463) ∧ Aside0 (Below w.heap.size w w'))
                case atStart => exact ⟨(0), (by first | rfl | (simp; done) | (simp [*]; done)), H', ⟨Nat.le_refl _⟩, ⟨by (with_reducible repeat (first | apply Kd.R_alloc | apply Kd.R_drewN | apply Kd.R_drew)); exact HO_3.out⟩, ⟨by (with_reducible repeat (first | apply Kd.R_alloc | apply Kd.R_drewN | apply Kd.R_drew)); exact HO_4.out⟩, ⟨by (with_reducible repeat (first | apply Kd.R_alloc | apply Kd.R_drewN | apply Kd.R_drew)); exact HO_12.out⟩, ⟨bl_ HB.out⟩⟩
                case round =>
                 as_aux_lemma =>
                  clear H'
                  try clear c2
                  try clear p2
                  try clear c3
                  try clear c4
                  try clear c5
                  try clear c6
                  try clear p6
                  try clear c8
                  try clear c24
                  try clear c27
                  try clear c28
                  try clear c28b0
                  try clear c28b1
                  try clear c29
                  try clear c29b0
                  try clear c29b1
                  try clear c29b2
                  try clear c30
                  try clear c30b0
                  try clear c30b1
                  try clear c32
                  try clear c33
                  try clear c33b0
                  try clear c33b1
                  try clear c34
                  try clear c34b0
                  try clear c34b1
                  try clear c35
                  try clear c35b0
                  try clear c35b1
                  try clear c36
                  try clear c36b0
                  try clear c36b1
                  try clear c47
                  try clear c48
                  try clear c49
                  try clear c50
                  try clear c51
                  try clear c51b0
                  try clear c51b1
                  try clear c52
                  try clear c53
                  try clear c54
                  try clear c55
                  try clear c55b0
                  try clear c55b1
                  try clear c56
                  try clear c56b0
                  try clear c60
                  try clear c60b0
                  try clear c60b1
                  try clear c62
                  try clear c62b0
                  try clear c62b1
                  try clear c62b2
                  try clear c64
                  try clear c64b0
                  try clear c64b1
                  try clear p64
                  try clear c67
                  try clear p2
                  try clear p6
                  try clear p64
                  obtain ⟨x29_5, rfl, HA, HK5, HO_3, HO_4, HO_12, HB⟩ := hrel
                  cases gk with
                  | zero => exact absurd HA.out (by simp [laws_FnDistances.l0])
                  | succ k5 =>
                   have H := HA.out
                   clear HA
                   simp only [laws_FnDistances.l0] at H
                   by_cases c68 : x29_5 < (t451.length : Int)
                   ·rw [if_pos c68] at H
                    have c68b0 : decide (x29_5 < (t451.length : Int)) = true := decide_eq_true c68
                    clear c68
                    by_cases c69 : 0 ≤ x29_5
                    case neg =>
                     rw [if_neg c69] at H
                     exact absurd H (by simp)
                    as_aux_lemma =>
                     rw [if_pos c69] at H
                     have c69b0 : decide (0 ≤ x29_5) = true := decide_eq_true c69
                     clear c69
                     replace H := Option.bind_eq_some_iff.mp H
                     obtain ⟨⟨t488, t489⟩, A700, H⟩ := H
                     replace H : ((impl_SquareTo.f ((rd_T83 t451 x29_5).f0) ((rd_T83 t451 x29_5).f1) ((rd_T83 t451 x29_5).f2) ((rd_T83 t451 x29_5).f3) ((rd_T83 t451 x29_5).f4) t453 t454).bind fun bt491 => (if bt491.2 = 0 then ((laws_hasInt.f k5 t463 x29_5).bind fun t493 => (if t489 = 0 then (if (t493 != (decide (bt491.1 < (wrap64 (t488 * t488))))) = true then (some false) else (laws_FnDistances.l0 k5 t450 t451 t452 t453 t454 t463 (wrap64 (x29_5 + 1)))) else (if (t493 != true) = true then (some false) else (laws_FnDistances.l0 k5 t450 t451 t452 t453 t454 t463 (wrap64 (x29_5 + 1)))))) else (some false))) = some r := H
                     have A70 := Aside0.mk A700
                     clear A700
                     replace H := Option.bind_eq_some_iff.mp H
                     obtain ⟨⟨t491, t492⟩, A710, H⟩ := H
                     replace H : (if t492 = 0 then ((laws_hasInt.f k5 t463 x29_5).bind fun t493 => (if t489 = 0 then (if (t493 != (decide (t491 < (wrap64 (t488 * t488))))) = true then (some false) else (laws_FnDistances.l0 k5 t450 t451 t452 t453 t454 t463 (wrap64 (x29_5 + 1)))) else (if (t493 != true) = true then (some false) else (laws_FnDistances.l0 k5 t450 t451 t452 t453 t454 t463 (wrap64 (x29_5 + 1)))))) else (some false)) = some r := H
                     have A71 := Aside0.mk A710
                     clear A710
                     by_cases c72 : t492 = 0
                     case neg =>
                      rw [if_neg c72] at H
                      have c72b0 : (t492 == 0) = false := beq_eq_false_iff_ne.mpr c72
                      have c72b1 : (t492 != 0) = true := bne_iff_ne.mpr c72
                      exact absurd ((Option.some.inj H).trans hT) (by decide)
                     rw [if_pos c72] at H
                     have c72b0 : (t492 == 0) = true := beq_iff_eq.mpr c72
                     have c72b1 : (t492 != 0) = false := bne_eq_false_iff_eq.mpr c72
                     clear c72
                     replace H := Option.bind_eq_some_iff.mp H
                     obtain ⟨t493, A730, H⟩ := H
                     replace H : (if t489 = 0 then (if (t493 != (decide (t491 < (wrap64 (t488 * t488))))) = true then (some false) else (laws_FnDistances.l0 k5 t450 t451 t452 t453 t454 t463 (wrap64 (x29_5 + 1)))) else (if (t493 != true) = true then (some false) else (laws_FnDistances.l0 k5 t450 t451 t452 t453 t454 t463 (wrap64 (x29_5 + 1))))) = some r := H
                     have A73 := Aside0.mk A730
                     clear A730
                     by_cases c74 : t489 = 0
                     ·rw [if_pos c74] at H
                      have c74b0 : (t489 == 0) = true := beq_iff_eq.mpr c74
                      have c74b1 : (t489 != 0) = false := bne_eq_false_iff_eq.mpr c74
                      clear c74
                      by_cases c75 : (t493 != (decide (t491 < (wrap64 (t488 * t488))))) = true
                      ·rw [if_pos c75] at H
                       have c75b0 : (t493 != (decide (t491 < (wrap64 (t488 * t488))))) = true := c75
                       (try (have c75b1 : decide (t493 = (decide (t491 < (wrap64 (t488 * t488))))) = false := by simpa using c75))
                       (try (have c75b2 : (t493 == (decide (t491 < (wrap64 (t488 * t488))))) = false := by simpa using c75))
                       (try (have c75b3 : ¬ (t493 = (decide (t491 < (wrap64 (t488 * t488))))) := by simpa using c75))
                       clear c75
                       exact absurd ((Option.some.inj H).trans hT) (by decide)
                      ·rw [if_neg c75] at H
                       have c75b0 : (t493 != (decide (t491 < (wrap64 (t488 * t488))))) = false := by simpa using c75
                       (try (have c75b1 : decide (t493 = (decide (t491 < (wrap64 (t488 * t488))))) = true := by simpa using c75))
                       (try (have c75b2 : (t493 == (decide (t491 < (wrap64 (t488 * t488))))) = true := by simpa using c75))
                       clear c75
                       have H' := Aside0.mk H
                       clear H
                       have p487 : 0 ≤ (x29_5 : Int) := od_
                       have q487 : x29_5 < (t451.length : Int) := od_
                       obtain ⟨ad487, e487, hx487_0, hx487_1, hx487_2, hx487_3, hx487_4⟩ := at_T83 (Kd.R_reads' HO_4.out).2.2 x29_5 p487 q487
                       cases e487
                       replace p487 := eq_true p487
                       replace q487 := eq_true q487
                       go_wp2_with (first | ((with_reducible refine gate_callee (f := 54) rfl ?_); refine goesL_ (some 213) rfl rfl Try.func54 (by kernel_rfl) rfl #[.slice Ao16 t450.length co16, .int .i64 t452, .int .i64 ((rd_T83 t451 x29_5).f0)] rfl (by (try simp only [List.map_toArray, List.map_cons, List.map_nil]); first | done | rfl | (simp only [List.length_drop, List.length_take]; rfl)) ?_; (with_reducible refine (impl_DistanceFor.calls k5 _ _ t450 t452 ((rd_T83 t451 x29_5).f0) t488 t489 _ ?side1 ?side2 A70.out).mono ?_); (case side1 => repeat (first | exact (Kd.R_reads' HO_3.out).2.2 | (with_reducible refine Kd.C_alloc ?_ _) | (with_reducible refine Kd.C_drewN ?_ _) | (with_reducible refine Kd.C_drew ?_))); (case side2 => exact (Kd.R_reads' HO_3.out).2.1); rintro e w79 ⟨rfl, hb⟩; refine ⟨_, rfl, ?_⟩; have n0_ := Aside0.mk (Kd.R_below (by (with_reducible repeat (first | apply Kd.R_alloc | apply Kd.R_drewN | apply Kd.R_drew)); exact HO_3.out) hb); have n1_ := Aside0.mk (Kd.R_below (by (with_reducible repeat (first | apply Kd.R_alloc | apply Kd.R_drewN | apply Kd.R_drew)); exact HO_4.out) hb); have n2_ := Aside0.mk (Kd.R_below (by (with_reducible repeat (first | apply Kd.R_alloc | apply Kd.R_drewN | apply Kd.R_drew)); exact HO_12.out) hb); have n3_ := Aside0.mk (below_step (bl_ HB.out) hb); clear HO_3; clear HO_4; clear HO_12; clear HB; have HO_3 := n0_; have HO_4 := n1_; have HO_12 := n2_; have HB := n3_; clear n0_ n1_ n2_ n3_; (try clear hb); (try clear hb2); (try clear hk); (try clear hi); have p490 : 0 ≤ (x29_5 : Int) := od_; have q490 : x29_5 < (t451.length : Int) := od_; obtain ⟨ad490, e490, hx490_0, hx490_1, hx490_2, hx490_3, hx490_4⟩ := at_T83 (Kd.R_reads' HO_4.out).2.2 x29_5 p490 q490; obtain rfl : ad487 = ad490 := (by injection e490); replace p490 := eq_true p490; replace q490 := eq_true q490) | ((with_reducible refine gate_callee (f := 57) rfl ?_); refine goesL_ (some 223) rfl rfl Try.func57 (by kernel_rfl) rfl #[.agg #[.int .i64 ((rd_T83 t451 x29_5).f0), .int .i64 ((rd_T83 t451 x29_5).f1), .int .i64 ((rd_T83 t451 x29_5).f2), .int .i64 ((rd_T83 t451 x29_5).f3), .int .i64 ((rd_T83 t451 x29_5).f4)], .int .i64 t453, .int .i64 t454] rfl (by (try simp only [List.map_toArray, List.map_cons, List.map_nil]); first | done | rfl | (simp only [List.length_drop, List.length_take]; rfl)) ?_; (with_reducible refine (impl_SquareTo.calls ((rd_T83 t451 x29_5).f0) ((rd_T83 t451 x29_5).f1) ((rd_T83 t451 x29_5).f2) ((rd_T83 t451 x29_5).f3) ((rd_T83 t451 x29_5).f4) t453 t454 t491 t492 _ A71.out).mono ?_); rintro e w80 ⟨rfl, hb⟩; refine ⟨_, rfl, ?_⟩; have n0_ := Aside0.mk (Kd.R_below (by (with_reducible repeat (first | apply Kd.R_alloc | apply Kd.R_drewN | apply Kd.R_drew)); exact HO_3.out) hb); have n1_ := Aside0.mk (Kd.R_below (by (with_reducible repeat (first | apply Kd.R_alloc | apply Kd.R_drewN | apply Kd.R_drew)); exact HO_4.out) hb); have n2_ := Aside0.mk (Kd.R_below (by (with_reducible repeat (first | apply Kd.R_alloc | apply Kd.R_drewN | apply Kd.R_drew)); exact HO_12.out) hb); have n3_ := Aside0.mk (below_step (bl_ HB.out) hb); clear HO_3; clear HO_4; clear HO_12; clear HB; have HO_3 := n0_; have HO_4 := n1_; have HO_12 := n2_; have HB := n3_; clear n0_ n1_ n2_ n3_; (try clear hb); (try clear hb2); (try clear hk); (try clear hi); obtain ⟨Ao81, co81, eo81⟩ := Kd.R_slice HO_12.out; subst eo81) | (go_at_call 58; (with_reducible refine (laws_hasInt.calls k5 _ _ t463 x29_5 t493 _ ?side1 ?side2 A73.out).mono ?_); (case side1 => repeat (first | exact (Kd.R_reads' HO_12.out).2.2 | (with_reducible refine Kd.C_alloc ?_ _) | (with_reducible refine Kd.C_drewN ?_ _) | (with_reducible refine Kd.C_drew ?_))); (case side2 => exact (Kd.R_reads' HO_12.out).2.1); rintro e w' ⟨rfl, ⟨nd, rfl⟩⟩))
                       go_roundg k5
                       case measure => have := HJ13.out; have := HJ49.out; have := HJ51.out; have := HJ60.out; have := HK5.out; omega
                       case rel => exact ⟨(wrap64 (x29_5 + 1)), (by first | rfl | (simp; done) | (simp [*]; done)), H', ⟨by have := HJ13.out; have := HJ49.out; have := HJ51.out; have := HJ60.out; have := HK5.out; omega⟩, ⟨by (with_reducible repeat (first | apply Kd.R_alloc | apply Kd.R_drewN | apply Kd.R_drew)); exact HO_3.out⟩, ⟨by (with_reducible repeat (first | apply Kd.R_alloc | apply Kd.R_drewN | apply Kd.R_drew)); exact HO_4.out⟩, ⟨by (with_reducible repeat (first | apply Kd.R_alloc | apply Kd.R_drewN | apply Kd.R_drew)); exact HO_12.out⟩, ⟨bl_ HB.out⟩⟩
                     ·rw [if_neg c74] at H
                      have c74b0 : (t489 == 0) = false := beq_eq_false_iff_ne.mpr c74
                      have c74b1 : (t489 != 0) = true := bne_iff_ne.mpr c74
                      by_cases c82 : (t493 != true) = true
                      ·rw [if_pos c82] at H
                       have c82b0 : (t493 != true) = true := c82
                       (try (have c82b1 : decide (t493 = true) = false := by simpa using c82))
                       (try (have c82b2 : (t493 == true) = false := by simpa using c82))
                       (try (have c82b3 : ¬ (t493 = true) := by simpa using c82))
                       clear c82
                       exact absurd ((Option.some.inj H).trans hT) (by decide)
                      ·rw [if_neg c82] at H
                       have c82b0 : (t493 != true) = false := by simpa using c82
                       (try (have c82b1 : decide (t493 = true) = true := by simpa using c82))
                       (try (have c82b2 : (t493 == true) = true := by simpa using c82))
                       clear c82
                       have H' := Aside0.mk H
                       clear H
                       have p487 : 0 ≤ (x29_5 : Int) := od_
                       have q487 : x29_5 < (t451.length : Int) := od_
                       obtain ⟨ad487, e487, hx487_0, hx487_1, hx487_2, hx487_3, hx487_4⟩ := at_T83 (Kd.R_reads' HO_4.out).2.2 x29_5 p487 q487
                       cases e487
                       replace p487 := eq_true p487
                       replace q487 := eq_true q487
                       go_wp2_with (first | ((with_reducible refine gate_callee (f := 54) rfl ?_); refine goesL_ (some 213) rfl rfl Try.func54 (by kernel_rfl) rfl #[.slice Ao16 t450.length co16, .int .i64 t452, .int .i64 ((rd_T83 t451 x29_5).f0)] rfl (by (try simp only [List.map_toArray, List.map_cons, List.map_nil]); first | done | rfl | (simp only [List.length_drop, List.length_take]; rfl)) ?_; (with_reducible refine (impl_DistanceFor.calls k5 _ _ t450 t452 ((rd_T83 t451 x29_5).f0) t488 t489 _ ?side1 ?side2 A70.out).mono ?_); (case side1 => repeat (first | exact (Kd.R_reads' HO_3.out).2.2 | (with_reducible refine Kd.C_alloc ?_ _) | (with_reducible refine Kd.C_drewN ?_ _) | (with_reducible refine Kd.C_drew ?_))); (case side2 => exact (Kd.R_reads' HO_3.out).2.1); rintro e w86 ⟨rfl, hb⟩; refine ⟨_, rfl, ?_⟩; have n0_ := Aside0.mk (Kd.R_below (by (with_reducible repeat (first | apply Kd.R_alloc | apply Kd.R_drewN | apply Kd.R_drew)); exact HO_3.out) hb); have n1_ := Aside0.mk (Kd.R_below (by (with_reducible repeat (first | apply Kd.R_alloc | apply Kd.R_drewN | apply Kd.R_drew)); exact HO_4.out) hb); have n2_ := Aside0.mk (Kd.R_below (by (with_reducible repeat (first | apply Kd.R_alloc | apply Kd.R_drewN | apply Kd.R_drew)); exact HO_12.out) hb); have n3_ := Aside0.mk (below_step (bl_ HB.out) hb); clear HO_3; clear HO_4; clear HO_12; clear HB; have HO_3 := n0_; have HO_4 := n1_; have HO_12 := n2_; have HB := n3_; clear n0_ n1_ n2_ n3_; (try clear hb); (try clear hb2); (try clear hk); (try clear hi); have p490 : 0 ≤ (x29_5 : Int) := od_; have q490 : x29_5 < (t451.length : Int) := od_; obtain ⟨ad490, e490, hx490_0, hx490_1, hx490_2, hx490_3, hx490_4⟩ := at_T83 (Kd.R_reads' HO_4.out).2.2 x29_5 p490 q490; obtain rfl : ad487 = ad490 := (by injection e490); replace p490 := eq_true p490; replace q490 := eq_true q490) | ((with_reducible refine gate_callee (f := 57) rfl ?_); refine goesL_ (some 223) rfl rfl Try.func57 (by kernel_rfl) rfl #[.agg #[.int .i64 ((rd_T83 t451 x29_5).f0), .int .i64 ((rd_T83 t451 x29_5).f1), .int .i64 ((rd_T83 t451 x29_5).f2), .int .i64 ((rd_T83 t451 x29_5).f3), .int .i64 ((rd_T83 t451 x29_5).f4)], .int .i64 t453, .int .i64 t454] rfl (by (try simp only [List.map_toArray, List.map_cons, List.map_nil]); first | done | rfl | (simp only [List.length_drop, List.length_take]; rfl)) ?_; (with_reducible refine (impl_SquareTo.calls ((rd_T83 t451 x29_5).f0) ((rd_T83 t451 x29_5).f1) ((rd_T83 t451 x29_5).f2) ((rd_T83 t451 x29_5).f3) ((rd_T83 t451 x29_5).f4) t453 t454 t491 t492 _ A71.out).mono ?_); rintro e w87 ⟨rfl, hb⟩; refine ⟨_, rfl, ?_⟩; have n0_ := Aside0.mk (Kd.R_below (by (with_reducible repeat (first | apply Kd.R_alloc | apply Kd.R_drewN | apply Kd.R_drew)); exact HO_3.out) hb); have n1_ := Aside0.mk (Kd.R_below (by (with_reducible repeat (first | apply Kd.R_alloc | apply Kd.R_drewN | apply Kd.R_drew)); exact HO_4.out) hb); have n2_ := Aside0.mk (Kd.R_below (by (with_reducible repeat (first | apply Kd.R_alloc | apply Kd.R_drewN | apply Kd.R_drew)); exact HO_12.out) hb); have n3_ := Aside0.mk (below_step (bl_ HB.out) hb); clear HO_3; clear HO_4; clear HO_12; clear HB; have HO_3 := n0_; have HO_4 := n1_; have HO_12 := n2_; have HB := n3_; clear n0_ n1_ n2_ n3_; (try clear hb); (try clear hb2); (try clear hk); (try clear hi); obtain ⟨Ao88, co88, eo88⟩ := Kd.R_slice HO_12.out; subst eo88) | (go_at_call 58; (with_reducible refine (laws_hasInt.calls k5 _ _ t463 x29_5 t493 _ ?side1 ?side2 A73.out).mono ?_); (case side1 => repeat (first | exact (Kd.R_reads' HO_12.out).2.2 | (with_reducible refine Kd.C_alloc ?_ _) | (with_reducible refine Kd.C_drewN ?_ _) | (with_reducible refine Kd.C_drew ?_))); (case side2 => exact (Kd.R_reads' HO_12.out).2.1); rintro e w' ⟨rfl, ⟨nd, rfl⟩⟩))
                       go_roundg k5
                       case measure => have := HJ13.out; have := HJ49.out; have := HJ51.out; have := HJ60.out; have := HK5.out; omega
                       case rel => exact ⟨(wrap64 (x29_5 + 1)), (by first | rfl | (simp; done) | (simp [*]; done)), H', ⟨by have := HJ13.out; have := HJ49.out; have := HJ51.out; have := HJ60.out; have := HK5.out; omega⟩, ⟨by (with_reducible repeat (first | apply Kd.R_alloc | apply Kd.R_drewN | apply Kd.R_drew)); exact HO_3.out⟩, ⟨by (with_reducible repeat (first | apply Kd.R_alloc | apply Kd.R_drewN | apply Kd.R_drew)); exact HO_4.out⟩, ⟨by (with_reducible repeat (first | apply Kd.R_alloc | apply Kd.R_drewN | apply Kd.R_drew)); exact HO_12.out⟩, ⟨bl_ HB.out⟩⟩
                   ·rw [if_neg c68] at H
                    have c68b0 : decide (x29_5 < (t451.length : Int)) = false := decide_eq_false c68
                    clear c68
                    obtain rfl := Option.some.inj H
                    go_wp2
                    go_ret
                    exact ⟨by first | rfl | (simp [errW_none, errW_some] <;> rfl) | (simp [*, errW_none, errW_some] <;> rfl), bl_ HB.out⟩
            ·rw [if_neg c60] at H
             have c60b0 : (t460 == 0) = false := beq_eq_false_iff_ne.mpr c60
             have c60b1 : (t460 != 0) = true := bne_iff_ne.mpr c60
             obtain rfl := Option.some.inj H
             go_wp2
             go_ret
             exact ⟨by first | rfl | (simp [errW_none, errW_some] <;> rfl) | (simp [*, errW_none, errW_some] <;> rfl), bl_ HB.out⟩
/-- THE ONE PURE STATEMENT of laws_FnDistances: yours. -/
def laws_FnDistances.Pure : Prop := ∀ (l0 : List Int), l0.length ≤ maxLen → l0.length * 1 ≤ 140737488351232 → (∀ x ∈ l0, (Lit.int .u8 x).wf = true) → ∃ k, laws_FnDistances.f k l0 = some true
theorem laws_FnDistances.walk (P : laws_FnDistances.Pure) (a0 : Option Addr) (len0 cap0 : Nat) (z0 : List Int) (w : World) (w0 : (a0 = none ∧ len0 = 0 ∧ cap0 = 0 ∧ z0 = []) ∨ ∃ x, a0 = some x ∧ len0 ≤ cap0 ∧ cap0 ≤ maxLen ∧ z0.length = cap0 ∧ (∀ i, i < z0.length → w.cell? (x.add i) = some (.int .u8 (z0.getD i 0))) ∧ ∀ n ∈ z0, (Lit.int .u8 n).wf = true) (y0 : len0 * 1 ≤ 140737488351232) :
  Calls Try.prog 8 #[.slice a0 len0 cap0] w fun e w' => e = .returned (.bool true) ∧ Below w.heap.size w w' := by
 obtain ⟨l0, rfl, hr0, hm0, hw0, hc0⟩ := ReadsInt.ofRowC w0
 obtain ⟨k, h⟩ := P l0 hm0 y0 hw0
 refine (laws_FnDistances.calls k _ _ l0 true w (Kd.C_of_reads (d := (0 : Int)) (h1 := fun _ => rfl) hr0) hc0 h rfl).mono ?_
 rintro e w' ⟨rfl, hd⟩
 exact ⟨rfl, hd⟩
end Go.Proofs.Ytalcbcelalbhiaa.PFnDistances
