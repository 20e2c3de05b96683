/- QFnExactOverlappingAreasc of the law FnExactOverlappingAreas: taken over, declaration by declaration, as far as the law leans on it (the words and the printed functions are the kit's own print). No condition but what each says. -/
import Derived.Test.YtedcdhnbceaaeaaZFnExactOverlappingAreasav
import Derived.Test.YtedcdhnbceaaeaaZFnExactOverlappingAreasaw
import Derived.Test.YtedcdhnbceaaeaaZFnExactOverlappingAreasay
namespace Go.Proofs.Ytedcdhnbceaaeaa.PFnExactOverlappingAreas
open Go.RowKit Go.Proofs.YtedcdhnbceaaeaaW.PrintWords Go.Proofs.YtedcdhnbceaaeaaW.PrintLast Go.Proofs.YtedcdhnbceaaeaaW.PrintMore
attribute [local go_sem] max2_int min2_int max_two min_two max_three min_three max_four min_four   -- for this text's walks alone
set_option linter.unusedVariables false
set_option linter.unusedSimpArgs false
def spec_IsArea.f (a0_0 : Int) (a0_1 : Int) (a0_2 : Int) (a0_3 : Int) (a0_4 : Int) : Option (Bool) := (spec_l01In.f a0_0 0 3).bind fun t158 => (if t158 = true then ((spec_l15Place.f a0_1 a0_2).bind fun t159 => (if t159 = true then ((spec_l01In.f a0_3 1 (wrap64 (100000 - a0_1))).bind fun t160 => (if t160 = true then ((spec_l01In.f a0_4 1 (wrap64 (100000 - a0_2))).bind fun t161 => (some t161)) else (some false))) else (some false))) else (some false))
set_option maxHeartbeats 8000000 in
set_option maxRecDepth 100000 in
theorem spec_IsArea.calls (a0_0 : Int) (a0_1 : Int) (a0_2 : Int) (a0_3 : Int) (a0_4 : Int) (r : Bool) (w : World) (h : spec_IsArea.f a0_0 a0_1 a0_2 a0_3 a0_4 = some r) :
  Calls Try.prog 159 #[.agg #[.int .i64 a0_0, .int .i64 a0_1, .int .i64 a0_2, .int .i64 a0_3, .int .i64 a0_4]] w fun e w' => e = .returned (.bool r) ∧ Below w.heap.size w w' := by
 have hu83 := Try.underlying83
 have HB := Aside0.mk (Below.refl w.heap.size w)
 have H : ((spec_l01In.f a0_0 0 3).bind fun t158 => (if t158 = true then ((spec_l15Place.f a0_1 a0_2).bind fun t159 => (if t159 = true then ((spec_l01In.f a0_3 1 (wrap64 (100000 - a0_1))).bind fun t160 => (if t160 = true then ((spec_l01In.f a0_4 1 (wrap64 (100000 - a0_2))).bind fun t161 => (some t161)) else (some false))) else (some false))) else (some false))) = some r := h
 clear h
 replace H := Option.bind_eq_some_iff.mp H
 obtain ⟨t158, A20, H⟩ := H
 replace H : (if t158 = true then ((spec_l15Place.f a0_1 a0_2).bind fun t159 => (if t159 = true then ((spec_l01In.f a0_3 1 (wrap64 (100000 - a0_1))).bind fun t160 => (if t160 = true then ((spec_l01In.f a0_4 1 (wrap64 (100000 - a0_2))).bind fun t161 => (some t161)) else (some false))) else (some false))) else (some false)) = some r := H
 have A2 := Aside0.mk A20
 clear A20
 by_cases c3 : t158 = true
 ·subst c3
  have H1 : ((spec_l15Place.f a0_1 a0_2).bind fun t159 => (if t159 = true then ((spec_l01In.f a0_3 1 (wrap64 (100000 - a0_1))).bind fun t160 => (if t160 = true then ((spec_l01In.f a0_4 1 (wrap64 (100000 - a0_2))).bind fun t161 => (some t161)) else (some false))) else (some false))) = some r := by rw [if_pos rfl] at H; exact H
  clear H
  have H := H1
  clear H1
  replace H := Option.bind_eq_some_iff.mp H
  obtain ⟨t159, A40, H⟩ := H
  replace H : (if t159 = true then ((spec_l01In.f a0_3 1 (wrap64 (100000 - a0_1))).bind fun t160 => (if t160 = true then ((spec_l01In.f a0_4 1 (wrap64 (100000 - a0_2))).bind fun t161 => (some t161)) else (some false))) else (some false)) = some r := H
  have A4 := Aside0.mk A40
  clear A40
  by_cases c5 : t159 = true
  ·subst c5
   have H1 : ((spec_l01In.f a0_3 1 (wrap64 (100000 - a0_1))).bind fun t160 => (if t160 = true then ((spec_l01In.f a0_4 1 (wrap64 (100000 - a0_2))).bind fun t161 => (some t161)) else (some false))) = some r := by rw [if_pos rfl] at H; exact H
   clear H
   have H := H1
   clear H1
   replace H := Option.bind_eq_some_iff.mp H
   obtain ⟨t160, A60, H⟩ := H
   replace H : (if t160 = true then ((spec_l01In.f a0_4 1 (wrap64 (100000 - a0_2))).bind fun t161 => (some t161)) else (some false)) = some r := H
   have A6 := Aside0.mk A60
   clear A60
   by_cases c7 : t160 = true
   ·subst c7
    have H1 : ((spec_l01In.f a0_4 1 (wrap64 (100000 - a0_2))).bind fun t161 => (some t161)) = some r := by rw [if_pos rfl] at H; exact H
    clear H
    have H := H1
    clear H1
    replace H := Option.bind_eq_some_iff.mp H
    obtain ⟨t161, A80, H⟩ := H
    replace H : (some t161) = some r := H
    have A8 := Aside0.mk A80
    clear A80
    obtain rfl := Option.some.inj H
    go_enter Try.func159, Try.ntmps159
    go_wp2_with (first | ((with_reducible refine gate_dst (N := 1) rfl ?_); refine box_event ?hg (N := 1) ?hd (cs := #[.int .i64 a0_0, .int .i64 a0_1, .int .i64 a0_2, .int .i64 a0_3, .int .i64 a0_4]) (t := 83) ?hr ?_; (case hd => rfl); (case hg => rfl); (case hr => first | (go_simp; done) | (go_simp; rfl)); intro gb157 hg w9 hbox hb; have n0_ := Aside0.mk (below_step (bl_ HB.out) hb); have n1_ := Aside0.mk (hbox); have n2_ := Aside0.mk ((by rw [hg]; exact (below_size (bl_ HB.out)) : w.heap.size ≤ gb157)); have n3_ := Aside0.mk ((by rw [hg]; exact (below_size (bl_ HB.out)) : w.heap.size ≤ gb157)); clear HB; have HB := n0_; have BK157 := n1_; have GW157 := n2_; have GE157 := n3_; clear n0_ n1_ n2_ n3_; clear hb hbox hg; have hcz10_0 : w9.cell? ⟨gb157, 0, none⟩ = some (.int .i64 a0_0) := (blk_cell BK157.out 0).trans rfl; have hcz10_1 : w9.cell? ⟨gb157, 1, none⟩ = some (.int .i64 a0_1) := (blk_cell BK157.out 1).trans rfl; have hcz10_2 : w9.cell? ⟨gb157, 2, none⟩ = some (.int .i64 a0_2) := (blk_cell BK157.out 2).trans rfl; have hcz10_3 : w9.cell? ⟨gb157, 3, none⟩ = some (.int .i64 a0_3) := (blk_cell BK157.out 3).trans rfl; have hcz10_4 : w9.cell? ⟨gb157, 4, none⟩ = some (.int .i64 a0_4) := (blk_cell BK157.out 4).trans rfl; have hfz10_0 := blk_frozen BK157.out 0; have hfz10_1 := blk_frozen BK157.out 1; have hfz10_2 := blk_frozen BK157.out 2; have hfz10_3 := blk_frozen BK157.out 3; have hfz10_4 := blk_frozen BK157.out 4) | ((with_reducible refine gate_callee (f := 148) rfl ?_); refine goesL_ (some 5) rfl rfl Try.func148 (by kernel_rfl) rfl #[.int .i64 a0_0, .int .i64 0, .int .i64 3] rfl (by (try simp only [List.map_toArray, List.map_cons, List.map_nil]); first | done | rfl | (simp only [List.length_drop, List.length_take]; rfl)) ?_; (with_reducible refine (spec_l01In.calls a0_0 0 3 true _ A2.out).mono ?_); rintro e w' ⟨rfl, ⟨nd, rfl⟩⟩; refine ⟨_, rfl, ?_⟩) | (go_at_call 110; (with_reducible refine (spec_l15Place.calls a0_1 a0_2 true _ A4.out).mono ?_); rintro e w' ⟨rfl, ⟨nd, rfl⟩⟩) | (go_at_call 148; (with_reducible refine (spec_l01In.calls a0_3 1 (wrap64 (100000 - a0_1)) true _ A6.out).mono ?_); rintro e w' ⟨rfl, ⟨nd, rfl⟩⟩) | (go_at_call 148; (with_reducible refine (spec_l01In.calls a0_4 1 (wrap64 (100000 - a0_2)) t161 _ A8.out).mono ?_); rintro e w' ⟨rfl, ⟨nd, rfl⟩⟩))
    go_ret
    exact ⟨by first | rfl | (simp [errW_none, errW_some] <;> rfl) | (simp [*, errW_none, errW_some] <;> rfl), by repeat (first | (with_reducible first | exact HB.out | apply below_alloc | apply pw_below_drewN | apply below_drew1 | refine below_set ?_ GE157.out) | exact HB.out)⟩
   ·replace c7 := Bool.eq_false_iff.mpr c7
    subst c7
    have H1 : (some false) = some r := by rw [if_neg (show ¬ (false = true) by decide)] at H; exact H
    clear H
    have H := H1
    clear H1
    obtain rfl := Option.some.inj H
    go_enter Try.func159, Try.ntmps159
    go_wp2_with (first | ((with_reducible refine gate_dst (N := 1) rfl ?_); refine box_event ?hg (N := 1) ?hd (cs := #[.int .i64 a0_0, .int .i64 a0_1, .int .i64 a0_2, .int .i64 a0_3, .int .i64 a0_4]) (t := 83) ?hr ?_; (case hd => rfl); (case hg => rfl); (case hr => first | (go_simp; done) | (go_simp; rfl)); intro gb157 hg w11 hbox hb; have n0_ := Aside0.mk (below_step (bl_ HB.out) hb); have n1_ := Aside0.mk (hbox); have n2_ := Aside0.mk ((by rw [hg]; exact (below_size (bl_ HB.out)) : w.heap.size ≤ gb157)); have n3_ := Aside0.mk ((by rw [hg]; exact (below_size (bl_ HB.out)) : w.heap.size ≤ gb157)); clear HB; have HB := n0_; have BK157 := n1_; have GW157 := n2_; have GE157 := n3_; clear n0_ n1_ n2_ n3_; clear hb hbox hg; have hcz12_0 : w11.cell? ⟨gb157, 0, none⟩ = some (.int .i64 a0_0) := (blk_cell BK157.out 0).trans rfl; have hcz12_1 : w11.cell? ⟨gb157, 1, none⟩ = some (.int .i64 a0_1) := (blk_cell BK157.out 1).trans rfl; have hcz12_2 : w11.cell? ⟨gb157, 2, none⟩ = some (.int .i64 a0_2) := (blk_cell BK157.out 2).trans rfl; have hcz12_3 : w11.cell? ⟨gb157, 3, none⟩ = some (.int .i64 a0_3) := (blk_cell BK157.out 3).trans rfl; have hcz12_4 : w11.cell? ⟨gb157, 4, none⟩ = some (.int .i64 a0_4) := (blk_cell BK157.out 4).trans rfl; have hfz12_0 := blk_frozen BK157.out 0; have hfz12_1 := blk_frozen BK157.out 1; have hfz12_2 := blk_frozen BK157.out 2; have hfz12_3 := blk_frozen BK157.out 3; have hfz12_4 := blk_frozen BK157.out 4) | ((with_reducible refine gate_callee (f := 148) rfl ?_); refine goesL_ (some 5) rfl rfl Try.func148 (by kernel_rfl) rfl #[.int .i64 a0_0, .int .i64 0, .int .i64 3] rfl (by (try simp only [List.map_toArray, List.map_cons, List.map_nil]); first | done | rfl | (simp only [List.length_drop, List.length_take]; rfl)) ?_; (with_reducible refine (spec_l01In.calls a0_0 0 3 true _ A2.out).mono ?_); rintro e w' ⟨rfl, ⟨nd, rfl⟩⟩; refine ⟨_, rfl, ?_⟩) | (go_at_call 110; (with_reducible refine (spec_l15Place.calls a0_1 a0_2 true _ A4.out).mono ?_); rintro e w' ⟨rfl, ⟨nd, rfl⟩⟩) | (go_at_call 148; (with_reducible refine (spec_l01In.calls a0_3 1 (wrap64 (100000 - a0_1)) false _ A6.out).mono ?_); rintro e w' ⟨rfl, ⟨nd, rfl⟩⟩))
    go_ret
    exact ⟨by first | rfl | (simp [errW_none, errW_some] <;> rfl) | (simp [*, errW_none, errW_some] <;> rfl), by repeat (first | (with_reducible first | exact HB.out | apply below_alloc | apply pw_below_drewN | apply below_drew1 | refine below_set ?_ GE157.out) | exact HB.out)⟩
  ·replace c5 := Bool.eq_false_iff.mpr c5
   subst c5
   have H1 : (some false) = some r := by rw [if_neg (show ¬ (false = true) by decide)] at H; exact H
   clear H
   have H := H1
   clear H1
   obtain rfl := Option.some.inj H
   go_enter Try.func159, Try.ntmps159
   go_wp2_with (first | ((with_reducible refine gate_dst (N := 1) rfl ?_); refine box_event ?hg (N := 1) ?hd (cs := #[.int .i64 a0_0, .int .i64 a0_1, .int .i64 a0_2, .int .i64 a0_3, .int .i64 a0_4]) (t := 83) ?hr ?_; (case hd => rfl); (case hg => rfl); (case hr => first | (go_simp; done) | (go_simp; rfl)); intro gb157 hg w13 hbox hb; have n0_ := Aside0.mk (below_step (bl_ HB.out) hb); have n1_ := Aside0.mk (hbox); have n2_ := Aside0.mk ((by rw [hg]; exact (below_size (bl_ HB.out)) : w.heap.size ≤ gb157)); have n3_ := Aside0.mk ((by rw [hg]; exact (below_size (bl_ HB.out)) : w.heap.size ≤ gb157)); clear HB; have HB := n0_; have BK157 := n1_; have GW157 := n2_; have GE157 := n3_; clear n0_ n1_ n2_ n3_; clear hb hbox hg; have hcz14_0 : w13.cell? ⟨gb157, 0, none⟩ = some (.int .i64 a0_0) := (blk_cell BK157.out 0).trans rfl; have hcz14_1 : w13.cell? ⟨gb157, 1, none⟩ = some (.int .i64 a0_1) := (blk_cell BK157.out 1).trans rfl; have hcz14_2 : w13.cell? ⟨gb157, 2, none⟩ = some (.int .i64 a0_2) := (blk_cell BK157.out 2).trans rfl; have hcz14_3 : w13.cell? ⟨gb157, 3, none⟩ = some (.int .i64 a0_3) := (blk_cell BK157.out 3).trans rfl; have hcz14_4 : w13.cell? ⟨gb157, 4, none⟩ = some (.int .i64 a0_4) := (blk_cell BK157.out 4).trans rfl; have hfz14_0 := blk_frozen BK157.out 0; have hfz14_1 := blk_frozen BK157.out 1; have hfz14_2 := blk_frozen BK157.out 2; have hfz14_3 := blk_frozen BK157.out 3; have hfz14_4 := blk_frozen BK157.out 4) | ((with_reducible refine gate_callee (f := 148) rfl ?_); refine goesL_ (some 5) rfl rfl Try.func148 (by kernel_rfl) rfl #[.int .i64 a0_0, .int .i64 0, .int .i64 3] rfl (by (try simp only [List.map_toArray, List.map_cons, List.map_nil]); first | done | rfl | (simp only [List.length_drop, List.length_take]; rfl)) ?_; (with_reducible refine (spec_l01In.calls a0_0 0 3 true _ A2.out).mono ?_); rintro e w' ⟨rfl, ⟨nd, rfl⟩⟩; refine ⟨_, rfl, ?_⟩) | (go_at_call 110; (with_reducible refine (spec_l15Place.calls a0_1 a0_2 false _ A4.out).mono ?_); rintro e w' ⟨rfl, ⟨nd, rfl⟩⟩))
   go_ret
   exact ⟨by first | rfl | (simp [errW_none, errW_some] <;> rfl) | (simp [*, errW_none, errW_some] <;> rfl), by repeat (first | (with_reducible first | exact HB.out | apply below_alloc | apply pw_below_drewN | apply below_drew1 | refine below_set ?_ GE157.out) | exact HB.out)⟩
 ·replace c3 := Bool.eq_false_iff.mpr c3
  subst c3
  have H1 : (some false) = some r := by rw [if_neg (show ¬ (false = true) by decide)] at H; exact H
  clear H
  have H := H1
  clear H1
  obtain rfl := Option.some.inj H
  go_enter Try.func159, Try.ntmps159
  go_wp2_with (first | ((with_reducible refine gate_dst (N := 1) rfl ?_); refine box_event ?hg (N := 1) ?hd (cs := #[.int .i64 a0_0, .int .i64 a0_1, .int .i64 a0_2, .int .i64 a0_3, .int .i64 a0_4]) (t := 83) ?hr ?_; (case hd => rfl); (case hg => rfl); (case hr => first | (go_simp; done) | (go_simp; rfl)); intro gb157 hg w15 hbox hb; have n0_ := Aside0.mk (below_step (bl_ HB.out) hb); have n1_ := Aside0.mk (hbox); have n2_ := Aside0.mk ((by rw [hg]; exact (below_size (bl_ HB.out)) : w.heap.size ≤ gb157)); have n3_ := Aside0.mk ((by rw [hg]; exact (below_size (bl_ HB.out)) : w.heap.size ≤ gb157)); clear HB; have HB := n0_; have BK157 := n1_; have GW157 := n2_; have GE157 := n3_; clear n0_ n1_ n2_ n3_; clear hb hbox hg; have hcz16_0 : w15.cell? ⟨gb157, 0, none⟩ = some (.int .i64 a0_0) := (blk_cell BK157.out 0).trans rfl; have hcz16_1 : w15.cell? ⟨gb157, 1, none⟩ = some (.int .i64 a0_1) := (blk_cell BK157.out 1).trans rfl; have hcz16_2 : w15.cell? ⟨gb157, 2, none⟩ = some (.int .i64 a0_2) := (blk_cell BK157.out 2).trans rfl; have hcz16_3 : w15.cell? ⟨gb157, 3, none⟩ = some (.int .i64 a0_3) := (blk_cell BK157.out 3).trans rfl; have hcz16_4 : w15.cell? ⟨gb157, 4, none⟩ = some (.int .i64 a0_4) := (blk_cell BK157.out 4).trans rfl; have hfz16_0 := blk_frozen BK157.out 0; have hfz16_1 := blk_frozen BK157.out 1; have hfz16_2 := blk_frozen BK157.out 2; have hfz16_3 := blk_frozen BK157.out 3; have hfz16_4 := blk_frozen BK157.out 4) | ((with_reducible refine gate_callee (f := 148) rfl ?_); refine goesL_ (some 5) rfl rfl Try.func148 (by kernel_rfl) rfl #[.int .i64 a0_0, .int .i64 0, .int .i64 3] rfl (by (try simp only [List.map_toArray, List.map_cons, List.map_nil]); first | done | rfl | (simp only [List.length_drop, List.length_take]; rfl)) ?_; (with_reducible refine (spec_l01In.calls a0_0 0 3 false _ A2.out).mono ?_); rintro e w' ⟨rfl, ⟨nd, rfl⟩⟩; refine ⟨_, rfl, ?_⟩))
  go_ret
  exact ⟨by first | rfl | (simp [errW_none, errW_some] <;> rfl) | (simp [*, errW_none, errW_some] <;> rfl), by repeat (first | (with_reducible first | exact HB.out | apply below_alloc | apply pw_below_drewN | apply below_drew1 | refine below_set ?_ GE157.out) | exact HB.out)⟩
def spec_IsSite.l0 : Nat → List (S83) → Int → Option (Bool)
 | 0, _, _ => none
 | k + 1, x0, x3 => if x3 < (x0.length : Int) then (if 0 ≤ x3 then ((spec_IsArea.f ((rd_T83 x0 x3).f0) ((rd_T83 x0 x3).f1) ((rd_T83 x0 x3).f2) ((rd_T83 x0 x3).f3) ((rd_T83 x0 x3).f4)).bind fun t163 => (if t163 = true then (spec_IsSite.l0 k x0 (wrap64 (x3 + 1))) else (some false))) else (none)) else (some (decide ((x0.length : Int) ≤ 10)))
def spec_IsSite.f (k : Nat) (l0 : List (S83)) : Option (Bool) := spec_IsSite.l0 k l0 0
theorem spec_IsSite.mono_l : ∀ k, (∀ y0 y1, LeO (spec_IsSite.l0 k y0 y1) (spec_IsSite.l0 (k + 1) y0 y1))
 | 0 => fun _ _ r h => by simp [spec_IsSite.l0] at h
 | k + 1 => by
  have ih0 := spec_IsSite.mono_l k
  ·intro y0 y1
   unfold spec_IsSite.l0
   repeat' first
   | (with_reducible exact ih0 _ _)
   | (with_reducible exact LeO.refl _)
   | (with_reducible exact LeO.none _)
   | (with_reducible refine LeO.ite ?_ ?_)
   | (with_reducible refine LeO.bind ?_ (fun _ => ?_))
   | exact ih0 _ _
   | exact LeO.none _
   | refine LeO.ite ?_ ?_
   | refine LeO.bind ?_ (fun _ => ?_)
theorem spec_IsSite.mono : ∀ a0 k, LeO (spec_IsSite.f k a0) (spec_IsSite.f (k + 1) a0) := by
 intro a0 k
 have ih0 := spec_IsSite.mono_l k
 unfold spec_IsSite.f
 repeat' first
   | (with_reducible exact ih0 _ _)
   | (with_reducible exact LeO.refl _)
   | (with_reducible exact LeO.none _)
   | (with_reducible refine LeO.ite ?_ ?_)
   | (with_reducible refine LeO.bind ?_ (fun _ => ?_))
   | exact ih0 _ _
   | exact LeO.none _
   | refine LeO.ite ?_ ?_
   | refine LeO.bind ?_ (fun _ => ?_)
set_option maxHeartbeats 8000000 in
set_option maxRecDepth 100000 in
theorem spec_IsSite.calls (k : Nat) (A0 : Option Addr) (c0 : Nat) (l0 : List (S83)) (r : Bool) (w : World) (hr0 : Kd.C k83 w A0 l0.length l0) (hc0 : l0.length ≤ c0) (h : spec_IsSite.f k l0 = some r) :
  Calls Try.prog 172 #[.slice A0 l0.length c0] w fun e w' => e = .returned (.bool r) ∧ Below w.heap.size w w' := by
 have hu83 := Try.underlying83
 have HR0 := Aside0.mk hr0
 have HC0 := Aside0.mk hc0
 clear hr0 hc0
 have HB := Aside0.mk (Below.refl w.heap.size w)
 have H : (spec_IsSite.l0 k l0 0) = some r := h
 clear h
 have H' := Aside0.mk H
 clear H
 go_enter Try.func172, Try.ntmps172
 go_wp2
 go_loopg [3] k (fun kq v3 w' => ∃ (x3_1 : Int), v3 = .int .i64 x3_1 ∧ Aside0 (spec_IsSite.l0 kq l0 x3_1 = some r) ∧ Aside0 (kq ≤ k) ∧ Aside0 (Below w.heap.size w w'))
 case atStart => exact ⟨(0), (by first | rfl | (simp; done) | (simp [*]; done)), H', ⟨Nat.le_refl _⟩, ⟨bl_ HB.out⟩⟩
 case round =>
  clear H'
  try clear c1
  obtain ⟨x3_1, rfl, HA, HK1, HB⟩ := hrel
  cases gk with
  | zero => exact absurd HA.out (by simp [spec_IsSite.l0])
  | succ k1 =>
   have H := HA.out
   clear HA
   simp only [spec_IsSite.l0] at H
   by_cases c2 : x3_1 < (l0.length : Int)
   ·rw [if_pos c2] at H
    have c2b0 : decide (x3_1 < (l0.length : Int)) = true := decide_eq_true c2
    clear c2
    by_cases c3 : 0 ≤ x3_1
    case neg =>
     rw [if_neg c3] at H
     exact absurd H (by simp)
    rw [if_pos c3] at H
    have c3b0 : decide (0 ≤ x3_1) = true := decide_eq_true c3
    clear c3
    replace H := Option.bind_eq_some_iff.mp H
    obtain ⟨t163, A40, H⟩ := H
    replace H : (if t163 = true then (spec_IsSite.l0 k1 l0 (wrap64 (x3_1 + 1))) else (some false)) = some r := H
    have A4 := Aside0.mk A40
    clear A40
    by_cases c5 : t163 = true
    ·subst c5
     have H1 : (spec_IsSite.l0 k1 l0 (wrap64 (x3_1 + 1))) = some r := by rw [if_pos rfl] at H; exact H
     clear H
     have H := H1
     clear H1
     have H' := Aside0.mk H
     clear H
     have p162 : 0 ≤ (x3_1 : Int) := od_
     have q162 : x3_1 < (l0.length : Int) := od_
     obtain ⟨ad162, e162, hx162_0, hx162_1, hx162_2, hx162_3, hx162_4⟩ := at_T83 HR0.out x3_1 p162 q162
     cases e162
     replace hx162_0 := (HB.out.cell (World.block_lt_of_cell? w _ hx162_0)).trans hx162_0
     replace hx162_1 := (HB.out.cell (World.block_lt_of_cell? w _ hx162_1)).trans hx162_1
     replace hx162_2 := (HB.out.cell (World.block_lt_of_cell? w _ hx162_2)).trans hx162_2
     replace hx162_3 := (HB.out.cell (World.block_lt_of_cell? w _ hx162_3)).trans hx162_3
     replace hx162_4 := (HB.out.cell (World.block_lt_of_cell? w _ hx162_4)).trans hx162_4
     replace p162 := eq_true p162
     replace q162 := eq_true q162
     go_wp2_with (first | ((with_reducible refine gate_callee (f := 159) rfl ?_); refine goesL_ (some 14) rfl rfl Try.func159 (by kernel_rfl) rfl #[.agg #[.int .i64 ((rd_T83 l0 x3_1).f0), .int .i64 ((rd_T83 l0 x3_1).f1), .int .i64 ((rd_T83 l0 x3_1).f2), .int .i64 ((rd_T83 l0 x3_1).f3), .int .i64 ((rd_T83 l0 x3_1).f4)]] rfl (by (try simp only [List.map_toArray, List.map_cons, List.map_nil]); first | done | rfl | (simp only [List.length_drop, List.length_take]; rfl)) ?_; (with_reducible refine (spec_IsArea.calls ((rd_T83 l0 x3_1).f0) ((rd_T83 l0 x3_1).f1) ((rd_T83 l0 x3_1).f2) ((rd_T83 l0 x3_1).f3) ((rd_T83 l0 x3_1).f4) true _ A4.out).mono ?_); rintro e w6 ⟨rfl, hb⟩; refine ⟨_, rfl, ?_⟩; have n0_ := Aside0.mk (below_step (bl_ HB.out) hb); clear HB; have HB := n0_; clear n0_; (try clear hb); (try clear hb2); (try clear hk); (try clear hi)))
     go_roundg k1
     case measure => have := HK1.out; omega
     case rel => exact ⟨(wrap64 (x3_1 + 1)), (by first | rfl | (simp; done) | (simp [*]; done)), H', ⟨by have := HK1.out; omega⟩, ⟨bl_ HB.out⟩⟩
    ·replace c5 := Bool.eq_false_iff.mpr c5
     subst c5
     have H1 : (some false) = some r := by rw [if_neg (show ¬ (false = true) by decide)] at H; exact H
     clear H
     have H := H1
     clear H1
     obtain rfl := Option.some.inj H
     have p162 : 0 ≤ (x3_1 : Int) := od_
     have q162 : x3_1 < (l0.length : Int) := od_
     obtain ⟨ad162, e162, hx162_0, hx162_1, hx162_2, hx162_3, hx162_4⟩ := at_T83 HR0.out x3_1 p162 q162
     cases e162
     replace hx162_0 := (HB.out.cell (World.block_lt_of_cell? w _ hx162_0)).trans hx162_0
     replace hx162_1 := (HB.out.cell (World.block_lt_of_cell? w _ hx162_1)).trans hx162_1
     replace hx162_2 := (HB.out.cell (World.block_lt_of_cell? w _ hx162_2)).trans hx162_2
     replace hx162_3 := (HB.out.cell (World.block_lt_of_cell? w _ hx162_3)).trans hx162_3
     replace hx162_4 := (HB.out.cell (World.block_lt_of_cell? w _ hx162_4)).trans hx162_4
     replace p162 := eq_true p162
     replace q162 := eq_true q162
     go_wp2_with (first | ((with_reducible refine gate_callee (f := 159) rfl ?_); refine goesL_ (some 14) rfl rfl Try.func159 (by kernel_rfl) rfl #[.agg #[.int .i64 ((rd_T83 l0 x3_1).f0), .int .i64 ((rd_T83 l0 x3_1).f1), .int .i64 ((rd_T83 l0 x3_1).f2), .int .i64 ((rd_T83 l0 x3_1).f3), .int .i64 ((rd_T83 l0 x3_1).f4)]] rfl (by (try simp only [List.map_toArray, List.map_cons, List.map_nil]); first | done | rfl | (simp only [List.length_drop, List.length_take]; rfl)) ?_; (with_reducible refine (spec_IsArea.calls ((rd_T83 l0 x3_1).f0) ((rd_T83 l0 x3_1).f1) ((rd_T83 l0 x3_1).f2) ((rd_T83 l0 x3_1).f3) ((rd_T83 l0 x3_1).f4) false _ A4.out).mono ?_); rintro e w7 ⟨rfl, hb⟩; refine ⟨_, rfl, ?_⟩; have n0_ := Aside0.mk (below_step (bl_ HB.out) hb); clear HB; have HB := n0_; clear n0_; (try clear hb); (try clear hb2); (try clear hk); (try clear hi)))
     go_ret
     exact ⟨by first | rfl | (simp [errW_none, errW_some] <;> rfl) | (simp [*, errW_none, errW_some] <;> rfl), bl_ HB.out⟩
   ·rw [if_neg c2] at H
    have c2b0 : decide (x3_1 < (l0.length : Int)) = false := decide_eq_false c2
    clear c2
    obtain rfl := Option.some.inj H
    go_wp2
    go_ret
    exact ⟨by first | rfl | (simp [errW_none, errW_some] <;> rfl) | (simp [*, errW_none, errW_some] <;> rfl), bl_ HB.out⟩
mutual
def spec_OverlappingAreas.l0 : Nat → List (S83) → List (List Int) → Int → Option ((List (List Int)) × Int)
 | 0, _, _, _ => none
 | k + 1, x0, x4, x5 => if x5 < (x0.length : Int) then (spec_OverlappingAreas.l1 k x0 x4 x5 (wrap64 (x5 + 1))) else (some (x4, 0))
def spec_OverlappingAreas.l1 : Nat → List (S83) → List (List Int) → Int → Int → Option ((List (List Int)) × Int)
 | 0, _, _, _, _ => none
 | k + 1, x0, x4, x5, x6 => if x6 < (x0.length : Int) then (if 0 ≤ x5 then (if x5 < (x0.length : Int) then (if 0 ≤ x6 then (if ((rd_T83 x0 x5).f1) ≤ (wrap64 (((rd_T83 x0 x6).f1) + ((rd_T83 x0 x6).f3))) then (if ((rd_T83 x0 x6).f1) ≤ (wrap64 (((rd_T83 x0 x5).f1) + ((rd_T83 x0 x5).f3))) then (if ((rd_T83 x0 x5).f2) ≤ (wrap64 (((rd_T83 x0 x6).f2) + ((rd_T83 x0 x6).f4))) then (if ((rd_T83 x0 x6).f2) ≤ (wrap64 (((rd_T83 x0 x5).f2) + ((rd_T83 x0 x5).f4))) then (if x4.length < 5864062014805 then (spec_OverlappingAreas.l1 k x0 (x4 ++ [(([x5, x6] : List Int))]) x5 (wrap64 (x6 + 1))) else (none)) else (spec_OverlappingAreas.l1 k x0 x4 x5 (wrap64 (x6 + 1)))) else (spec_OverlappingAreas.l1 k x0 x4 x5 (wrap64 (x6 + 1)))) else (spec_OverlappingAreas.l1 k x0 x4 x5 (wrap64 (x6 + 1)))) else (spec_OverlappingAreas.l1 k x0 x4 x5 (wrap64 (x6 + 1)))) else (none)) else (none)) else (none)) else (spec_OverlappingAreas.l0 k x0 x4 (wrap64 (x5 + 1)))
end
def spec_OverlappingAreas.f (k : Nat) (l0 : List (S83)) : Option ((List (List Int)) × Int) := (spec_IsSite.f k l0).bind fun t164 => (if t164 = true then (spec_OverlappingAreas.l0 k l0 (([] : List (List Int))) 0) else (some (([] : List (List Int)), 1)))
theorem spec_OverlappingAreas.mono_l : ∀ k, (∀ y0 y1 y2, LeO (spec_OverlappingAreas.l0 k y0 y1 y2) (spec_OverlappingAreas.l0 (k + 1) y0 y1 y2)) ∧ (∀ y0 y1 y2 y3, LeO (spec_OverlappingAreas.l1 k y0 y1 y2 y3) (spec_OverlappingAreas.l1 (k + 1) y0 y1 y2 y3))
 | 0 => ⟨fun _ _ _ r h => by simp [spec_OverlappingAreas.l0] at h, fun _ _ _ _ r h => by simp [spec_OverlappingAreas.l1] at h⟩
 | k + 1 => by
  obtain ⟨ih0, ih1⟩ := spec_OverlappingAreas.mono_l k
  refine ⟨?_, ?_⟩
  ·intro y0 y1 y2
   unfold spec_OverlappingAreas.l0
   repeat' first
   | (with_reducible exact ih0 _ _ _)
   | (with_reducible exact ih1 _ _ _ _)
   | (with_reducible exact spec_IsSite.mono _ _)
   | (with_reducible exact LeO.refl _)
   | (with_reducible exact LeO.none _)
   | (with_reducible refine LeO.ite ?_ ?_)
   | (with_reducible refine LeO.bind ?_ (fun _ => ?_))
   | exact ih0 _ _ _
   | exact ih1 _ _ _ _
   | exact spec_IsSite.mono _ _
   | exact LeO.none _
   | refine LeO.ite ?_ ?_
   | refine LeO.bind ?_ (fun _ => ?_)
  ·intro y0 y1 y2 y3
   unfold spec_OverlappingAreas.l1
   repeat' first
   | (with_reducible exact ih0 _ _ _)
   | (with_reducible exact ih1 _ _ _ _)
   | (with_reducible exact spec_IsSite.mono _ _)
   | (with_reducible exact LeO.refl _)
   | (with_reducible exact LeO.none _)
   | (with_reducible refine LeO.ite ?_ ?_)
   | (with_reducible refine LeO.bind ?_ (fun _ => ?_))
   | exact ih0 _ _ _
   | exact ih1 _ _ _ _
   | exact spec_IsSite.mono _ _
   | exact LeO.none _
   | refine LeO.ite ?_ ?_
   | refine LeO.bind ?_ (fun _ => ?_)
theorem spec_OverlappingAreas.mono : ∀ a0 k, LeO (spec_OverlappingAreas.f k a0) (spec_OverlappingAreas.f (k + 1) a0) := by
 intro a0 k
 obtain ⟨ih0, ih1⟩ := spec_OverlappingAreas.mono_l k
 unfold spec_OverlappingAreas.f
 repeat' first
   | (with_reducible exact ih0 _ _ _)
   | (with_reducible exact ih1 _ _ _ _)
   | (with_reducible exact spec_IsSite.mono _ _)
   | (with_reducible exact LeO.refl _)
   | (with_reducible exact LeO.none _)
   | (with_reducible refine LeO.ite ?_ ?_)
   | (with_reducible refine LeO.bind ?_ (fun _ => ?_))
   | exact ih0 _ _ _
   | exact ih1 _ _ _ _
   | exact spec_IsSite.mono _ _
   | exact LeO.none _
   | refine LeO.ite ?_ ?_
   | refine LeO.bind ?_ (fun _ => ?_)
def spec_OverlappingAreas.T10 : Bool × List (List Nat × List Nat) := (true, [([], []), ([], []), ([0, 1], [0, 1]), ([2], [2]), ([], []), ([], []), ([4, 5], [4, 5]), ([6], [6]), ([], []), ([], []), ([8, 3, 0, 1, 2, 3, 8, 9], [3, 8]), ([9, 7, 10, 0, 1, 2, 3, 4, 5, 6, 7, 8, 9, 10], [7, 9])])
def spec_OverlappingAreas.B10 : List Nat := [0, 0, 3, 7, 0, 0, 48, 112, 0, 0, 783, 2047]
theorem spec_OverlappingAreas.tab10 : rtab .any (opsOf Try.f75 10) = spec_OverlappingAreas.T10 := by kernel_rfl
theorem spec_OverlappingAreas.bits10 : waitsOk spec_OverlappingAreas.T10.2 spec_OverlappingAreas.B10 = true := by kernel_rfl
set_option maxHeartbeats 8000000 in
set_option maxRecDepth 100000 in
theorem spec_OverlappingAreas.calls (k : Nat) (A0 : Option Addr) (c0 : Nat) (l0 : List (S83)) (r1 : List (List Int)) (r2 : Int) (w : World) (hr0 : Kd.C k83 w A0 l0.length l0) (hc0 : l0.length ≤ c0) (h : spec_OverlappingAreas.f k l0 = some (r1, r2)) :
  Calls Try.prog 75 #[.slice A0 l0.length c0] w fun e w' => ∃ v0_ : Value, e = .returned (.tuple #[v0_, .int .i64 r2]) ∧ Kd.S (Kd.slice 2 (Kd.int .i64)) 24 w' w.heap.size (fun _ => True) v0_ r1 ∧ Below w.heap.size w w' := by
 have hu83 := Try.underlying83
 have HR0 := Aside0.mk hr0
 have HC0 := Aside0.mk hc0
 clear hr0 hc0
 have HB := Aside0.mk (Below.refl w.heap.size w)
 have H : ((spec_IsSite.f k l0).bind fun t164 => (if t164 = true then (spec_OverlappingAreas.l0 k l0 (([] : List (List Int))) 0) else (some (([] : List (List Int)), 1)))) = some (r1, r2) := h
 clear h
 replace H := Option.bind_eq_some_iff.mp H
 obtain ⟨t164, A20, H⟩ := H
 replace H : (if t164 = true then (spec_OverlappingAreas.l0 k l0 (([] : List (List Int))) 0) else (some (([] : List (List Int)), 1))) = some (r1, r2) := H
 have A2 := Aside0.mk A20
 clear A20
 by_cases c3 : t164 = true
 ·subst c3
  have H1 : (spec_OverlappingAreas.l0 k l0 (([] : List (List Int))) 0) = some (r1, r2) := by rw [if_pos rfl] at H; exact H
  clear H
  have H := H1
  clear H1
  obtain ⟨y165, hy165⟩ : ∃ y_ : List (List Int), y_ = (([] : List (List Int))) := ⟨_, rfl⟩
  replace H : (spec_OverlappingAreas.l0 k l0 y165 0) = some (r1, r2) := by first | (rw [hy165]; with_reducible exact H) | (have H2_ := (Option.bind_some _ _).symm.trans H; rw [hy165]; with_reducible exact H2_) | (have H2_ := (Option.bind_some _ _).symm.trans H; with_reducible exact H2_) | with_reducible exact H | (rw [hy165]; exact H) | exact H
  have Ny165 := Aside0.mk hy165
  clear hy165
  have H' := Aside0.mk H
  clear H
  go_enter Try.func75, Try.ntmps75
  go_wp2_with (first | ((with_reducible refine gate_callee (f := 172) rfl ?_); refine goesL_ (some 10) rfl rfl Try.func172 (by kernel_rfl) rfl #[.slice A0 l0.length c0] rfl (by (try simp only [List.map_toArray, List.map_cons, List.map_nil]); first | done | rfl | (simp only [List.length_drop, List.length_take]; rfl)) ?_; (with_reducible refine (spec_IsSite.calls k _ _ l0 true _ ?side1 ?side2 A2.out).mono ?_); (case side1 => repeat (first | exact HR0.out | (with_reducible refine Kd.C_alloc ?_ _) | (with_reducible refine Kd.C_drewN ?_ _) | (with_reducible refine Kd.C_drew ?_))); (case side2 => exact HC0.out); rintro e w4 ⟨rfl, hb⟩; refine ⟨_, rfl, ?_⟩; have n0_ := Aside0.mk (below_step (bl_ HB.out) hb); clear HB; have HB := n0_; clear n0_; (try clear hb); (try clear hb2); (try clear hk); (try clear hi)) | ((with_reducible refine gate_dst (N := 12) rfl ?_); refine Kd.S_lit (Kd.slice 2 (Kd.int .i64)) _ 24 ?hg (N := 12) ?hd (xs := ([] : List (List Int))) (inner := []) (ok := fun _ => True) (okp := fun _ => True) ?hr ?hp (fun _ hk => hk) trivial (Below.refl _ _) (Nat.le_refl _) (by simp) ?_; (case hd => rfl); (case hg => rfl); (case hr => first | (go_simp; done) | (go_simp; rfl)); (case hp => exact (Reps.none _ _)); intro v166 w5 ho6 hb hg_ hnew_; clear hg_ hnew_; (first | rw [← Ny165.out] at ho6 | (simp only [Int.reduceToNat] at ho6; rw [← Ny165.out] at ho6)); have n0_ := Aside0.mk (Kd.S_lower ho6 (below_size (bl_ HB.out))); have n1_ := Aside0.mk (below_step (bl_ HB.out) hb); clear HB; have HO167 := n0_; have HB := n1_; clear n0_ n1_; clear hb ho6))
  go_loopg [4, 5] k (fun kq v4 v5 w' => ∃ (x4_1 : List (List Int)) (x5_1 : Int), v5 = .int .i64 x5_1 ∧ Aside0 (spec_OverlappingAreas.l0 kq l0 x4_1 x5_1 = some (r1, r2)) ∧ Aside0 (kq ≤ k) ∧ Aside0 (Kd.S (Kd.slice 2 (Kd.int .i64)) 24 w' w.heap.size (fun _ => True) v4 x4_1) ∧ Aside0 (Below w.heap.size w w'))
  case atStart => exact ⟨(y165), (0), (by first | rfl | (simp; done) | (simp [*]; done)), H', ⟨Nat.le_refl _⟩, ⟨by (with_reducible repeat (first | apply Kd.S_alloc | apply Kd.S_drewN | apply Kd.S_drew)); exact HO167.out⟩, ⟨bl_ HB.out⟩⟩
  case round =>
   clear H'
   try clear c1
   try clear p2
   try clear c3
   obtain ⟨x4_1, x5_1, rfl, HA, HK1, HO_4, HB⟩ := hrel
   cases gk with
   | zero => exact absurd HA.out (by simp [spec_OverlappingAreas.l0])
   | succ k1 =>
    have H := HA.out
    clear HA
    simp only [spec_OverlappingAreas.l0] at H
    by_cases c7 : x5_1 < (l0.length : Int)
    ·rw [if_pos c7] at H
     have c7b0 : decide (x5_1 < (l0.length : Int)) = true := decide_eq_true c7
     clear c7
     have H' := Aside0.mk H
     clear H
     go_wp2
     go_loopg [4, 6] k1 (fun kq v4 v6 w' => ∃ (x4_2 : List (List Int)) (x6_2 : Int), v6 = .int .i64 x6_2 ∧ Aside0 (spec_OverlappingAreas.l1 kq l0 x4_2 x5_1 x6_2 = some (r1, r2)) ∧ Aside0 (kq ≤ k1) ∧ Aside0 (Kd.S (Kd.slice 2 (Kd.int .i64)) 24 w' w.heap.size (fun _ => True) v4 x4_2) ∧ Aside0 (Below w.heap.size w w'))
     case atStart => exact ⟨(x4_1), (wrap64 (x5_1 + 1)), (by first | rfl | (simp; done) | (simp [*]; done)), H', ⟨Nat.le_refl _⟩, ⟨by (with_reducible repeat (first | apply Kd.S_alloc | apply Kd.S_drewN | apply Kd.S_drew)); exact HO_4.out⟩, ⟨bl_ HB.out⟩⟩
     case round =>
      clear H'
      try clear c1
      try clear p2
      try clear c3
      try clear p6
      try clear c7
      try clear c7b0
      try clear p2
      obtain ⟨x4_2, x6_2, rfl, HA, HK2, HO_4, HB⟩ := hrel
      cases gk with
      | zero => exact absurd HA.out (by simp [spec_OverlappingAreas.l1])
      | succ k2 =>
       have H := HA.out
       clear HA
       simp only [spec_OverlappingAreas.l1] at H
       by_cases c8 : x6_2 < (l0.length : Int)
       ·rw [if_pos c8] at H
        have c8b0 : decide (x6_2 < (l0.length : Int)) = true := decide_eq_true c8
        clear c8
        by_cases c9 : 0 ≤ x5_1
        case neg =>
         rw [if_neg c9] at H
         exact absurd H (by simp)
        rw [if_pos c9] at H
        have c9b0 : decide (0 ≤ x5_1) = true := decide_eq_true c9
        clear c9
        by_cases c10 : x5_1 < (l0.length : Int)
        case neg =>
         rw [if_neg c10] at H
         exact absurd H (by simp)
        rw [if_pos c10] at H
        have c10b0 : decide (x5_1 < (l0.length : Int)) = true := decide_eq_true c10
        clear c10
        by_cases c11 : 0 ≤ x6_2
        case neg =>
         rw [if_neg c11] at H
         exact absurd H (by simp)
        rw [if_pos c11] at H
        have c11b0 : decide (0 ≤ x6_2) = true := decide_eq_true c11
        clear c11
        by_cases c12 : ((rd_T83 l0 x5_1).f1) ≤ (wrap64 (((rd_T83 l0 x6_2).f1) + ((rd_T83 l0 x6_2).f3)))
        ·rw [if_pos c12] at H
         have c12b0 : decide (((rd_T83 l0 x5_1).f1) ≤ (wrap64 (((rd_T83 l0 x6_2).f1) + ((rd_T83 l0 x6_2).f3)))) = true := decide_eq_true c12
         clear c12
         by_cases c13 : ((rd_T83 l0 x6_2).f1) ≤ (wrap64 (((rd_T83 l0 x5_1).f1) + ((rd_T83 l0 x5_1).f3)))
         ·rw [if_pos c13] at H
          have c13b0 : decide (((rd_T83 l0 x6_2).f1) ≤ (wrap64 (((rd_T83 l0 x5_1).f1) + ((rd_T83 l0 x5_1).f3)))) = true := decide_eq_true c13
          clear c13
          by_cases c14 : ((rd_T83 l0 x5_1).f2) ≤ (wrap64 (((rd_T83 l0 x6_2).f2) + ((rd_T83 l0 x6_2).f4)))
          ·rw [if_pos c14] at H
           have c14b0 : decide (((rd_T83 l0 x5_1).f2) ≤ (wrap64 (((rd_T83 l0 x6_2).f2) + ((rd_T83 l0 x6_2).f4)))) = true := decide_eq_true c14
           clear c14
           by_cases c15 : ((rd_T83 l0 x6_2).f2) ≤ (wrap64 (((rd_T83 l0 x5_1).f2) + ((rd_T83 l0 x5_1).f4)))
           ·rw [if_pos c15] at H
            have c15b0 : decide (((rd_T83 l0 x6_2).f2) ≤ (wrap64 (((rd_T83 l0 x5_1).f2) + ((rd_T83 l0 x5_1).f4)))) = true := decide_eq_true c15
            clear c15
            obtain ⟨y172, hy172⟩ : ∃ y_ : List Int, y_ = (([x5_1, x6_2] : List Int)) := ⟨_, rfl⟩
            replace H : (if x4_2.length < 5864062014805 then (spec_OverlappingAreas.l1 k2 l0 (x4_2 ++ [y172]) x5_1 (wrap64 (x6_2 + 1))) else (none)) = some (r1, r2) := by first | (rw [hy172]; with_reducible exact H) | (have H2_ := (Option.bind_some _ _).symm.trans H; rw [hy172]; with_reducible exact H2_) | (have H2_ := (Option.bind_some _ _).symm.trans H; with_reducible exact H2_) | with_reducible exact H | (rw [hy172]; exact H) | exact H
            have Ny172 := Aside0.mk hy172
            clear hy172
            by_cases c16 : x4_2.length < 5864062014805
            case neg =>
             rw [if_neg c16] at H
             exact absurd H (by simp)
            rw [if_pos c16] at H
            have LMc16 := Aside0.mk c16
            clear c16
            obtain ⟨y175, hy175⟩ : ∃ y_ : List (List Int), y_ = (x4_2 ++ [y172]) := ⟨_, rfl⟩
            replace H : (spec_OverlappingAreas.l1 k2 l0 y175 x5_1 (wrap64 (x6_2 + 1))) = some (r1, r2) := by first | (rw [hy175]; with_reducible exact H) | (have H2_ := (Option.bind_some _ _).symm.trans H; rw [hy175]; with_reducible exact H2_) | (have H2_ := (Option.bind_some _ _).symm.trans H; with_reducible exact H2_) | with_reducible exact H | (rw [hy175]; exact H) | exact H
            have Ny175 := Aside0.mk hy175
            clear hy175
            have H' := Aside0.mk H
            clear H
            try go_wp2
            have n0_ := Aside0.mk (Kd.S_drew HO_4.out)
            have n1_ := Aside0.mk (below_drew1 HB.out)
            clear HO_4
            clear HB
            have HO_4 := n0_
            have HB := n1_
            clear n0_ n1_
            have p168 : 0 ≤ (x5_1 : Int) := od_
            have q168 : x5_1 < (l0.length : Int) := od_
            obtain ⟨ad168, e168, hx168_0, hx168_1, hx168_2, hx168_3, hx168_4⟩ := at_T83 HR0.out x5_1 p168 q168
            have hw168_4 := hx168_4
            have hw168_3 := hx168_3
            have hw168_2 := hx168_2
            have hw168_1 := hx168_1
            have hw168_0 := hx168_0
            cases e168
            replace hx168_0 := (HB.out.cell (World.block_lt_of_cell? w _ hx168_0)).trans hx168_0
            replace hx168_1 := (HB.out.cell (World.block_lt_of_cell? w _ hx168_1)).trans hx168_1
            replace hx168_2 := (HB.out.cell (World.block_lt_of_cell? w _ hx168_2)).trans hx168_2
            replace hx168_3 := (HB.out.cell (World.block_lt_of_cell? w _ hx168_3)).trans hx168_3
            replace hx168_4 := (HB.out.cell (World.block_lt_of_cell? w _ hx168_4)).trans hx168_4
            replace p168 := eq_true p168
            replace q168 := eq_true q168
            have p169 : 0 ≤ (x6_2 : Int) := od_
            have q169 : x6_2 < (l0.length : Int) := od_
            obtain ⟨ad169, e169, hx169_0, hx169_1, hx169_2, hx169_3, hx169_4⟩ := at_T83 HR0.out x6_2 p169 q169
            have hw169_4 := hx169_4
            have hw169_3 := hx169_3
            have hw169_2 := hx169_2
            have hw169_1 := hx169_1
            have hw169_0 := hx169_0
            obtain rfl : ad168 = ad169 := (by injection e169)
            replace hx169_0 := (HB.out.cell (World.block_lt_of_cell? w _ hx169_0)).trans hx169_0
            replace hx169_1 := (HB.out.cell (World.block_lt_of_cell? w _ hx169_1)).trans hx169_1
            replace hx169_2 := (HB.out.cell (World.block_lt_of_cell? w _ hx169_2)).trans hx169_2
            replace hx169_3 := (HB.out.cell (World.block_lt_of_cell? w _ hx169_3)).trans hx169_3
            replace hx169_4 := (HB.out.cell (World.block_lt_of_cell? w _ hx169_4)).trans hx169_4
            replace p169 := eq_true p169
            replace q169 := eq_true q169
            refine start_ (n := 12) (S := fun w' => w'.cell? (ad168.add ((x5_1).toNat * 5)) = some (.int .i64 ((rd_T83 l0 x5_1).f0)) ∧ w'.cell? ⟨(ad168.add ((x5_1).toNat * 5)).block, (ad168.add ((x5_1).toNat * 5)).off + 1, none⟩ = some (.int .i64 ((rd_T83 l0 x5_1).f1)) ∧ w'.cell? ⟨(ad168.add ((x5_1).toNat * 5)).block, (ad168.add ((x5_1).toNat * 5)).off + 2, none⟩ = some (.int .i64 ((rd_T83 l0 x5_1).f2)) ∧ w'.cell? ⟨(ad168.add ((x5_1).toNat * 5)).block, (ad168.add ((x5_1).toNat * 5)).off + 3, none⟩ = some (.int .i64 ((rd_T83 l0 x5_1).f3)) ∧ w'.cell? ⟨(ad168.add ((x5_1).toNat * 5)).block, (ad168.add ((x5_1).toNat * 5)).off + 4, none⟩ = some (.int .i64 ((rd_T83 l0 x5_1).f4)) ∧ w'.cell? (ad168.add ((x6_2).toNat * 5)) = some (.int .i64 ((rd_T83 l0 x6_2).f0)) ∧ w'.cell? ⟨(ad168.add ((x6_2).toNat * 5)).block, (ad168.add ((x6_2).toNat * 5)).off + 1, none⟩ = some (.int .i64 ((rd_T83 l0 x6_2).f1)) ∧ w'.cell? ⟨(ad168.add ((x6_2).toNat * 5)).block, (ad168.add ((x6_2).toNat * 5)).off + 2, none⟩ = some (.int .i64 ((rd_T83 l0 x6_2).f2)) ∧ w'.cell? ⟨(ad168.add ((x6_2).toNat * 5)).block, (ad168.add ((x6_2).toNat * 5)).off + 3, none⟩ = some (.int .i64 ((rd_T83 l0 x6_2).f3)) ∧ w'.cell? ⟨(ad168.add ((x6_2).toNat * 5)).block, (ad168.add ((x6_2).toNat * 5)).off + 4, none⟩ = some (.int .i64 ((rd_T83 l0 x6_2).f4))) (ds := []) #[false, false, false, false, false, false, false, false, false, false, false, false] (by kernel_rfl) rfl rfl ⟨((HB.out.cell (World.block_lt_of_cell? w _ hw168_0)).trans hw168_0), ((HB.out.cell (World.block_lt_of_cell? w _ hw168_1)).trans hw168_1), ((HB.out.cell (World.block_lt_of_cell? w _ hw168_2)).trans hw168_2), ((HB.out.cell (World.block_lt_of_cell? w _ hw168_3)).trans hw168_3), ((HB.out.cell (World.block_lt_of_cell? w _ hw168_4)).trans hw168_4), ((HB.out.cell (World.block_lt_of_cell? w _ hw169_0)).trans hw169_0), ((HB.out.cell (World.block_lt_of_cell? w _ hw169_1)).trans hw169_1), ((HB.out.cell (World.block_lt_of_cell? w _ hw169_2)).trans hw169_2), ((HB.out.cell (World.block_lt_of_cell? w _ hw169_3)).trans hw169_3), ((HB.out.cell (World.block_lt_of_cell? w _ hw169_4)).trans hw169_4)⟩ (fun hHeld => ?_); refine with_tabW spec_OverlappingAreas.tab10 spec_OverlappingAreas.bits10 (fun HT_ HW_ => ?_)
            generalize wr.drew = w17 at HO_4 HB hx168_0 hx168_1 hx168_2 hx168_3 hx168_4 hx169_0 hx169_1 hx169_2 hx169_3 hx169_4 hHeld ⊢
            refine pure_ (i := 0) (N := some 27) (v := ?_) (a' := ?_) #[true, false, false, false, false, false, false, false, false, false, false, false] rfl rfl (any_of HT_.out (by kernel_rfl)) (fun _ _ _ h => h) (Or.inl ⟨by rfl, ?_⟩) ?_ ?_
            rotate_left
            ·intro w'
             go_simp
             with_reducible rfl
            rotate_left
            ·simp only [pz_]
             rfl
            refine pure_ (i := 1) (N := some 28) (v := ?_) (a' := ?_) #[true, true, false, false, false, false, false, false, false, false, false, false] rfl rfl (any_of HT_.out (by kernel_rfl)) (fun _ _ _ h => h) (Or.inl ⟨by rfl, ?_⟩) ?_ ?_
            rotate_left
            ·intro w'
             go_simp
             with_reducible rfl
            rotate_left
            ·simp only [pz_]
             rfl
            refine pure_ (i := 2) (N := some 29) (v := ?_) (a' := ?_) #[true, true, true, false, false, false, false, false, false, false, false, false] rfl rfl (any_of HT_.out (by kernel_rfl)) (fun _ _ _ h => h) (Or.inl ⟨by rfl, ?_⟩) ?_ ?_
            rotate_left
            ·intro w'
             go_simp
             with_reducible rfl
            rotate_left
            ·simp only [pz_]
             rfl
            refine pure_ (i := 4) (N := some 31) (v := ?_) (a' := ?_) #[true, true, true, false, true, false, false, false, false, false, false, false] rfl rfl (any_of HT_.out (by kernel_rfl)) (fun _ _ _ h => h) (Or.inl ⟨by rfl, ?_⟩) ?_ ?_
            rotate_left
            ·intro w'
             go_simp
             with_reducible rfl
            rotate_left
            ·simp only [pz_]
             rfl
            refine pure_ (i := 5) (N := some 32) (v := ?_) (a' := ?_) #[true, true, true, false, true, true, false, false, false, false, false, false] rfl rfl (any_of HT_.out (by kernel_rfl)) (fun _ _ _ h => h) (Or.inl ⟨by rfl, ?_⟩) ?_ ?_
            rotate_left
            ·intro w'
             go_simp
             with_reducible rfl
            rotate_left
            ·simp only [pz_]
             rfl
            refine pure_ (i := 6) (N := some 33) (v := ?_) (a' := ?_) #[true, true, true, false, true, true, true, false, false, false, false, false] rfl rfl (any_of HT_.out (by kernel_rfl)) (fun _ _ _ h => h) (Or.inl ⟨by rfl, ?_⟩) ?_ ?_
            rotate_left
            ·intro w'
             go_simp
             with_reducible rfl
            rotate_left
            ·simp only [pz_]
             rfl
            refine take_ (i := 3) (N := some 30) (v := ?_) (a' := ?_) #[true, true, true, true, true, true, true, false, false, false, false, false] rfl rfl (take_ofW HT_.out HW_.out (by kernel_rfl)) (fun _ _ _ h => h) (Or.inl ⟨by rfl, ?_⟩) hHeld ?_ ?_
            rotate_left
            ·rintro w' ⟨s0, s1, s2, s3, s4, s5, s6, s7, s8, s9⟩
             go_simp
             with_reducible rfl
            rotate_left
            ·simp only [pz_]
             rfl
            refine take_ (i := 7) (N := some 34) (v := ?_) (a' := ?_) #[true, true, true, true, true, true, true, true, false, false, false, false] rfl rfl (take_ofW HT_.out HW_.out (by kernel_rfl)) (fun _ _ _ h => h) (Or.inl ⟨by rfl, ?_⟩) hHeld ?_ ?_
            rotate_left
            ·rintro w' ⟨s0, s1, s2, s3, s4, s5, s6, s7, s8, s9⟩
             go_simp
             with_reducible rfl
            rotate_left
            ·simp only [pz_]
             rfl
            refine join_ (σ := Nat × Nat) 2 #[true, true, true, true, true, true, true, true, true, true, false, false] (fun s_ => [(7, .pointer (some ⟨s_.1, 0, none⟩)), (8, .pointer (some ⟨s_.2, 0, none⟩))]) (fun s_ w' => (w'.cell? (ad168.add ((x5_1).toNat * 5)) = some (.int .i64 ((rd_T83 l0 x5_1).f0)) ∧ w'.cell? ⟨(ad168.add ((x5_1).toNat * 5)).block, (ad168.add ((x5_1).toNat * 5)).off + 1, none⟩ = some (.int .i64 ((rd_T83 l0 x5_1).f1)) ∧ w'.cell? ⟨(ad168.add ((x5_1).toNat * 5)).block, (ad168.add ((x5_1).toNat * 5)).off + 2, none⟩ = some (.int .i64 ((rd_T83 l0 x5_1).f2)) ∧ w'.cell? ⟨(ad168.add ((x5_1).toNat * 5)).block, (ad168.add ((x5_1).toNat * 5)).off + 3, none⟩ = some (.int .i64 ((rd_T83 l0 x5_1).f3)) ∧ w'.cell? ⟨(ad168.add ((x5_1).toNat * 5)).block, (ad168.add ((x5_1).toNat * 5)).off + 4, none⟩ = some (.int .i64 ((rd_T83 l0 x5_1).f4)) ∧ w'.cell? (ad168.add ((x6_2).toNat * 5)) = some (.int .i64 ((rd_T83 l0 x6_2).f0)) ∧ w'.cell? ⟨(ad168.add ((x6_2).toNat * 5)).block, (ad168.add ((x6_2).toNat * 5)).off + 1, none⟩ = some (.int .i64 ((rd_T83 l0 x6_2).f1)) ∧ w'.cell? ⟨(ad168.add ((x6_2).toNat * 5)).block, (ad168.add ((x6_2).toNat * 5)).off + 2, none⟩ = some (.int .i64 ((rd_T83 l0 x6_2).f2)) ∧ w'.cell? ⟨(ad168.add ((x6_2).toNat * 5)).block, (ad168.add ((x6_2).toNat * 5)).off + 3, none⟩ = some (.int .i64 ((rd_T83 l0 x6_2).f3)) ∧ w'.cell? ⟨(ad168.add ((x6_2).toNat * 5)).block, (ad168.add ((x6_2).toNat * 5)).off + 4, none⟩ = some (.int .i64 ((rd_T83 l0 x6_2).f4))) ∧ (Kd.S (Kd.slice 2 (Kd.int .i64)) 24 w' w.heap.size (fun _ => True) u4 x4_2) ∧ (w'.heap[s_.1]? = some (.cells #[.int .i64 0, .int .i64 0, .int .i64 0, .int .i64 0, .int .i64 0] 83 (0, 0))) ∧ (w'.heap[s_.2]? = some (.cells #[.int .i64 0, .int .i64 0, .int .i64 0, .int .i64 0, .int .i64 0] 83 (0, 0))) ∧ (w.heap.size ≤ s_.1) ∧ (w.heap.size ≤ s_.1) ∧ (s_.2 ≠ s_.1) ∧ (s_.1 ≠ s_.2) ∧ (w.heap.size ≤ s_.2) ∧ (w.heap.size ≤ s_.2) ∧ (Below w.heap.size w w')) ?_ ?_
            rotate_left
            ·intro hCont
             refine two_ (i := 8) (j := 9) (Ni := some 7) (Nj := some 8) #[true, true, true, true, true, true, true, true, true, false, false, false] #[true, true, true, true, true, true, true, true, false, true, false, false] rfl rfl rfl rfl (two_of HT_.out (by kernel_rfl)) (by decide) (by decide) (fun K hK => ?_) (fun K hK => ?_)
             ·skip
              refine box_step ?hg (N := 7) ?hd (cs := #[.int .i64 0, .int .i64 0, .int .i64 0, .int .i64 0, .int .i64 0]) (t := 83) ?hr ?_; (case hd => rfl); (case hg => rfl); (case hr => first | (go_simp; done) | (go_simp; rfl))
              intro gb170 hg w18 hbox hb
              have n0_ := Aside0.mk (Kd.S_below (by (with_reducible repeat (first | apply Kd.S_alloc | apply Kd.S_drewN | apply Kd.S_drew)); exact HO_4.out) hb)
              have n1_ := Aside0.mk (below_step (bl_ HB.out) hb)
              have n2_ := Aside0.mk (hbox)
              have n3_ := Aside0.mk ((by rw [hg]; exact (below_size (bl_ HB.out)) : w.heap.size ≤ gb170))
              have n4_ := Aside0.mk ((by rw [hg]; exact (below_size (bl_ HB.out)) : w.heap.size ≤ gb170))
              clear HO_4
              clear HB
              have HO_4 := n0_
              have HB := n1_
              have BK170 := n2_
              have GW170 := n3_
              have GE170 := n4_
              clear n0_ n1_ n2_ n3_ n4_
              clear hb hbox hg
              refine hK.out _ _ ⟨((HB.out.cell (World.block_lt_of_cell? w _ hw168_0)).trans hw168_0), ((HB.out.cell (World.block_lt_of_cell? w _ hw168_1)).trans hw168_1), ((HB.out.cell (World.block_lt_of_cell? w _ hw168_2)).trans hw168_2), ((HB.out.cell (World.block_lt_of_cell? w _ hw168_3)).trans hw168_3), ((HB.out.cell (World.block_lt_of_cell? w _ hw168_4)).trans hw168_4), ((HB.out.cell (World.block_lt_of_cell? w _ hw169_0)).trans hw169_0), ((HB.out.cell (World.block_lt_of_cell? w _ hw169_1)).trans hw169_1), ((HB.out.cell (World.block_lt_of_cell? w _ hw169_2)).trans hw169_2), ((HB.out.cell (World.block_lt_of_cell? w _ hw169_3)).trans hw169_3), ((HB.out.cell (World.block_lt_of_cell? w _ hw169_4)).trans hw169_4)⟩ (fun hHeld => ?_)
              clear hK K
              refine norm_ (a' := ?_) ?_ ?_
              rotate_left
              ·show Act.put _ (some 7) _ = _
               simp only [pz_]
               rfl
              refine one_ (i := 9) (N := some 8) #[true, true, true, true, true, true, true, true, true, true, false, false] rfl rfl (one_of HT_.out (by kernel_rfl)) (by decide) (fun K hK => ?_)
              refine box_step ?hg (N := 8) ?hd (cs := #[.int .i64 0, .int .i64 0, .int .i64 0, .int .i64 0, .int .i64 0]) (t := 83) ?hr ?_; (case hd => rfl); (case hg => rfl); (case hr => first | (go_simp; done) | (go_simp; rfl))
              intro gb171 hg w19 hbox hb
              have n0_ := Aside0.mk (Kd.S_below (by (with_reducible repeat (first | apply Kd.S_alloc | apply Kd.S_drewN | apply Kd.S_drew)); exact HO_4.out) hb)
              have n1_ := Aside0.mk (blk_below (g := gb170) (o := .cells #[.int .i64 0, .int .i64 0, .int .i64 0, .int .i64 0, .int .i64 0] 83 (0, 0)) (by (with_reducible repeat (first | refine blk_drewN ?_ _ | refine blk_drew ?_ | refine blk_alloc ?_ _)); exact BK170.out) hb)
              have n2_ := Aside0.mk (below_step (by repeat (first | (with_reducible first | exact HB.out | apply below_alloc | apply pw_below_drewN | apply below_drew1 | refine below_set ?_ GE170.out) | exact HB.out)) hb)
              have n3_ := Aside0.mk (hbox)
              have n4_ := Aside0.mk ((by rw [hg]; exact (below_size (by repeat (first | (with_reducible first | exact HB.out | apply below_alloc | apply pw_below_drewN | apply below_drew1 | refine below_set ?_ GE170.out) | exact HB.out))) : w.heap.size ≤ gb171))
              have n5_ := Aside0.mk ((by rw [hg]; exact (below_size (by repeat (first | (with_reducible first | exact HB.out | apply below_alloc | apply pw_below_drewN | apply below_drew1 | refine below_set ?_ GE170.out) | exact HB.out))) : w.heap.size ≤ gb171))
              have n6_ := Aside0.mk ((by rw [hg]; exact Nat.ne_of_lt (blk_lt (g := gb170) (o := .cells #[.int .i64 0, .int .i64 0, .int .i64 0, .int .i64 0, .int .i64 0] 83 (0, 0)) (by (with_reducible repeat (first | refine blk_drewN ?_ _ | refine blk_drew ?_ | refine blk_alloc ?_ _)); exact BK170.out)) : gb170 ≠ gb171))
              have n7_ := Aside0.mk ((by rw [hg]; exact Nat.ne_of_gt (blk_lt (g := gb170) (o := .cells #[.int .i64 0, .int .i64 0, .int .i64 0, .int .i64 0, .int .i64 0] 83 (0, 0)) (by (with_reducible repeat (first | refine blk_drewN ?_ _ | refine blk_drew ?_ | refine blk_alloc ?_ _)); exact BK170.out)) : gb171 ≠ gb170))
              clear HO_4
              clear BK170
              clear HB
              have HO_4 := n0_
              have BK170 := n1_
              have HB := n2_
              have BK171 := n3_
              have GW171 := n4_
              have GE171 := n5_
              have NB170_171 := n6_
              have NB171_170 := n7_
              clear n0_ n1_ n2_ n3_ n4_ n5_ n6_ n7_
              clear hb hbox hg
              refine hK.out _ _ ⟨((HB.out.cell (World.block_lt_of_cell? w _ hw168_0)).trans hw168_0), ((HB.out.cell (World.block_lt_of_cell? w _ hw168_1)).trans hw168_1), ((HB.out.cell (World.block_lt_of_cell? w _ hw168_2)).trans hw168_2), ((HB.out.cell (World.block_lt_of_cell? w _ hw168_3)).trans hw168_3), ((HB.out.cell (World.block_lt_of_cell? w _ hw168_4)).trans hw168_4), ((HB.out.cell (World.block_lt_of_cell? w _ hw169_0)).trans hw169_0), ((HB.out.cell (World.block_lt_of_cell? w _ hw169_1)).trans hw169_1), ((HB.out.cell (World.block_lt_of_cell? w _ hw169_2)).trans hw169_2), ((HB.out.cell (World.block_lt_of_cell? w _ hw169_3)).trans hw169_3), ((HB.out.cell (World.block_lt_of_cell? w _ hw169_4)).trans hw169_4)⟩ (fun hHeld => ?_)
              clear hK K
              refine norm_ (a' := ?_) ?_ ?_
              rotate_left
              ·show Act.put _ (some 8) _ = _
               simp only [pz_]
               rfl
              exact norm_ (by simp only [putAll, Act.put, List.setIfInBounds_toArray, List.set_cons_zero, List.set_cons_succ]) (hCont (gb170, gb171) _ ⟨hHeld, (by (with_reducible repeat (first | apply Kd.S_alloc | apply Kd.S_drewN | apply Kd.S_drew)); exact HO_4.out), (by (with_reducible repeat (first | refine blk_drewN ?_ _ | refine blk_drew ?_ | refine blk_alloc ?_ _)); exact BK170.out), (by (with_reducible repeat (first | refine blk_drewN ?_ _ | refine blk_drew ?_ | refine blk_alloc ?_ _)); exact BK171.out), GW170.out, GE170.out, NB171_170.out, NB170_171.out, GW171.out, GE171.out, (by repeat (first | (with_reducible first | exact HB.out | apply below_alloc | apply pw_below_drewN | apply below_drew1 | refine below_set ?_ GE170.out | refine below_set ?_ GE171.out) | exact HB.out))⟩)
             ·skip
              refine box_step ?hg (N := 8) ?hd (cs := #[.int .i64 0, .int .i64 0, .int .i64 0, .int .i64 0, .int .i64 0]) (t := 83) ?hr ?_; (case hd => rfl); (case hg => rfl); (case hr => first | (go_simp; done) | (go_simp; rfl))
              intro gb171 hg w18 hbox hb
              have n0_ := Aside0.mk (Kd.S_below (by (with_reducible repeat (first | apply Kd.S_alloc | apply Kd.S_drewN | apply Kd.S_drew)); exact HO_4.out) hb)
              have n1_ := Aside0.mk (below_step (bl_ HB.out) hb)
              have n2_ := Aside0.mk (hbox)
              have n3_ := Aside0.mk ((by rw [hg]; exact (below_size (bl_ HB.out)) : w.heap.size ≤ gb171))
              have n4_ := Aside0.mk ((by rw [hg]; exact (below_size (bl_ HB.out)) : w.heap.size ≤ gb171))
              clear HO_4
              clear HB
              have HO_4 := n0_
              have HB := n1_
              have BK171 := n2_
              have GW171 := n3_
              have GE171 := n4_
              clear n0_ n1_ n2_ n3_ n4_
              clear hb hbox hg
              refine hK.out _ _ ⟨((HB.out.cell (World.block_lt_of_cell? w _ hw168_0)).trans hw168_0), ((HB.out.cell (World.block_lt_of_cell? w _ hw168_1)).trans hw168_1), ((HB.out.cell (World.block_lt_of_cell? w _ hw168_2)).trans hw168_2), ((HB.out.cell (World.block_lt_of_cell? w _ hw168_3)).trans hw168_3), ((HB.out.cell (World.block_lt_of_cell? w _ hw168_4)).trans hw168_4), ((HB.out.cell (World.block_lt_of_cell? w _ hw169_0)).trans hw169_0), ((HB.out.cell (World.block_lt_of_cell? w _ hw169_1)).trans hw169_1), ((HB.out.cell (World.block_lt_of_cell? w _ hw169_2)).trans hw169_2), ((HB.out.cell (World.block_lt_of_cell? w _ hw169_3)).trans hw169_3), ((HB.out.cell (World.block_lt_of_cell? w _ hw169_4)).trans hw169_4)⟩ (fun hHeld => ?_)
              clear hK K
              refine norm_ (a' := ?_) ?_ ?_
              rotate_left
              ·show Act.put _ (some 8) _ = _
               simp only [pz_]
               rfl
              refine one_ (i := 8) (N := some 7) #[true, true, true, true, true, true, true, true, true, true, false, false] rfl rfl (one_of HT_.out (by kernel_rfl)) (by decide) (fun K hK => ?_)
              refine box_step ?hg (N := 7) ?hd (cs := #[.int .i64 0, .int .i64 0, .int .i64 0, .int .i64 0, .int .i64 0]) (t := 83) ?hr ?_; (case hd => rfl); (case hg => rfl); (case hr => first | (go_simp; done) | (go_simp; rfl))
              intro gb170 hg w19 hbox hb
              have n0_ := Aside0.mk (Kd.S_below (by (with_reducible repeat (first | apply Kd.S_alloc | apply Kd.S_drewN | apply Kd.S_drew)); exact HO_4.out) hb)
              have n1_ := Aside0.mk (blk_below (g := gb171) (o := .cells #[.int .i64 0, .int .i64 0, .int .i64 0, .int .i64 0, .int .i64 0] 83 (0, 0)) (by (with_reducible repeat (first | refine blk_drewN ?_ _ | refine blk_drew ?_ | refine blk_alloc ?_ _)); exact BK171.out) hb)
              have n2_ := Aside0.mk (below_step (by repeat (first | (with_reducible first | exact HB.out | apply below_alloc | apply pw_below_drewN | apply below_drew1 | refine below_set ?_ GE171.out) | exact HB.out)) hb)
              have n3_ := Aside0.mk (hbox)
              have n4_ := Aside0.mk ((by rw [hg]; exact (below_size (by repeat (first | (with_reducible first | exact HB.out | apply below_alloc | apply pw_below_drewN | apply below_drew1 | refine below_set ?_ GE171.out) | exact HB.out))) : w.heap.size ≤ gb170))
              have n5_ := Aside0.mk ((by rw [hg]; exact (below_size (by repeat (first | (with_reducible first | exact HB.out | apply below_alloc | apply pw_below_drewN | apply below_drew1 | refine below_set ?_ GE171.out) | exact HB.out))) : w.heap.size ≤ gb170))
              have n6_ := Aside0.mk ((by rw [hg]; exact Nat.ne_of_lt (blk_lt (g := gb171) (o := .cells #[.int .i64 0, .int .i64 0, .int .i64 0, .int .i64 0, .int .i64 0] 83 (0, 0)) (by (with_reducible repeat (first | refine blk_drewN ?_ _ | refine blk_drew ?_ | refine blk_alloc ?_ _)); exact BK171.out)) : gb171 ≠ gb170))
              have n7_ := Aside0.mk ((by rw [hg]; exact Nat.ne_of_gt (blk_lt (g := gb171) (o := .cells #[.int .i64 0, .int .i64 0, .int .i64 0, .int .i64 0, .int .i64 0] 83 (0, 0)) (by (with_reducible repeat (first | refine blk_drewN ?_ _ | refine blk_drew ?_ | refine blk_alloc ?_ _)); exact BK171.out)) : gb170 ≠ gb171))
              clear HO_4
              clear BK171
              clear HB
              have HO_4 := n0_
              have BK171 := n1_
              have HB := n2_
              have BK170 := n3_
              have GW170 := n4_
              have GE170 := n5_
              have NB171_170 := n6_
              have NB170_171 := n7_
              clear n0_ n1_ n2_ n3_ n4_ n5_ n6_ n7_
              clear hb hbox hg
              refine hK.out _ _ ⟨((HB.out.cell (World.block_lt_of_cell? w _ hw168_0)).trans hw168_0), ((HB.out.cell (World.block_lt_of_cell? w _ hw168_1)).trans hw168_1), ((HB.out.cell (World.block_lt_of_cell? w _ hw168_2)).trans hw168_2), ((HB.out.cell (World.block_lt_of_cell? w _ hw168_3)).trans hw168_3), ((HB.out.cell (World.block_lt_of_cell? w _ hw168_4)).trans hw168_4), ((HB.out.cell (World.block_lt_of_cell? w _ hw169_0)).trans hw169_0), ((HB.out.cell (World.block_lt_of_cell? w _ hw169_1)).trans hw169_1), ((HB.out.cell (World.block_lt_of_cell? w _ hw169_2)).trans hw169_2), ((HB.out.cell (World.block_lt_of_cell? w _ hw169_3)).trans hw169_3), ((HB.out.cell (World.block_lt_of_cell? w _ hw169_4)).trans hw169_4)⟩ (fun hHeld => ?_)
              clear hK K
              refine norm_ (a' := ?_) ?_ ?_
              rotate_left
              ·show Act.put _ (some 7) _ = _
               simp only [pz_]
               rfl
              exact norm_ (by simp only [putAll, Act.put, List.setIfInBounds_toArray, List.set_cons_zero, List.set_cons_succ]) (hCont (gb170, gb171) _ ⟨hHeld, (by (with_reducible repeat (first | apply Kd.S_alloc | apply Kd.S_drewN | apply Kd.S_drew)); exact HO_4.out), (by (with_reducible repeat (first | refine blk_drewN ?_ _ | refine blk_drew ?_ | refine blk_alloc ?_ _)); exact BK170.out), (by (with_reducible repeat (first | refine blk_drewN ?_ _ | refine blk_drew ?_ | refine blk_alloc ?_ _)); exact BK171.out), GW170.out, GE170.out, NB171_170.out, NB170_171.out, GW171.out, GE171.out, (by repeat (first | (with_reducible first | exact HB.out | apply below_alloc | apply pw_below_drewN | apply below_drew1 | refine below_set ?_ GE171.out | refine below_set ?_ GE170.out) | exact HB.out))⟩)
            rintro ⟨gb170, gb171⟩ w20 ⟨hS_, h0_, h1_, h2_, h3_, h4_, h5_, h6_, h7_, h8_, h9_⟩
            have n0_ : Aside0 (Kd.S (Kd.slice 2 (Kd.int .i64)) 24 w20 w.heap.size (fun _ => True) u4 x4_2) := ⟨h0_⟩
            have n1_ : Aside0 (w20.heap[gb170]? = some (.cells #[.int .i64 0, .int .i64 0, .int .i64 0, .int .i64 0, .int .i64 0] 83 (0, 0))) := ⟨h1_⟩
            have n2_ : Aside0 (w20.heap[gb171]? = some (.cells #[.int .i64 0, .int .i64 0, .int .i64 0, .int .i64 0, .int .i64 0] 83 (0, 0))) := ⟨h2_⟩
            have n3_ : Aside0 (w.heap.size ≤ gb170) := ⟨h3_⟩
            have n4_ : Aside0 (w.heap.size ≤ gb170) := ⟨h4_⟩
            have n5_ : Aside0 (gb171 ≠ gb170) := ⟨h5_⟩
            have n6_ : Aside0 (gb170 ≠ gb171) := ⟨h6_⟩
            have n7_ : Aside0 (w.heap.size ≤ gb171) := ⟨h7_⟩
            have n8_ : Aside0 (w.heap.size ≤ gb171) := ⟨h8_⟩
            have n9_ : Aside0 (Below w.heap.size w w20) := ⟨h9_⟩
            clear HO_4
            clear HB
            clear h0_ h1_ h2_ h3_ h4_ h5_ h6_ h7_ h8_ h9_
            have HO_4 := n0_
            have BK170 := n1_
            have BK171 := n2_
            have GW170 := n3_
            have GE170 := n4_
            have NB171_170 := n5_
            have NB170_171 := n6_
            have GW171 := n7_
            have GE171 := n8_
            have HB := n9_
            clear n0_ n1_ n2_ n3_ n4_ n5_ n6_ n7_ n8_ n9_
            have hHeld : w20.cell? (ad168.add ((x5_1).toNat * 5)) = some (.int .i64 ((rd_T83 l0 x5_1).f0)) ∧ w20.cell? ⟨(ad168.add ((x5_1).toNat * 5)).block, (ad168.add ((x5_1).toNat * 5)).off + 1, none⟩ = some (.int .i64 ((rd_T83 l0 x5_1).f1)) ∧ w20.cell? ⟨(ad168.add ((x5_1).toNat * 5)).block, (ad168.add ((x5_1).toNat * 5)).off + 2, none⟩ = some (.int .i64 ((rd_T83 l0 x5_1).f2)) ∧ w20.cell? ⟨(ad168.add ((x5_1).toNat * 5)).block, (ad168.add ((x5_1).toNat * 5)).off + 3, none⟩ = some (.int .i64 ((rd_T83 l0 x5_1).f3)) ∧ w20.cell? ⟨(ad168.add ((x5_1).toNat * 5)).block, (ad168.add ((x5_1).toNat * 5)).off + 4, none⟩ = some (.int .i64 ((rd_T83 l0 x5_1).f4)) ∧ w20.cell? (ad168.add ((x6_2).toNat * 5)) = some (.int .i64 ((rd_T83 l0 x6_2).f0)) ∧ w20.cell? ⟨(ad168.add ((x6_2).toNat * 5)).block, (ad168.add ((x6_2).toNat * 5)).off + 1, none⟩ = some (.int .i64 ((rd_T83 l0 x6_2).f1)) ∧ w20.cell? ⟨(ad168.add ((x6_2).toNat * 5)).block, (ad168.add ((x6_2).toNat * 5)).off + 2, none⟩ = some (.int .i64 ((rd_T83 l0 x6_2).f2)) ∧ w20.cell? ⟨(ad168.add ((x6_2).toNat * 5)).block, (ad168.add ((x6_2).toNat * 5)).off + 3, none⟩ = some (.int .i64 ((rd_T83 l0 x6_2).f3)) ∧ w20.cell? ⟨(ad168.add ((x6_2).toNat * 5)).block, (ad168.add ((x6_2).toNat * 5)).off + 4, none⟩ = some (.int .i64 ((rd_T83 l0 x6_2).f4)) := hS_
            refine norm_ (a' := ?_) ?_ ?_
            rotate_left
            ·simp only [putAll, Act.put, List.setIfInBounds_toArray, List.set_cons_zero, List.set_cons_succ]
             rfl
            refine one_ (i := 10) (N := none) #[true, true, true, true, true, true, true, true, true, true, true, false] rfl rfl (one_of HT_.out (by kernel_rfl)) (by decide) (fun K hK => ?_)
            have hs21 : w20.cell? ⟨gb170, 0, none⟩ = some (.int .i64 0) := (blk_cell BK170.out 0).trans rfl
            have hfs21 := blk_frozen BK170.out 0
            have hns21_1 := NB171_170.out
            have hms21_1 := NB170_171.out
            have hs22 : w20.cell? ⟨gb170, 1, none⟩ = some (.int .i64 0) := (blk_cell BK170.out 1).trans rfl
            have hfs22 := blk_frozen BK170.out 1
            have hns22_1 := NB171_170.out
            have hms22_1 := NB170_171.out
            have hs23 : w20.cell? ⟨gb170, 2, none⟩ = some (.int .i64 0) := (blk_cell BK170.out 2).trans rfl
            have hfs23 := blk_frozen BK170.out 2
            have hns23_1 := NB171_170.out
            have hms23_1 := NB170_171.out
            have hs24 : w20.cell? ⟨gb170, 3, none⟩ = some (.int .i64 0) := (blk_cell BK170.out 3).trans rfl
            have hfs24 := blk_frozen BK170.out 3
            have hns24_1 := NB171_170.out
            have hms24_1 := NB170_171.out
            have hs25 : w20.cell? ⟨gb170, 4, none⟩ = some (.int .i64 0) := (blk_cell BK170.out 4).trans rfl
            have hfs25 := blk_frozen BK170.out 4
            have hns25_1 := NB171_170.out
            have hms25_1 := NB170_171.out
            refine skip_ (w1 := ?_) (by rfl) rfl ?_ ?_
            rotate_left
            ·go_simp
             rfl
            refine hK.out _ _ ⟨((cell_far (p := ⟨gb170, _, none⟩) (fn_ hw168_0 GW170.out) _).trans (((cell_far (p := ⟨gb170, _, none⟩) (fn_ hw168_0 GW170.out) _).trans (((cell_far (p := ⟨gb170, _, none⟩) (fn_ hw168_0 GW170.out) _).trans (((cell_far (p := ⟨gb170, _, none⟩) (fn_ hw168_0 GW170.out) _).trans (((cell_far (p := ⟨gb170, _, none⟩) (fn_ hw168_0 GW170.out) _).trans (hHeld.1)))))))))), ((cell_far (p := ⟨gb170, _, none⟩) (fn_ hw168_1 GW170.out) _).trans (((cell_far (p := ⟨gb170, _, none⟩) (fn_ hw168_1 GW170.out) _).trans (((cell_far (p := ⟨gb170, _, none⟩) (fn_ hw168_1 GW170.out) _).trans (((cell_far (p := ⟨gb170, _, none⟩) (fn_ hw168_1 GW170.out) _).trans (((cell_far (p := ⟨gb170, _, none⟩) (fn_ hw168_1 GW170.out) _).trans (hHeld.2.1)))))))))), ((cell_far (p := ⟨gb170, _, none⟩) (fn_ hw168_2 GW170.out) _).trans (((cell_far (p := ⟨gb170, _, none⟩) (fn_ hw168_2 GW170.out) _).trans (((cell_far (p := ⟨gb170, _, none⟩) (fn_ hw168_2 GW170.out) _).trans (((cell_far (p := ⟨gb170, _, none⟩) (fn_ hw168_2 GW170.out) _).trans (((cell_far (p := ⟨gb170, _, none⟩) (fn_ hw168_2 GW170.out) _).trans (hHeld.2.2.1)))))))))), ((cell_far (p := ⟨gb170, _, none⟩) (fn_ hw168_3 GW170.out) _).trans (((cell_far (p := ⟨gb170, _, none⟩) (fn_ hw168_3 GW170.out) _).trans (((cell_far (p := ⟨gb170, _, none⟩) (fn_ hw168_3 GW170.out) _).trans (((cell_far (p := ⟨gb170, _, none⟩) (fn_ hw168_3 GW170.out) _).trans (((cell_far (p := ⟨gb170, _, none⟩) (fn_ hw168_3 GW170.out) _).trans (hHeld.2.2.2.1)))))))))), ((cell_far (p := ⟨gb170, _, none⟩) (fn_ hw168_4 GW170.out) _).trans (((cell_far (p := ⟨gb170, _, none⟩) (fn_ hw168_4 GW170.out) _).trans (((cell_far (p := ⟨gb170, _, none⟩) (fn_ hw168_4 GW170.out) _).trans (((cell_far (p := ⟨gb170, _, none⟩) (fn_ hw168_4 GW170.out) _).trans (((cell_far (p := ⟨gb170, _, none⟩) (fn_ hw168_4 GW170.out) _).trans (hHeld.2.2.2.2.1)))))))))), ((cell_far (p := ⟨gb170, _, none⟩) (fn_ hw169_0 GW170.out) _).trans (((cell_far (p := ⟨gb170, _, none⟩) (fn_ hw169_0 GW170.out) _).trans (((cell_far (p := ⟨gb170, _, none⟩) (fn_ hw169_0 GW170.out) _).trans (((cell_far (p := ⟨gb170, _, none⟩) (fn_ hw169_0 GW170.out) _).trans (((cell_far (p := ⟨gb170, _, none⟩) (fn_ hw169_0 GW170.out) _).trans (hHeld.2.2.2.2.2.1)))))))))), ((cell_far (p := ⟨gb170, _, none⟩) (fn_ hw169_1 GW170.out) _).trans (((cell_far (p := ⟨gb170, _, none⟩) (fn_ hw169_1 GW170.out) _).trans (((cell_far (p := ⟨gb170, _, none⟩) (fn_ hw169_1 GW170.out) _).trans (((cell_far (p := ⟨gb170, _, none⟩) (fn_ hw169_1 GW170.out) _).trans (((cell_far (p := ⟨gb170, _, none⟩) (fn_ hw169_1 GW170.out) _).trans (hHeld.2.2.2.2.2.2.1)))))))))), ((cell_far (p := ⟨gb170, _, none⟩) (fn_ hw169_2 GW170.out) _).trans (((cell_far (p := ⟨gb170, _, none⟩) (fn_ hw169_2 GW170.out) _).trans (((cell_far (p := ⟨gb170, _, none⟩) (fn_ hw169_2 GW170.out) _).trans (((cell_far (p := ⟨gb170, _, none⟩) (fn_ hw169_2 GW170.out) _).trans (((cell_far (p := ⟨gb170, _, none⟩) (fn_ hw169_2 GW170.out) _).trans (hHeld.2.2.2.2.2.2.2.1)))))))))), ((cell_far (p := ⟨gb170, _, none⟩) (fn_ hw169_3 GW170.out) _).trans (((cell_far (p := ⟨gb170, _, none⟩) (fn_ hw169_3 GW170.out) _).trans (((cell_far (p := ⟨gb170, _, none⟩) (fn_ hw169_3 GW170.out) _).trans (((cell_far (p := ⟨gb170, _, none⟩) (fn_ hw169_3 GW170.out) _).trans (((cell_far (p := ⟨gb170, _, none⟩) (fn_ hw169_3 GW170.out) _).trans (hHeld.2.2.2.2.2.2.2.2.1)))))))))), ((cell_far (p := ⟨gb170, _, none⟩) (fn_ hw169_4 GW170.out) _).trans (((cell_far (p := ⟨gb170, _, none⟩) (fn_ hw169_4 GW170.out) _).trans (((cell_far (p := ⟨gb170, _, none⟩) (fn_ hw169_4 GW170.out) _).trans (((cell_far (p := ⟨gb170, _, none⟩) (fn_ hw169_4 GW170.out) _).trans (((cell_far (p := ⟨gb170, _, none⟩) (fn_ hw169_4 GW170.out) _).trans (hHeld.2.2.2.2.2.2.2.2.2))))))))))⟩ (fun hHeld => ?_)
            clear hK K
            refine one_ (i := 11) (N := none) #[true, true, true, true, true, true, true, true, true, true, true, true] rfl rfl (one_of HT_.out (by kernel_rfl)) (by decide) (fun K hK => ?_)
            have hs26 : w20.cell? ⟨gb171, 0, none⟩ = some (.int .i64 0) := (blk_cell BK171.out 0).trans rfl
            have hfs26 := blk_frozen BK171.out 0
            have hns26_0 := NB170_171.out
            have hms26_0 := NB171_170.out
            have hs27 : w20.cell? ⟨gb171, 1, none⟩ = some (.int .i64 0) := (blk_cell BK171.out 1).trans rfl
            have hfs27 := blk_frozen BK171.out 1
            have hns27_0 := NB170_171.out
            have hms27_0 := NB171_170.out
            have hs28 : w20.cell? ⟨gb171, 2, none⟩ = some (.int .i64 0) := (blk_cell BK171.out 2).trans rfl
            have hfs28 := blk_frozen BK171.out 2
            have hns28_0 := NB170_171.out
            have hms28_0 := NB171_170.out
            have hs29 : w20.cell? ⟨gb171, 3, none⟩ = some (.int .i64 0) := (blk_cell BK171.out 3).trans rfl
            have hfs29 := blk_frozen BK171.out 3
            have hns29_0 := NB170_171.out
            have hms29_0 := NB171_170.out
            have hs30 : w20.cell? ⟨gb171, 4, none⟩ = some (.int .i64 0) := (blk_cell BK171.out 4).trans rfl
            have hfs30 := blk_frozen BK171.out 4
            have hns30_0 := NB170_171.out
            have hms30_0 := NB171_170.out
            refine skip_ (w1 := ?_) (by rfl) rfl ?_ ?_
            rotate_left
            ·go_simp
             rfl
            refine hK.out _ _ ⟨((cell_far (p := ⟨gb171, _, none⟩) (fn_ hw168_0 GW171.out) _).trans (((cell_far (p := ⟨gb171, _, none⟩) (fn_ hw168_0 GW171.out) _).trans (((cell_far (p := ⟨gb171, _, none⟩) (fn_ hw168_0 GW171.out) _).trans (((cell_far (p := ⟨gb171, _, none⟩) (fn_ hw168_0 GW171.out) _).trans (((cell_far (p := ⟨gb171, _, none⟩) (fn_ hw168_0 GW171.out) _).trans (hHeld.1)))))))))), ((cell_far (p := ⟨gb171, _, none⟩) (fn_ hw168_1 GW171.out) _).trans (((cell_far (p := ⟨gb171, _, none⟩) (fn_ hw168_1 GW171.out) _).trans (((cell_far (p := ⟨gb171, _, none⟩) (fn_ hw168_1 GW171.out) _).trans (((cell_far (p := ⟨gb171, _, none⟩) (fn_ hw168_1 GW171.out) _).trans (((cell_far (p := ⟨gb171, _, none⟩) (fn_ hw168_1 GW171.out) _).trans (hHeld.2.1)))))))))), ((cell_far (p := ⟨gb171, _, none⟩) (fn_ hw168_2 GW171.out) _).trans (((cell_far (p := ⟨gb171, _, none⟩) (fn_ hw168_2 GW171.out) _).trans (((cell_far (p := ⟨gb171, _, none⟩) (fn_ hw168_2 GW171.out) _).trans (((cell_far (p := ⟨gb171, _, none⟩) (fn_ hw168_2 GW171.out) _).trans (((cell_far (p := ⟨gb171, _, none⟩) (fn_ hw168_2 GW171.out) _).trans (hHeld.2.2.1)))))))))), ((cell_far (p := ⟨gb171, _, none⟩) (fn_ hw168_3 GW171.out) _).trans (((cell_far (p := ⟨gb171, _, none⟩) (fn_ hw168_3 GW171.out) _).trans (((cell_far (p := ⟨gb171, _, none⟩) (fn_ hw168_3 GW171.out) _).trans (((cell_far (p := ⟨gb171, _, none⟩) (fn_ hw168_3 GW171.out) _).trans (((cell_far (p := ⟨gb171, _, none⟩) (fn_ hw168_3 GW171.out) _).trans (hHeld.2.2.2.1)))))))))), ((cell_far (p := ⟨gb171, _, none⟩) (fn_ hw168_4 GW171.out) _).trans (((cell_far (p := ⟨gb171, _, none⟩) (fn_ hw168_4 GW171.out) _).trans (((cell_far (p := ⟨gb171, _, none⟩) (fn_ hw168_4 GW171.out) _).trans (((cell_far (p := ⟨gb171, _, none⟩) (fn_ hw168_4 GW171.out) _).trans (((cell_far (p := ⟨gb171, _, none⟩) (fn_ hw168_4 GW171.out) _).trans (hHeld.2.2.2.2.1)))))))))), ((cell_far (p := ⟨gb171, _, none⟩) (fn_ hw169_0 GW171.out) _).trans (((cell_far (p := ⟨gb171, _, none⟩) (fn_ hw169_0 GW171.out) _).trans (((cell_far (p := ⟨gb171, _, none⟩) (fn_ hw169_0 GW171.out) _).trans (((cell_far (p := ⟨gb171, _, none⟩) (fn_ hw169_0 GW171.out) _).trans (((cell_far (p := ⟨gb171, _, none⟩) (fn_ hw169_0 GW171.out) _).trans (hHeld.2.2.2.2.2.1)))))))))), ((cell_far (p := ⟨gb171, _, none⟩) (fn_ hw169_1 GW171.out) _).trans (((cell_far (p := ⟨gb171, _, none⟩) (fn_ hw169_1 GW171.out) _).trans (((cell_far (p := ⟨gb171, _, none⟩) (fn_ hw169_1 GW171.out) _).trans (((cell_far (p := ⟨gb171, _, none⟩) (fn_ hw169_1 GW171.out) _).trans (((cell_far (p := ⟨gb171, _, none⟩) (fn_ hw169_1 GW171.out) _).trans (hHeld.2.2.2.2.2.2.1)))))))))), ((cell_far (p := ⟨gb171, _, none⟩) (fn_ hw169_2 GW171.out) _).trans (((cell_far (p := ⟨gb171, _, none⟩) (fn_ hw169_2 GW171.out) _).trans (((cell_far (p := ⟨gb171, _, none⟩) (fn_ hw169_2 GW171.out) _).trans (((cell_far (p := ⟨gb171, _, none⟩) (fn_ hw169_2 GW171.out) _).trans (((cell_far (p := ⟨gb171, _, none⟩) (fn_ hw169_2 GW171.out) _).trans (hHeld.2.2.2.2.2.2.2.1)))))))))), ((cell_far (p := ⟨gb171, _, none⟩) (fn_ hw169_3 GW171.out) _).trans (((cell_far (p := ⟨gb171, _, none⟩) (fn_ hw169_3 GW171.out) _).trans (((cell_far (p := ⟨gb171, _, none⟩) (fn_ hw169_3 GW171.out) _).trans (((cell_far (p := ⟨gb171, _, none⟩) (fn_ hw169_3 GW171.out) _).trans (((cell_far (p := ⟨gb171, _, none⟩) (fn_ hw169_3 GW171.out) _).trans (hHeld.2.2.2.2.2.2.2.2.1)))))))))), ((cell_far (p := ⟨gb171, _, none⟩) (fn_ hw169_4 GW171.out) _).trans (((cell_far (p := ⟨gb171, _, none⟩) (fn_ hw169_4 GW171.out) _).trans (((cell_far (p := ⟨gb171, _, none⟩) (fn_ hw169_4 GW171.out) _).trans (((cell_far (p := ⟨gb171, _, none⟩) (fn_ hw169_4 GW171.out) _).trans (((cell_far (p := ⟨gb171, _, none⟩) (fn_ hw169_4 GW171.out) _).trans (hHeld.2.2.2.2.2.2.2.2.2))))))))))⟩ (fun hHeld => ?_)
            clear hK K
            refine done_ (done_of HT_.out (by kernel_rfl)) ?_
            have hnb31 := NB170_171.out
            have hnc31 := NB171_170.out
            have hcz32_0 : w20.cell? ⟨gb170, 0, none⟩ = some (.int .i64 0) := (blk_cell BK170.out 0).trans rfl
            have hcz32_1 : w20.cell? ⟨gb170, 1, none⟩ = some (.int .i64 0) := (blk_cell BK170.out 1).trans rfl
            have hcz32_2 : w20.cell? ⟨gb170, 2, none⟩ = some (.int .i64 0) := (blk_cell BK170.out 2).trans rfl
            have hcz32_3 : w20.cell? ⟨gb170, 3, none⟩ = some (.int .i64 0) := (blk_cell BK170.out 3).trans rfl
            have hcz32_4 : w20.cell? ⟨gb170, 4, none⟩ = some (.int .i64 0) := (blk_cell BK170.out 4).trans rfl
            have hfz32_0 := blk_frozen BK170.out 0
            have hfz32_1 := blk_frozen BK170.out 1
            have hfz32_2 := blk_frozen BK170.out 2
            have hfz32_3 := blk_frozen BK170.out 3
            have hfz32_4 := blk_frozen BK170.out 4
            have hcz33_0 : w20.cell? ⟨gb171, 0, none⟩ = some (.int .i64 0) := (blk_cell BK171.out 0).trans rfl
            have hcz33_1 : w20.cell? ⟨gb171, 1, none⟩ = some (.int .i64 0) := (blk_cell BK171.out 1).trans rfl
            have hcz33_2 : w20.cell? ⟨gb171, 2, none⟩ = some (.int .i64 0) := (blk_cell BK171.out 2).trans rfl
            have hcz33_3 : w20.cell? ⟨gb171, 3, none⟩ = some (.int .i64 0) := (blk_cell BK171.out 3).trans rfl
            have hcz33_4 : w20.cell? ⟨gb171, 4, none⟩ = some (.int .i64 0) := (blk_cell BK171.out 4).trans rfl
            have hfz33_0 := blk_frozen BK171.out 0
            have hfz33_1 := blk_frozen BK171.out 1
            have hfz33_2 := blk_frozen BK171.out 2
            have hfz33_3 := blk_frozen BK171.out 3
            have hfz33_4 := blk_frozen BK171.out 4
            try go_wp2_with (first | ((with_reducible refine gate_dst (N := 76) rfl ?_); refine Kd.R_lit (Kd.int .i64) _ 2 ?hg (N := 76) ?hd (xs := ([x5_1, x6_2] : List Int)) (inner := [.int .i64 x5_1, .int .i64 x6_2]) (ok := fun _ => True) (okp := fun _ => True) ?hr ?hp (fun _ hk => hk) trivial (Below.refl _ _) (Nat.le_refl _) (by simp) ?_; (case hd => rfl); (case hg => rfl); (case hr => first | (go_simp; done) | (go_simp; rfl)); (case hp => exact (Reps.one (show Kd.M (Kd.int .i64) _ _ _ x5_1 [.int .i64 x5_1] from rfl) (Reps.one (show Kd.M (Kd.int .i64) _ _ _ x6_2 [.int .i64 x6_2] from rfl) (Reps.none _ _)))); intro v173 w34 ho35 hb hg_ hnew_; clear hg_ hnew_; (first | rw [← Ny172.out] at ho35 | (simp only [Int.reduceToNat] at ho35; rw [← Ny172.out] at ho35)); have n0_ := Aside0.mk (Kd.S_elder' (by (with_reducible repeat (first | apply Kd.S_alloc | apply Kd.S_drewN | apply Kd.S_drew)); exact (Kd.S_mono (Kd.S_mono (Kd.S_far (p := ⟨gb171, 4, none⟩) (Kd.S_far (p := ⟨gb171, 3, none⟩) (Kd.S_far (p := ⟨gb171, 2, none⟩) (Kd.S_far (p := ⟨gb171, 1, none⟩) (Kd.S_far (p := ⟨gb171, 0, none⟩) (Kd.S_far (p := ⟨gb170, 4, none⟩) (Kd.S_far (p := ⟨gb170, 3, none⟩) (Kd.S_far (p := ⟨gb170, 2, none⟩) (Kd.S_far (p := ⟨gb170, 1, none⟩) (Kd.S_far (p := ⟨gb170, 0, none⟩) (Kd.S_types (Kd.S_types HO_4.out BK170.out (by decide)) BK171.out (by decide)) (fun _ hk => hk.1.2) (.int .i64 ((rd_T83 l0 x5_1).f0))) (fun _ hk => hk.1.2) (.int .i64 ((rd_T83 l0 x5_1).f1))) (fun _ hk => hk.1.2) (.int .i64 ((rd_T83 l0 x5_1).f2))) (fun _ hk => hk.1.2) (.int .i64 ((rd_T83 l0 x5_1).f3))) (fun _ hk => hk.1.2) (.int .i64 ((rd_T83 l0 x5_1).f4))) (fun _ hk => hk.2) (.int .i64 ((rd_T83 l0 x6_2).f0))) (fun _ hk => hk.2) (.int .i64 ((rd_T83 l0 x6_2).f1))) (fun _ hk => hk.2) (.int .i64 ((rd_T83 l0 x6_2).f2))) (fun _ hk => hk.2) (.int .i64 ((rd_T83 l0 x6_2).f3))) (fun _ hk => hk.2) (.int .i64 ((rd_T83 l0 x6_2).f4))) (fun _ h_ => h_.1)) (fun _ h_ => h_.1))) (Kd.R_base ho35) hb); have n1_ := Aside0.mk (Kd.R_lower ho35 (below_size (by repeat (first | (with_reducible first | exact HB.out | apply below_alloc | apply pw_below_drewN | apply below_drew1 | refine below_set ?_ GE170.out | refine below_set ?_ GE171.out) | exact HB.out)))); have n2_ := Aside0.mk (blk_below (g := gb170) (o := .cells #[.int .i64 ((rd_T83 l0 x5_1).f0), .int .i64 ((rd_T83 l0 x5_1).f1), .int .i64 ((rd_T83 l0 x5_1).f2), .int .i64 ((rd_T83 l0 x5_1).f3), .int .i64 ((rd_T83 l0 x5_1).f4)] 83 (0, 0)) (by (with_reducible repeat (first | refine blk_drewN ?_ _ | refine blk_drew ?_ | refine blk_alloc ?_ _)); refine blk_far ?_ NB170_171.out _; (with_reducible repeat (first | refine blk_drewN ?_ _ | refine blk_drew ?_ | refine blk_alloc ?_ _)); refine blk_far ?_ NB170_171.out _; (with_reducible repeat (first | refine blk_drewN ?_ _ | refine blk_drew ?_ | refine blk_alloc ?_ _)); refine blk_far ?_ NB170_171.out _; (with_reducible repeat (first | refine blk_drewN ?_ _ | refine blk_drew ?_ | refine blk_alloc ?_ _)); refine blk_far ?_ NB170_171.out _; (with_reducible repeat (first | refine blk_drewN ?_ _ | refine blk_drew ?_ | refine blk_alloc ?_ _)); refine blk_far ?_ NB170_171.out _; (with_reducible repeat (first | refine blk_drewN ?_ _ | refine blk_drew ?_ | refine blk_alloc ?_ _)); refine blk_put (cs := #[.int .i64 ((rd_T83 l0 x5_1).f0), .int .i64 ((rd_T83 l0 x5_1).f1), .int .i64 ((rd_T83 l0 x5_1).f2), .int .i64 ((rd_T83 l0 x5_1).f3), .int .i64 0]) ?_ 4 _ rfl; (with_reducible repeat (first | refine blk_drewN ?_ _ | refine blk_drew ?_ | refine blk_alloc ?_ _)); refine blk_put (cs := #[.int .i64 ((rd_T83 l0 x5_1).f0), .int .i64 ((rd_T83 l0 x5_1).f1), .int .i64 ((rd_T83 l0 x5_1).f2), .int .i64 0, .int .i64 0]) ?_ 3 _ rfl; (with_reducible repeat (first | refine blk_drewN ?_ _ | refine blk_drew ?_ | refine blk_alloc ?_ _)); refine blk_put (cs := #[.int .i64 ((rd_T83 l0 x5_1).f0), .int .i64 ((rd_T83 l0 x5_1).f1), .int .i64 0, .int .i64 0, .int .i64 0]) ?_ 2 _ rfl; (with_reducible repeat (first | refine blk_drewN ?_ _ | refine blk_drew ?_ | refine blk_alloc ?_ _)); refine blk_put (cs := #[.int .i64 ((rd_T83 l0 x5_1).f0), .int .i64 0, .int .i64 0, .int .i64 0, .int .i64 0]) ?_ 1 _ rfl; (with_reducible repeat (first | refine blk_drewN ?_ _ | refine blk_drew ?_ | refine blk_alloc ?_ _)); refine blk_put (cs := #[.int .i64 0, .int .i64 0, .int .i64 0, .int .i64 0, .int .i64 0]) ?_ 0 _ rfl; (with_reducible repeat (first | refine blk_drewN ?_ _ | refine blk_drew ?_ | refine blk_alloc ?_ _)); exact BK170.out) hb); have n3_ := Aside0.mk (blk_below (g := gb171) (o := .cells #[.int .i64 ((rd_T83 l0 x6_2).f0), .int .i64 ((rd_T83 l0 x6_2).f1), .int .i64 ((rd_T83 l0 x6_2).f2), .int .i64 ((rd_T83 l0 x6_2).f3), .int .i64 ((rd_T83 l0 x6_2).f4)] 83 (0, 0)) (by (with_reducible repeat (first | refine blk_drewN ?_ _ | refine blk_drew ?_ | refine blk_alloc ?_ _)); refine blk_put (cs := #[.int .i64 ((rd_T83 l0 x6_2).f0), .int .i64 ((rd_T83 l0 x6_2).f1), .int .i64 ((rd_T83 l0 x6_2).f2), .int .i64 ((rd_T83 l0 x6_2).f3), .int .i64 0]) ?_ 4 _ rfl; (with_reducible repeat (first | refine blk_drewN ?_ _ | refine blk_drew ?_ | refine blk_alloc ?_ _)); refine blk_put (cs := #[.int .i64 ((rd_T83 l0 x6_2).f0), .int .i64 ((rd_T83 l0 x6_2).f1), .int .i64 ((rd_T83 l0 x6_2).f2), .int .i64 0, .int .i64 0]) ?_ 3 _ rfl; (with_reducible repeat (first | refine blk_drewN ?_ _ | refine blk_drew ?_ | refine blk_alloc ?_ _)); refine blk_put (cs := #[.int .i64 ((rd_T83 l0 x6_2).f0), .int .i64 ((rd_T83 l0 x6_2).f1), .int .i64 0, .int .i64 0, .int .i64 0]) ?_ 2 _ rfl; (with_reducible repeat (first | refine blk_drewN ?_ _ | refine blk_drew ?_ | refine blk_alloc ?_ _)); refine blk_put (cs := #[.int .i64 ((rd_T83 l0 x6_2).f0), .int .i64 0, .int .i64 0, .int .i64 0, .int .i64 0]) ?_ 1 _ rfl; (with_reducible repeat (first | refine blk_drewN ?_ _ | refine blk_drew ?_ | refine blk_alloc ?_ _)); refine blk_put (cs := #[.int .i64 0, .int .i64 0, .int .i64 0, .int .i64 0, .int .i64 0]) ?_ 0 _ rfl; (with_reducible repeat (first | refine blk_drewN ?_ _ | refine blk_drew ?_ | refine blk_alloc ?_ _)); refine blk_far ?_ NB171_170.out _; (with_reducible repeat (first | refine blk_drewN ?_ _ | refine blk_drew ?_ | refine blk_alloc ?_ _)); refine blk_far ?_ NB171_170.out _; (with_reducible repeat (first | refine blk_drewN ?_ _ | refine blk_drew ?_ | refine blk_alloc ?_ _)); refine blk_far ?_ NB171_170.out _; (with_reducible repeat (first | refine blk_drewN ?_ _ | refine blk_drew ?_ | refine blk_alloc ?_ _)); refine blk_far ?_ NB171_170.out _; (with_reducible repeat (first | refine blk_drewN ?_ _ | refine blk_drew ?_ | refine blk_alloc ?_ _)); refine blk_far ?_ NB171_170.out _; (with_reducible repeat (first | refine blk_drewN ?_ _ | refine blk_drew ?_ | refine blk_alloc ?_ _)); exact BK171.out) hb); have n4_ := Aside0.mk (below_step (by repeat (first | (with_reducible first | exact HB.out | apply below_alloc | apply pw_below_drewN | apply below_drew1 | refine below_set ?_ GE170.out | refine below_set ?_ GE171.out) | exact HB.out)) hb); clear HO_4; clear BK170; clear BK171; clear HB; have HO_4 := n0_; have HO174 := n1_; have BK170 := n2_; have BK171 := n3_; have HB := n4_; clear n0_ n1_ n2_ n3_ n4_; clear hb ho35; obtain ⟨Ao37, co37, eo37⟩ := Kd.R_slice HO174.out; subst eo37) | ((with_reducible refine gate_builtin (b := .append) (xs := #[.tmp 73, .tmp 77]) rfl ?_); at_builtin; refine Kd.S_append (Kd.slice 2 (Kd.int .i64)) (w0 := w) w.heap.size rfl (.tmp 73) (.tmp 77) 90 24 (.slice none 0 0) 24 rfl Try.underlying90 info24 rfl (by decide) (by omega) u4 x4_2 y172 [.slice Ao37 y172.length co37] (fun _ => True) (fun k_ => some k_ = (.slice Ao37 y172.length co37 : Value).ownBlock) rfl rfl ?aP (fun k_ hk_ => ((Kd.R_mono (ok' := fun k_ => ((fun _ => True)) k_ ∧ some k_ ≠ (u4 : Value).ownBlock) (Kd.R_apart' (HO174.out) (Kd.S_typed HO_4.out) (by decide)) (fun k_ hk => ⟨trivial, hk.2⟩))).1 k_ hk_.symm) ?aF ?aO ?aB ?aS ?aL ?_; (case aP => exact Kd.M_row (Kd.R_mono (Kd.R_tight rfl (Kd.R_mono (ok' := fun k_ => ((fun _ => True)) k_ ∧ some k_ ≠ (u4 : Value).ownBlock) (Kd.R_apart' (HO174.out) (Kd.S_typed HO_4.out) (by decide)) (fun k_ hk => ⟨trivial, hk.2⟩))) (fun _ h_ => h_))); (case aB => exact (by repeat (first | (with_reducible first | exact HB.out | apply below_alloc | apply pw_below_drewN | apply below_drew1 | refine below_set ?_ GE170.out | refine below_set ?_ GE171.out) | exact HB.out))); (case aF => exact (fun _ _ => trivial)); (case aO => exact (by (with_reducible repeat (first | apply Kd.S_alloc | apply Kd.S_drewN | apply Kd.S_drew)); exact Kd.S_mono HO_4.out (fun k_ hk => ⟨trivial, fun e_ => hk.2 e_⟩))); (case aS => exact (below_size (by repeat (first | (with_reducible first | exact HB.out | apply below_alloc | apply pw_below_drewN | apply below_drew1 | refine below_set ?_ GE170.out | refine below_set ?_ GE171.out) | exact HB.out)))); (case aL => have := LMc16.out; omega); intro v176 w36 ho hb hg hat; rw [← Ny175.out] at ho; have n0_ := Aside0.mk (blk_grown (g := gb170) (o := .cells #[.int .i64 ((rd_T83 l0 x5_1).f0), .int .i64 ((rd_T83 l0 x5_1).f1), .int .i64 ((rd_T83 l0 x5_1).f2), .int .i64 ((rd_T83 l0 x5_1).f3), .int .i64 ((rd_T83 l0 x5_1).f4)] 83 (0, 0)) (by (with_reducible repeat (first | refine blk_drewN ?_ _ | refine blk_drew ?_ | refine blk_alloc ?_ _)); exact BK170.out) hg (Kd.S_ne HO_4.out BK170.out (by decide))); have n1_ := Aside0.mk (blk_grown (g := gb171) (o := .cells #[.int .i64 ((rd_T83 l0 x6_2).f0), .int .i64 ((rd_T83 l0 x6_2).f1), .int .i64 ((rd_T83 l0 x6_2).f2), .int .i64 ((rd_T83 l0 x6_2).f3), .int .i64 ((rd_T83 l0 x6_2).f4)] 83 (0, 0)) (by (with_reducible repeat (first | refine blk_drewN ?_ _ | refine blk_drew ?_ | refine blk_alloc ?_ _)); exact BK171.out) hg (Kd.S_ne HO_4.out BK171.out (by decide))); have n2_ := Aside0.mk (hb); have n3_ := Aside0.mk (ho); clear BK170; clear BK171; clear HB; clear HO_4; clear HO174; have BK170 := n0_; have BK171 := n1_; have HB := n2_; have HO177 := n3_; clear n0_ n1_ n2_ n3_; clear ho hb hg hat))
            go_roundg k2
            case measure => have := HK1.out; have := HK2.out; omega
            case rel => exact ⟨(y175), (wrap64 (x6_2 + 1)), (by first | rfl | (simp; done) | (simp [*]; done)), H', ⟨by have := HK1.out; have := HK2.out; omega⟩, ⟨by (with_reducible repeat (first | apply Kd.S_alloc | apply Kd.S_drewN | apply Kd.S_drew)); exact HO177.out⟩, ⟨by repeat (first | (with_reducible first | exact HB.out | apply below_alloc | apply pw_below_drewN | apply below_drew1 | refine below_set ?_ GE170.out | refine below_set ?_ GE171.out) | exact HB.out)⟩⟩
           ·rw [if_neg c15] at H
            have c15b0 : decide (((rd_T83 l0 x6_2).f2) ≤ (wrap64 (((rd_T83 l0 x5_1).f2) + ((rd_T83 l0 x5_1).f4)))) = false := decide_eq_false c15
            clear c15
            have H' := Aside0.mk H
            clear H
            try go_wp2
            have n0_ := Aside0.mk (Kd.S_drew HO_4.out)
            have n1_ := Aside0.mk (below_drew1 HB.out)
            clear HO_4
            clear HB
            have HO_4 := n0_
            have HB := n1_
            clear n0_ n1_
            have p168 : 0 ≤ (x5_1 : Int) := od_
            have q168 : x5_1 < (l0.length : Int) := od_
            obtain ⟨ad168, e168, hx168_0, hx168_1, hx168_2, hx168_3, hx168_4⟩ := at_T83 HR0.out x5_1 p168 q168
            have hw168_4 := hx168_4
            have hw168_3 := hx168_3
            have hw168_2 := hx168_2
            have hw168_1 := hx168_1
            have hw168_0 := hx168_0
            cases e168
            replace hx168_0 := (HB.out.cell (World.block_lt_of_cell? w _ hx168_0)).trans hx168_0
            replace hx168_1 := (HB.out.cell (World.block_lt_of_cell? w _ hx168_1)).trans hx168_1
            replace hx168_2 := (HB.out.cell (World.block_lt_of_cell? w _ hx168_2)).trans hx168_2
            replace hx168_3 := (HB.out.cell (World.block_lt_of_cell? w _ hx168_3)).trans hx168_3
            replace hx168_4 := (HB.out.cell (World.block_lt_of_cell? w _ hx168_4)).trans hx168_4
            replace p168 := eq_true p168
            replace q168 := eq_true q168
            have p169 : 0 ≤ (x6_2 : Int) := od_
            have q169 : x6_2 < (l0.length : Int) := od_
            obtain ⟨ad169, e169, hx169_0, hx169_1, hx169_2, hx169_3, hx169_4⟩ := at_T83 HR0.out x6_2 p169 q169
            have hw169_4 := hx169_4
            have hw169_3 := hx169_3
            have hw169_2 := hx169_2
            have hw169_1 := hx169_1
            have hw169_0 := hx169_0
            obtain rfl : ad168 = ad169 := (by injection e169)
            replace hx169_0 := (HB.out.cell (World.block_lt_of_cell? w _ hx169_0)).trans hx169_0
            replace hx169_1 := (HB.out.cell (World.block_lt_of_cell? w _ hx169_1)).trans hx169_1
            replace hx169_2 := (HB.out.cell (World.block_lt_of_cell? w _ hx169_2)).trans hx169_2
            replace hx169_3 := (HB.out.cell (World.block_lt_of_cell? w _ hx169_3)).trans hx169_3
            replace hx169_4 := (HB.out.cell (World.block_lt_of_cell? w _ hx169_4)).trans hx169_4
            replace p169 := eq_true p169
            replace q169 := eq_true q169
            refine start_ (n := 12) (S := fun w' => w'.cell? (ad168.add ((x5_1).toNat * 5)) = some (.int .i64 ((rd_T83 l0 x5_1).f0)) ∧ w'.cell? ⟨(ad168.add ((x5_1).toNat * 5)).block, (ad168.add ((x5_1).toNat * 5)).off + 1, none⟩ = some (.int .i64 ((rd_T83 l0 x5_1).f1)) ∧ w'.cell? ⟨(ad168.add ((x5_1).toNat * 5)).block, (ad168.add ((x5_1).toNat * 5)).off + 2, none⟩ = some (.int .i64 ((rd_T83 l0 x5_1).f2)) ∧ w'.cell? ⟨(ad168.add ((x5_1).toNat * 5)).block, (ad168.add ((x5_1).toNat * 5)).off + 3, none⟩ = some (.int .i64 ((rd_T83 l0 x5_1).f3)) ∧ w'.cell? ⟨(ad168.add ((x5_1).toNat * 5)).block, (ad168.add ((x5_1).toNat * 5)).off + 4, none⟩ = some (.int .i64 ((rd_T83 l0 x5_1).f4)) ∧ w'.cell? (ad168.add ((x6_2).toNat * 5)) = some (.int .i64 ((rd_T83 l0 x6_2).f0)) ∧ w'.cell? ⟨(ad168.add ((x6_2).toNat * 5)).block, (ad168.add ((x6_2).toNat * 5)).off + 1, none⟩ = some (.int .i64 ((rd_T83 l0 x6_2).f1)) ∧ w'.cell? ⟨(ad168.add ((x6_2).toNat * 5)).block, (ad168.add ((x6_2).toNat * 5)).off + 2, none⟩ = some (.int .i64 ((rd_T83 l0 x6_2).f2)) ∧ w'.cell? ⟨(ad168.add ((x6_2).toNat * 5)).block, (ad168.add ((x6_2).toNat * 5)).off + 3, none⟩ = some (.int .i64 ((rd_T83 l0 x6_2).f3)) ∧ w'.cell? ⟨(ad168.add ((x6_2).toNat * 5)).block, (ad168.add ((x6_2).toNat * 5)).off + 4, none⟩ = some (.int .i64 ((rd_T83 l0 x6_2).f4))) (ds := []) #[false, false, false, false, false, false, false, false, false, false, false, false] (by kernel_rfl) rfl rfl ⟨((HB.out.cell (World.block_lt_of_cell? w _ hw168_0)).trans hw168_0), ((HB.out.cell (World.block_lt_of_cell? w _ hw168_1)).trans hw168_1), ((HB.out.cell (World.block_lt_of_cell? w _ hw168_2)).trans hw168_2), ((HB.out.cell (World.block_lt_of_cell? w _ hw168_3)).trans hw168_3), ((HB.out.cell (World.block_lt_of_cell? w _ hw168_4)).trans hw168_4), ((HB.out.cell (World.block_lt_of_cell? w _ hw169_0)).trans hw169_0), ((HB.out.cell (World.block_lt_of_cell? w _ hw169_1)).trans hw169_1), ((HB.out.cell (World.block_lt_of_cell? w _ hw169_2)).trans hw169_2), ((HB.out.cell (World.block_lt_of_cell? w _ hw169_3)).trans hw169_3), ((HB.out.cell (World.block_lt_of_cell? w _ hw169_4)).trans hw169_4)⟩ (fun hHeld => ?_); refine with_tabW spec_OverlappingAreas.tab10 spec_OverlappingAreas.bits10 (fun HT_ HW_ => ?_)
            generalize wr.drew = w38 at HO_4 HB hx168_0 hx168_1 hx168_2 hx168_3 hx168_4 hx169_0 hx169_1 hx169_2 hx169_3 hx169_4 hHeld ⊢
            refine pure_ (i := 0) (N := some 27) (v := ?_) (a' := ?_) #[true, false, false, false, false, false, false, false, false, false, false, false] rfl rfl (any_of HT_.out (by kernel_rfl)) (fun _ _ _ h => h) (Or.inl ⟨by rfl, ?_⟩) ?_ ?_
            rotate_left
            ·intro w'
             go_simp
             with_reducible rfl
            rotate_left
            ·simp only [pz_]
             rfl
            refine pure_ (i := 1) (N := some 28) (v := ?_) (a' := ?_) #[true, true, false, false, false, false, false, false, false, false, false, false] rfl rfl (any_of HT_.out (by kernel_rfl)) (fun _ _ _ h => h) (Or.inl ⟨by rfl, ?_⟩) ?_ ?_
            rotate_left
            ·intro w'
             go_simp
             with_reducible rfl
            rotate_left
            ·simp only [pz_]
             rfl
            refine pure_ (i := 2) (N := some 29) (v := ?_) (a' := ?_) #[true, true, true, false, false, false, false, false, false, false, false, false] rfl rfl (any_of HT_.out (by kernel_rfl)) (fun _ _ _ h => h) (Or.inl ⟨by rfl, ?_⟩) ?_ ?_
            rotate_left
            ·intro w'
             go_simp
             with_reducible rfl
            rotate_left
            ·simp only [pz_]
             rfl
            refine pure_ (i := 4) (N := some 31) (v := ?_) (a' := ?_) #[true, true, true, false, true, false, false, false, false, false, false, false] rfl rfl (any_of HT_.out (by kernel_rfl)) (fun _ _ _ h => h) (Or.inl ⟨by rfl, ?_⟩) ?_ ?_
            rotate_left
            ·intro w'
             go_simp
             with_reducible rfl
            rotate_left
            ·simp only [pz_]
             rfl
            refine pure_ (i := 5) (N := some 32) (v := ?_) (a' := ?_) #[true, true, true, false, true, true, false, false, false, false, false, false] rfl rfl (any_of HT_.out (by kernel_rfl)) (fun _ _ _ h => h) (Or.inl ⟨by rfl, ?_⟩) ?_ ?_
            rotate_left
            ·intro w'
             go_simp
             with_reducible rfl
            rotate_left
            ·simp only [pz_]
             rfl
            refine pure_ (i := 6) (N := some 33) (v := ?_) (a' := ?_) #[true, true, true, false, true, true, true, false, false, false, false, false] rfl rfl (any_of HT_.out (by kernel_rfl)) (fun _ _ _ h => h) (Or.inl ⟨by rfl, ?_⟩) ?_ ?_
            rotate_left
            ·intro w'
             go_simp
             with_reducible rfl
            rotate_left
            ·simp only [pz_]
             rfl
            refine take_ (i := 3) (N := some 30) (v := ?_) (a' := ?_) #[true, true, true, true, true, true, true, false, false, false, false, false] rfl rfl (take_ofW HT_.out HW_.out (by kernel_rfl)) (fun _ _ _ h => h) (Or.inl ⟨by rfl, ?_⟩) hHeld ?_ ?_
            rotate_left
            ·rintro w' ⟨s0, s1, s2, s3, s4, s5, s6, s7, s8, s9⟩
             go_simp
             with_reducible rfl
            rotate_left
            ·simp only [pz_]
             rfl
            refine take_ (i := 7) (N := some 34) (v := ?_) (a' := ?_) #[true, true, true, true, true, true, true, true, false, false, false, false] rfl rfl (take_ofW HT_.out HW_.out (by kernel_rfl)) (fun _ _ _ h => h) (Or.inl ⟨by rfl, ?_⟩) hHeld ?_ ?_
            rotate_left
            ·rintro w' ⟨s0, s1, s2, s3, s4, s5, s6, s7, s8, s9⟩
             go_simp
             with_reducible rfl
            rotate_left
            ·simp only [pz_]
             rfl
            refine join_ (σ := Nat × Nat) 2 #[true, true, true, true, true, true, true, true, true, true, false, false] (fun s_ => [(7, .pointer (some ⟨s_.1, 0, none⟩)), (8, .pointer (some ⟨s_.2, 0, none⟩))]) (fun s_ w' => (w'.cell? (ad168.add ((x5_1).toNat * 5)) = some (.int .i64 ((rd_T83 l0 x5_1).f0)) ∧ w'.cell? ⟨(ad168.add ((x5_1).toNat * 5)).block, (ad168.add ((x5_1).toNat * 5)).off + 1, none⟩ = some (.int .i64 ((rd_T83 l0 x5_1).f1)) ∧ w'.cell? ⟨(ad168.add ((x5_1).toNat * 5)).block, (ad168.add ((x5_1).toNat * 5)).off + 2, none⟩ = some (.int .i64 ((rd_T83 l0 x5_1).f2)) ∧ w'.cell? ⟨(ad168.add ((x5_1).toNat * 5)).block, (ad168.add ((x5_1).toNat * 5)).off + 3, none⟩ = some (.int .i64 ((rd_T83 l0 x5_1).f3)) ∧ w'.cell? ⟨(ad168.add ((x5_1).toNat * 5)).block, (ad168.add ((x5_1).toNat * 5)).off + 4, none⟩ = some (.int .i64 ((rd_T83 l0 x5_1).f4)) ∧ w'.cell? (ad168.add ((x6_2).toNat * 5)) = some (.int .i64 ((rd_T83 l0 x6_2).f0)) ∧ w'.cell? ⟨(ad168.add ((x6_2).toNat * 5)).block, (ad168.add ((x6_2).toNat * 5)).off + 1, none⟩ = some (.int .i64 ((rd_T83 l0 x6_2).f1)) ∧ w'.cell? ⟨(ad168.add ((x6_2).toNat * 5)).block, (ad168.add ((x6_2).toNat * 5)).off + 2, none⟩ = some (.int .i64 ((rd_T83 l0 x6_2).f2)) ∧ w'.cell? ⟨(ad168.add ((x6_2).toNat * 5)).block, (ad168.add ((x6_2).toNat * 5)).off + 3, none⟩ = some (.int .i64 ((rd_T83 l0 x6_2).f3)) ∧ w'.cell? ⟨(ad168.add ((x6_2).toNat * 5)).block, (ad168.add ((x6_2).toNat * 5)).off + 4, none⟩ = some (.int .i64 ((rd_T83 l0 x6_2).f4))) ∧ (Kd.S (Kd.slice 2 (Kd.int .i64)) 24 w' w.heap.size (fun _ => True) u4 x4_2) ∧ (w'.heap[s_.1]? = some (.cells #[.int .i64 0, .int .i64 0, .int .i64 0, .int .i64 0, .int .i64 0] 83 (0, 0))) ∧ (w'.heap[s_.2]? = some (.cells #[.int .i64 0, .int .i64 0, .int .i64 0, .int .i64 0, .int .i64 0] 83 (0, 0))) ∧ (w.heap.size ≤ s_.1) ∧ (w.heap.size ≤ s_.1) ∧ (s_.2 ≠ s_.1) ∧ (s_.1 ≠ s_.2) ∧ (w.heap.size ≤ s_.2) ∧ (w.heap.size ≤ s_.2) ∧ (Below w.heap.size w w')) ?_ ?_
            rotate_left
            ·intro hCont
             refine two_ (i := 8) (j := 9) (Ni := some 7) (Nj := some 8) #[true, true, true, true, true, true, true, true, true, false, false, false] #[true, true, true, true, true, true, true, true, false, true, false, false] rfl rfl rfl rfl (two_of HT_.out (by kernel_rfl)) (by decide) (by decide) (fun K hK => ?_) (fun K hK => ?_)
             ·skip
              refine box_step ?hg (N := 7) ?hd (cs := #[.int .i64 0, .int .i64 0, .int .i64 0, .int .i64 0, .int .i64 0]) (t := 83) ?hr ?_; (case hd => rfl); (case hg => rfl); (case hr => first | (go_simp; done) | (go_simp; rfl))
              intro gb170 hg w39 hbox hb
              have n0_ := Aside0.mk (Kd.S_below (by (with_reducible repeat (first | apply Kd.S_alloc | apply Kd.S_drewN | apply Kd.S_drew)); exact HO_4.out) hb)
              have n1_ := Aside0.mk (below_step (bl_ HB.out) hb)
              have n2_ := Aside0.mk (hbox)
              have n3_ := Aside0.mk ((by rw [hg]; exact (below_size (bl_ HB.out)) : w.heap.size ≤ gb170))
              have n4_ := Aside0.mk ((by rw [hg]; exact (below_size (bl_ HB.out)) : w.heap.size ≤ gb170))
              clear HO_4
              clear HB
              have HO_4 := n0_
              have HB := n1_
              have BK170 := n2_
              have GW170 := n3_
              have GE170 := n4_
              clear n0_ n1_ n2_ n3_ n4_
              clear hb hbox hg
              refine hK.out _ _ ⟨((HB.out.cell (World.block_lt_of_cell? w _ hw168_0)).trans hw168_0), ((HB.out.cell (World.block_lt_of_cell? w _ hw168_1)).trans hw168_1), ((HB.out.cell (World.block_lt_of_cell? w _ hw168_2)).trans hw168_2), ((HB.out.cell (World.block_lt_of_cell? w _ hw168_3)).trans hw168_3), ((HB.out.cell (World.block_lt_of_cell? w _ hw168_4)).trans hw168_4), ((HB.out.cell (World.block_lt_of_cell? w _ hw169_0)).trans hw169_0), ((HB.out.cell (World.block_lt_of_cell? w _ hw169_1)).trans hw169_1), ((HB.out.cell (World.block_lt_of_cell? w _ hw169_2)).trans hw169_2), ((HB.out.cell (World.block_lt_of_cell? w _ hw169_3)).trans hw169_3), ((HB.out.cell (World.block_lt_of_cell? w _ hw169_4)).trans hw169_4)⟩ (fun hHeld => ?_)
              clear hK K
              refine norm_ (a' := ?_) ?_ ?_
              rotate_left
              ·show Act.put _ (some 7) _ = _
               simp only [pz_]
               rfl
              refine one_ (i := 9) (N := some 8) #[true, true, true, true, true, true, true, true, true, true, false, false] rfl rfl (one_of HT_.out (by kernel_rfl)) (by decide) (fun K hK => ?_)
              refine box_step ?hg (N := 8) ?hd (cs := #[.int .i64 0, .int .i64 0, .int .i64 0, .int .i64 0, .int .i64 0]) (t := 83) ?hr ?_; (case hd => rfl); (case hg => rfl); (case hr => first | (go_simp; done) | (go_simp; rfl))
              intro gb171 hg w40 hbox hb
              have n0_ := Aside0.mk (Kd.S_below (by (with_reducible repeat (first | apply Kd.S_alloc | apply Kd.S_drewN | apply Kd.S_drew)); exact HO_4.out) hb)
              have n1_ := Aside0.mk (blk_below (g := gb170) (o := .cells #[.int .i64 0, .int .i64 0, .int .i64 0, .int .i64 0, .int .i64 0] 83 (0, 0)) (by (with_reducible repeat (first | refine blk_drewN ?_ _ | refine blk_drew ?_ | refine blk_alloc ?_ _)); exact BK170.out) hb)
              have n2_ := Aside0.mk (below_step (by repeat (first | (with_reducible first | exact HB.out | apply below_alloc | apply pw_below_drewN | apply below_drew1 | refine below_set ?_ GE170.out) | exact HB.out)) hb)
              have n3_ := Aside0.mk (hbox)
              have n4_ := Aside0.mk ((by rw [hg]; exact (below_size (by repeat (first | (with_reducible first | exact HB.out | apply below_alloc | apply pw_below_drewN | apply below_drew1 | refine below_set ?_ GE170.out) | exact HB.out))) : w.heap.size ≤ gb171))
              have n5_ := Aside0.mk ((by rw [hg]; exact (below_size (by repeat (first | (with_reducible first | exact HB.out | apply below_alloc | apply pw_below_drewN | apply below_drew1 | refine below_set ?_ GE170.out) | exact HB.out))) : w.heap.size ≤ gb171))
              have n6_ := Aside0.mk ((by rw [hg]; exact Nat.ne_of_lt (blk_lt (g := gb170) (o := .cells #[.int .i64 0, .int .i64 0, .int .i64 0, .int .i64 0, .int .i64 0] 83 (0, 0)) (by (with_reducible repeat (first | refine blk_drewN ?_ _ | refine blk_drew ?_ | refine blk_alloc ?_ _)); exact BK170.out)) : gb170 ≠ gb171))
              have n7_ := Aside0.mk ((by rw [hg]; exact Nat.ne_of_gt (blk_lt (g := gb170) (o := .cells #[.int .i64 0, .int .i64 0, .int .i64 0, .int .i64 0, .int .i64 0] 83 (0, 0)) (by (with_reducible repeat (first | refine blk_drewN ?_ _ | refine blk_drew ?_ | refine blk_alloc ?_ _)); exact BK170.out)) : gb171 ≠ gb170))
              clear HO_4
              clear BK170
              clear HB
              have HO_4 := n0_
              have BK170 := n1_
              have HB := n2_
              have BK171 := n3_
              have GW171 := n4_
              have GE171 := n5_
              have NB170_171 := n6_
              have NB171_170 := n7_
              clear n0_ n1_ n2_ n3_ n4_ n5_ n6_ n7_
              clear hb hbox hg
              refine hK.out _ _ ⟨((HB.out.cell (World.block_lt_of_cell? w _ hw168_0)).trans hw168_0), ((HB.out.cell (World.block_lt_of_cell? w _ hw168_1)).trans hw168_1), ((HB.out.cell (World.block_lt_of_cell? w _ hw168_2)).trans hw168_2), ((HB.out.cell (World.block_lt_of_cell? w _ hw168_3)).trans hw168_3), ((HB.out.cell (World.block_lt_of_cell? w _ hw168_4)).trans hw168_4), ((HB.out.cell (World.block_lt_of_cell? w _ hw169_0)).trans hw169_0), ((HB.out.cell (World.block_lt_of_cell? w _ hw169_1)).trans hw169_1), ((HB.out.cell (World.block_lt_of_cell? w _ hw169_2)).trans hw169_2), ((HB.out.cell (World.block_lt_of_cell? w _ hw169_3)).trans hw169_3), ((HB.out.cell (World.block_lt_of_cell? w _ hw169_4)).trans hw169_4)⟩ (fun hHeld => ?_)
              clear hK K
              refine norm_ (a' := ?_) ?_ ?_
              rotate_left
              ·show Act.put _ (some 8) _ = _
               simp only [pz_]
               rfl
              exact norm_ (by simp only [putAll, Act.put, List.setIfInBounds_toArray, List.set_cons_zero, List.set_cons_succ]) (hCont (gb170, gb171) _ ⟨hHeld, (by (with_reducible repeat (first | apply Kd.S_alloc | apply Kd.S_drewN | apply Kd.S_drew)); exact HO_4.out), (by (with_reducible repeat (first | refine blk_drewN ?_ _ | refine blk_drew ?_ | refine blk_alloc ?_ _)); exact BK170.out), (by (with_reducible repeat (first | refine blk_drewN ?_ _ | refine blk_drew ?_ | refine blk_alloc ?_ _)); exact BK171.out), GW170.out, GE170.out, NB171_170.out, NB170_171.out, GW171.out, GE171.out, (by repeat (first | (with_reducible first | exact HB.out | apply below_alloc | apply pw_below_drewN | apply below_drew1 | refine below_set ?_ GE170.out | refine below_set ?_ GE171.out) | exact HB.out))⟩)
             ·skip
              refine box_step ?hg (N := 8) ?hd (cs := #[.int .i64 0, .int .i64 0, .int .i64 0, .int .i64 0, .int .i64 0]) (t := 83) ?hr ?_; (case hd => rfl); (case hg => rfl); (case hr => first | (go_simp; done) | (go_simp; rfl))
              intro gb171 hg w39 hbox hb
              have n0_ := Aside0.mk (Kd.S_below (by (with_reducible repeat (first | apply Kd.S_alloc | apply Kd.S_drewN | apply Kd.S_drew)); exact HO_4.out) hb)
              have n1_ := Aside0.mk (below_step (bl_ HB.out) hb)
              have n2_ := Aside0.mk (hbox)
              have n3_ := Aside0.mk ((by rw [hg]; exact (below_size (bl_ HB.out)) : w.heap.size ≤ gb171))
              have n4_ := Aside0.mk ((by rw [hg]; exact (below_size (bl_ HB.out)) : w.heap.size ≤ gb171))
              clear HO_4
              clear HB
              have HO_4 := n0_
              have HB := n1_
              have BK171 := n2_
              have GW171 := n3_
              have GE171 := n4_
              clear n0_ n1_ n2_ n3_ n4_
              clear hb hbox hg
              refine hK.out _ _ ⟨((HB.out.cell (World.block_lt_of_cell? w _ hw168_0)).trans hw168_0), ((HB.out.cell (World.block_lt_of_cell? w _ hw168_1)).trans hw168_1), ((HB.out.cell (World.block_lt_of_cell? w _ hw168_2)).trans hw168_2), ((HB.out.cell (World.block_lt_of_cell? w _ hw168_3)).trans hw168_3), ((HB.out.cell (World.block_lt_of_cell? w _ hw168_4)).trans hw168_4), ((HB.out.cell (World.block_lt_of_cell? w _ hw169_0)).trans hw169_0), ((HB.out.cell (World.block_lt_of_cell? w _ hw169_1)).trans hw169_1), ((HB.out.cell (World.block_lt_of_cell? w _ hw169_2)).trans hw169_2), ((HB.out.cell (World.block_lt_of_cell? w _ hw169_3)).trans hw169_3), ((HB.out.cell (World.block_lt_of_cell? w _ hw169_4)).trans hw169_4)⟩ (fun hHeld => ?_)
              clear hK K
              refine norm_ (a' := ?_) ?_ ?_
              rotate_left
              ·show Act.put _ (some 8) _ = _
               simp only [pz_]
               rfl
              refine one_ (i := 8) (N := some 7) #[true, true, true, true, true, true, true, true, true, true, false, false] rfl rfl (one_of HT_.out (by kernel_rfl)) (by decide) (fun K hK => ?_)
              refine box_step ?hg (N := 7) ?hd (cs := #[.int .i64 0, .int .i64 0, .int .i64 0, .int .i64 0, .int .i64 0]) (t := 83) ?hr ?_; (case hd => rfl); (case hg => rfl); (case hr => first | (go_simp; done) | (go_simp; rfl))
              intro gb170 hg w40 hbox hb
              have n0_ := Aside0.mk (Kd.S_below (by (with_reducible repeat (first | apply Kd.S_alloc | apply Kd.S_drewN | apply Kd.S_drew)); exact HO_4.out) hb)
              have n1_ := Aside0.mk (blk_below (g := gb171) (o := .cells #[.int .i64 0, .int .i64 0, .int .i64 0, .int .i64 0, .int .i64 0] 83 (0, 0)) (by (with_reducible repeat (first | refine blk_drewN ?_ _ | refine blk_drew ?_ | refine blk_alloc ?_ _)); exact BK171.out) hb)
              have n2_ := Aside0.mk (below_step (by repeat (first | (with_reducible first | exact HB.out | apply below_alloc | apply pw_below_drewN | apply below_drew1 | refine below_set ?_ GE171.out) | exact HB.out)) hb)
              have n3_ := Aside0.mk (hbox)
              have n4_ := Aside0.mk ((by rw [hg]; exact (below_size (by repeat (first | (with_reducible first | exact HB.out | apply below_alloc | apply pw_below_drewN | apply below_drew1 | refine below_set ?_ GE171.out) | exact HB.out))) : w.heap.size ≤ gb170))
              have n5_ := Aside0.mk ((by rw [hg]; exact (below_size (by repeat (first | (with_reducible first | exact HB.out | apply below_alloc | apply pw_below_drewN | apply below_drew1 | refine below_set ?_ GE171.out) | exact HB.out))) : w.heap.size ≤ gb170))
              have n6_ := Aside0.mk ((by rw [hg]; exact Nat.ne_of_lt (blk_lt (g := gb171) (o := .cells #[.int .i64 0, .int .i64 0, .int .i64 0, .int .i64 0, .int .i64 0] 83 (0, 0)) (by (with_reducible repeat (first | refine blk_drewN ?_ _ | refine blk_drew ?_ | refine blk_alloc ?_ _)); exact BK171.out)) : gb171 ≠ gb170))
              have n7_ := Aside0.mk ((by rw [hg]; exact Nat.ne_of_gt (blk_lt (g := gb171) (o := .cells #[.int .i64 0, .int .i64 0, .int .i64 0, .int .i64 0, .int .i64 0] 83 (0, 0)) (by (with_reducible repeat (first | refine blk_drewN ?_ _ | refine blk_drew ?_ | refine blk_alloc ?_ _)); exact BK171.out)) : gb170 ≠ gb171))
              clear HO_4
              clear BK171
              clear HB
              have HO_4 := n0_
              have BK171 := n1_
              have HB := n2_
              have BK170 := n3_
              have GW170 := n4_
              have GE170 := n5_
              have NB171_170 := n6_
              have NB170_171 := n7_
              clear n0_ n1_ n2_ n3_ n4_ n5_ n6_ n7_
              clear hb hbox hg
              refine hK.out _ _ ⟨((HB.out.cell (World.block_lt_of_cell? w _ hw168_0)).trans hw168_0), ((HB.out.cell (World.block_lt_of_cell? w _ hw168_1)).trans hw168_1), ((HB.out.cell (World.block_lt_of_cell? w _ hw168_2)).trans hw168_2), ((HB.out.cell (World.block_lt_of_cell? w _ hw168_3)).trans hw168_3), ((HB.out.cell (World.block_lt_of_cell? w _ hw168_4)).trans hw168_4), ((HB.out.cell (World.block_lt_of_cell? w _ hw169_0)).trans hw169_0), ((HB.out.cell (World.block_lt_of_cell? w _ hw169_1)).trans hw169_1), ((HB.out.cell (World.block_lt_of_cell? w _ hw169_2)).trans hw169_2), ((HB.out.cell (World.block_lt_of_cell? w _ hw169_3)).trans hw169_3), ((HB.out.cell (World.block_lt_of_cell? w _ hw169_4)).trans hw169_4)⟩ (fun hHeld => ?_)
              clear hK K
              refine norm_ (a' := ?_) ?_ ?_
              rotate_left
              ·show Act.put _ (some 7) _ = _
               simp only [pz_]
               rfl
              exact norm_ (by simp only [putAll, Act.put, List.setIfInBounds_toArray, List.set_cons_zero, List.set_cons_succ]) (hCont (gb170, gb171) _ ⟨hHeld, (by (with_reducible repeat (first | apply Kd.S_alloc | apply Kd.S_drewN | apply Kd.S_drew)); exact HO_4.out), (by (with_reducible repeat (first | refine blk_drewN ?_ _ | refine blk_drew ?_ | refine blk_alloc ?_ _)); exact BK170.out), (by (with_reducible repeat (first | refine blk_drewN ?_ _ | refine blk_drew ?_ | refine blk_alloc ?_ _)); exact BK171.out), GW170.out, GE170.out, NB171_170.out, NB170_171.out, GW171.out, GE171.out, (by repeat (first | (with_reducible first | exact HB.out | apply below_alloc | apply pw_below_drewN | apply below_drew1 | refine below_set ?_ GE171.out | refine below_set ?_ GE170.out) | exact HB.out))⟩)
            rintro ⟨gb170, gb171⟩ w41 ⟨hS_, h0_, h1_, h2_, h3_, h4_, h5_, h6_, h7_, h8_, h9_⟩
            have n0_ : Aside0 (Kd.S (Kd.slice 2 (Kd.int .i64)) 24 w41 w.heap.size (fun _ => True) u4 x4_2) := ⟨h0_⟩
            have n1_ : Aside0 (w41.heap[gb170]? = some (.cells #[.int .i64 0, .int .i64 0, .int .i64 0, .int .i64 0, .int .i64 0] 83 (0, 0))) := ⟨h1_⟩
            have n2_ : Aside0 (w41.heap[gb171]? = some (.cells #[.int .i64 0, .int .i64 0, .int .i64 0, .int .i64 0, .int .i64 0] 83 (0, 0))) := ⟨h2_⟩
            have n3_ : Aside0 (w.heap.size ≤ gb170) := ⟨h3_⟩
            have n4_ : Aside0 (w.heap.size ≤ gb170) := ⟨h4_⟩
            have n5_ : Aside0 (gb171 ≠ gb170) := ⟨h5_⟩
            have n6_ : Aside0 (gb170 ≠ gb171) := ⟨h6_⟩
            have n7_ : Aside0 (w.heap.size ≤ gb171) := ⟨h7_⟩
            have n8_ : Aside0 (w.heap.size ≤ gb171) := ⟨h8_⟩
            have n9_ : Aside0 (Below w.heap.size w w41) := ⟨h9_⟩
            clear HO_4
            clear HB
            clear h0_ h1_ h2_ h3_ h4_ h5_ h6_ h7_ h8_ h9_
            have HO_4 := n0_
            have BK170 := n1_
            have BK171 := n2_
            have GW170 := n3_
            have GE170 := n4_
            have NB171_170 := n5_
            have NB170_171 := n6_
            have GW171 := n7_
            have GE171 := n8_
            have HB := n9_
            clear n0_ n1_ n2_ n3_ n4_ n5_ n6_ n7_ n8_ n9_
            have hHeld : w41.cell? (ad168.add ((x5_1).toNat * 5)) = some (.int .i64 ((rd_T83 l0 x5_1).f0)) ∧ w41.cell? ⟨(ad168.add ((x5_1).toNat * 5)).block, (ad168.add ((x5_1).toNat * 5)).off + 1, none⟩ = some (.int .i64 ((rd_T83 l0 x5_1).f1)) ∧ w41.cell? ⟨(ad168.add ((x5_1).toNat * 5)).block, (ad168.add ((x5_1).toNat * 5)).off + 2, none⟩ = some (.int .i64 ((rd_T83 l0 x5_1).f2)) ∧ w41.cell? ⟨(ad168.add ((x5_1).toNat * 5)).block, (ad168.add ((x5_1).toNat * 5)).off + 3, none⟩ = some (.int .i64 ((rd_T83 l0 x5_1).f3)) ∧ w41.cell? ⟨(ad168.add ((x5_1).toNat * 5)).block, (ad168.add ((x5_1).toNat * 5)).off + 4, none⟩ = some (.int .i64 ((rd_T83 l0 x5_1).f4)) ∧ w41.cell? (ad168.add ((x6_2).toNat * 5)) = some (.int .i64 ((rd_T83 l0 x6_2).f0)) ∧ w41.cell? ⟨(ad168.add ((x6_2).toNat * 5)).block, (ad168.add ((x6_2).toNat * 5)).off + 1, none⟩ = some (.int .i64 ((rd_T83 l0 x6_2).f1)) ∧ w41.cell? ⟨(ad168.add ((x6_2).toNat * 5)).block, (ad168.add ((x6_2).toNat * 5)).off + 2, none⟩ = some (.int .i64 ((rd_T83 l0 x6_2).f2)) ∧ w41.cell? ⟨(ad168.add ((x6_2).toNat * 5)).block, (ad168.add ((x6_2).toNat * 5)).off + 3, none⟩ = some (.int .i64 ((rd_T83 l0 x6_2).f3)) ∧ w41.cell? ⟨(ad168.add ((x6_2).toNat * 5)).block, (ad168.add ((x6_2).toNat * 5)).off + 4, none⟩ = some (.int .i64 ((rd_T83 l0 x6_2).f4)) := hS_
            refine norm_ (a' := ?_) ?_ ?_
            rotate_left
            ·simp only [putAll, Act.put, List.setIfInBounds_toArray, List.set_cons_zero, List.set_cons_succ]
             rfl
            refine one_ (i := 10) (N := none) #[true, true, true, true, true, true, true, true, true, true, true, false] rfl rfl (one_of HT_.out (by kernel_rfl)) (by decide) (fun K hK => ?_)
            have hs42 : w41.cell? ⟨gb170, 0, none⟩ = some (.int .i64 0) := (blk_cell BK170.out 0).trans rfl
            have hfs42 := blk_frozen BK170.out 0
            have hns42_1 := NB171_170.out
            have hms42_1 := NB170_171.out
            have hs43 : w41.cell? ⟨gb170, 1, none⟩ = some (.int .i64 0) := (blk_cell BK170.out 1).trans rfl
            have hfs43 := blk_frozen BK170.out 1
            have hns43_1 := NB171_170.out
            have hms43_1 := NB170_171.out
            have hs44 : w41.cell? ⟨gb170, 2, none⟩ = some (.int .i64 0) := (blk_cell BK170.out 2).trans rfl
            have hfs44 := blk_frozen BK170.out 2
            have hns44_1 := NB171_170.out
            have hms44_1 := NB170_171.out
            have hs45 : w41.cell? ⟨gb170, 3, none⟩ = some (.int .i64 0) := (blk_cell BK170.out 3).trans rfl
            have hfs45 := blk_frozen BK170.out 3
            have hns45_1 := NB171_170.out
            have hms45_1 := NB170_171.out
            have hs46 : w41.cell? ⟨gb170, 4, none⟩ = some (.int .i64 0) := (blk_cell BK170.out 4).trans rfl
            have hfs46 := blk_frozen BK170.out 4
            have hns46_1 := NB171_170.out
            have hms46_1 := NB170_171.out
            refine skip_ (w1 := ?_) (by rfl) rfl ?_ ?_
            rotate_left
            ·go_simp
             rfl
            refine hK.out _ _ ⟨((cell_far (p := ⟨gb170, _, none⟩) (fn_ hw168_0 GW170.out) _).trans (((cell_far (p := ⟨gb170, _, none⟩) (fn_ hw168_0 GW170.out) _).trans (((cell_far (p := ⟨gb170, _, none⟩) (fn_ hw168_0 GW170.out) _).trans (((cell_far (p := ⟨gb170, _, none⟩) (fn_ hw168_0 GW170.out) _).trans (((cell_far (p := ⟨gb170, _, none⟩) (fn_ hw168_0 GW170.out) _).trans (hHeld.1)))))))))), ((cell_far (p := ⟨gb170, _, none⟩) (fn_ hw168_1 GW170.out) _).trans (((cell_far (p := ⟨gb170, _, none⟩) (fn_ hw168_1 GW170.out) _).trans (((cell_far (p := ⟨gb170, _, none⟩) (fn_ hw168_1 GW170.out) _).trans (((cell_far (p := ⟨gb170, _, none⟩) (fn_ hw168_1 GW170.out) _).trans (((cell_far (p := ⟨gb170, _, none⟩) (fn_ hw168_1 GW170.out) _).trans (hHeld.2.1)))))))))), ((cell_far (p := ⟨gb170, _, none⟩) (fn_ hw168_2 GW170.out) _).trans (((cell_far (p := ⟨gb170, _, none⟩) (fn_ hw168_2 GW170.out) _).trans (((cell_far (p := ⟨gb170, _, none⟩) (fn_ hw168_2 GW170.out) _).trans (((cell_far (p := ⟨gb170, _, none⟩) (fn_ hw168_2 GW170.out) _).trans (((cell_far (p := ⟨gb170, _, none⟩) (fn_ hw168_2 GW170.out) _).trans (hHeld.2.2.1)))))))))), ((cell_far (p := ⟨gb170, _, none⟩) (fn_ hw168_3 GW170.out) _).trans (((cell_far (p := ⟨gb170, _, none⟩) (fn_ hw168_3 GW170.out) _).trans (((cell_far (p := ⟨gb170, _, none⟩) (fn_ hw168_3 GW170.out) _).trans (((cell_far (p := ⟨gb170, _, none⟩) (fn_ hw168_3 GW170.out) _).trans (((cell_far (p := ⟨gb170, _, none⟩) (fn_ hw168_3 GW170.out) _).trans (hHeld.2.2.2.1)))))))))), ((cell_far (p := ⟨gb170, _, none⟩) (fn_ hw168_4 GW170.out) _).trans (((cell_far (p := ⟨gb170, _, none⟩) (fn_ hw168_4 GW170.out) _).trans (((cell_far (p := ⟨gb170, _, none⟩) (fn_ hw168_4 GW170.out) _).trans (((cell_far (p := ⟨gb170, _, none⟩) (fn_ hw168_4 GW170.out) _).trans (((cell_far (p := ⟨gb170, _, none⟩) (fn_ hw168_4 GW170.out) _).trans (hHeld.2.2.2.2.1)))))))))), ((cell_far (p := ⟨gb170, _, none⟩) (fn_ hw169_0 GW170.out) _).trans (((cell_far (p := ⟨gb170, _, none⟩) (fn_ hw169_0 GW170.out) _).trans (((cell_far (p := ⟨gb170, _, none⟩) (fn_ hw169_0 GW170.out) _).trans (((cell_far (p := ⟨gb170, _, none⟩) (fn_ hw169_0 GW170.out) _).trans (((cell_far (p := ⟨gb170, _, none⟩) (fn_ hw169_0 GW170.out) _).trans (hHeld.2.2.2.2.2.1)))))))))), ((cell_far (p := ⟨gb170, _, none⟩) (fn_ hw169_1 GW170.out) _).trans (((cell_far (p := ⟨gb170, _, none⟩) (fn_ hw169_1 GW170.out) _).trans (((cell_far (p := ⟨gb170, _, none⟩) (fn_ hw169_1 GW170.out) _).trans (((cell_far (p := ⟨gb170, _, none⟩) (fn_ hw169_1 GW170.out) _).trans (((cell_far (p := ⟨gb170, _, none⟩) (fn_ hw169_1 GW170.out) _).trans (hHeld.2.2.2.2.2.2.1)))))))))), ((cell_far (p := ⟨gb170, _, none⟩) (fn_ hw169_2 GW170.out) _).trans (((cell_far (p := ⟨gb170, _, none⟩) (fn_ hw169_2 GW170.out) _).trans (((cell_far (p := ⟨gb170, _, none⟩) (fn_ hw169_2 GW170.out) _).trans (((cell_far (p := ⟨gb170, _, none⟩) (fn_ hw169_2 GW170.out) _).trans (((cell_far (p := ⟨gb170, _, none⟩) (fn_ hw169_2 GW170.out) _).trans (hHeld.2.2.2.2.2.2.2.1)))))))))), ((cell_far (p := ⟨gb170, _, none⟩) (fn_ hw169_3 GW170.out) _).trans (((cell_far (p := ⟨gb170, _, none⟩) (fn_ hw169_3 GW170.out) _).trans (((cell_far (p := ⟨gb170, _, none⟩) (fn_ hw169_3 GW170.out) _).trans (((cell_far (p := ⟨gb170, _, none⟩) (fn_ hw169_3 GW170.out) _).trans (((cell_far (p := ⟨gb170, _, none⟩) (fn_ hw169_3 GW170.out) _).trans (hHeld.2.2.2.2.2.2.2.2.1)))))))))), ((cell_far (p := ⟨gb170, _, none⟩) (fn_ hw169_4 GW170.out) _).trans (((cell_far (p := ⟨gb170, _, none⟩) (fn_ hw169_4 GW170.out) _).trans (((cell_far (p := ⟨gb170, _, none⟩) (fn_ hw169_4 GW170.out) _).trans (((cell_far (p := ⟨gb170, _, none⟩) (fn_ hw169_4 GW170.out) _).trans (((cell_far (p := ⟨gb170, _, none⟩) (fn_ hw169_4 GW170.out) _).trans (hHeld.2.2.2.2.2.2.2.2.2))))))))))⟩ (fun hHeld => ?_)
            clear hK K
            refine one_ (i := 11) (N := none) #[true, true, true, true, true, true, true, true, true, true, true, true] rfl rfl (one_of HT_.out (by kernel_rfl)) (by decide) (fun K hK => ?_)
            have hs47 : w41.cell? ⟨gb171, 0, none⟩ = some (.int .i64 0) := (blk_cell BK171.out 0).trans rfl
            have hfs47 := blk_frozen BK171.out 0
            have hns47_0 := NB170_171.out
            have hms47_0 := NB171_170.out
            have hs48 : w41.cell? ⟨gb171, 1, none⟩ = some (.int .i64 0) := (blk_cell BK171.out 1).trans rfl
            have hfs48 := blk_frozen BK171.out 1
            have hns48_0 := NB170_171.out
            have hms48_0 := NB171_170.out
            have hs49 : w41.cell? ⟨gb171, 2, none⟩ = some (.int .i64 0) := (blk_cell BK171.out 2).trans rfl
            have hfs49 := blk_frozen BK171.out 2
            have hns49_0 := NB170_171.out
            have hms49_0 := NB171_170.out
            have hs50 : w41.cell? ⟨gb171, 3, none⟩ = some (.int .i64 0) := (blk_cell BK171.out 3).trans rfl
            have hfs50 := blk_frozen BK171.out 3
            have hns50_0 := NB170_171.out
            have hms50_0 := NB171_170.out
            have hs51 : w41.cell? ⟨gb171, 4, none⟩ = some (.int .i64 0) := (blk_cell BK171.out 4).trans rfl
            have hfs51 := blk_frozen BK171.out 4
            have hns51_0 := NB170_171.out
            have hms51_0 := NB171_170.out
            refine skip_ (w1 := ?_) (by rfl) rfl ?_ ?_
            rotate_left
            ·go_simp
             rfl
            refine hK.out _ _ ⟨((cell_far (p := ⟨gb171, _, none⟩) (fn_ hw168_0 GW171.out) _).trans (((cell_far (p := ⟨gb171, _, none⟩) (fn_ hw168_0 GW171.out) _).trans (((cell_far (p := ⟨gb171, _, none⟩) (fn_ hw168_0 GW171.out) _).trans (((cell_far (p := ⟨gb171, _, none⟩) (fn_ hw168_0 GW171.out) _).trans (((cell_far (p := ⟨gb171, _, none⟩) (fn_ hw168_0 GW171.out) _).trans (hHeld.1)))))))))), ((cell_far (p := ⟨gb171, _, none⟩) (fn_ hw168_1 GW171.out) _).trans (((cell_far (p := ⟨gb171, _, none⟩) (fn_ hw168_1 GW171.out) _).trans (((cell_far (p := ⟨gb171, _, none⟩) (fn_ hw168_1 GW171.out) _).trans (((cell_far (p := ⟨gb171, _, none⟩) (fn_ hw168_1 GW171.out) _).trans (((cell_far (p := ⟨gb171, _, none⟩) (fn_ hw168_1 GW171.out) _).trans (hHeld.2.1)))))))))), ((cell_far (p := ⟨gb171, _, none⟩) (fn_ hw168_2 GW171.out) _).trans (((cell_far (p := ⟨gb171, _, none⟩) (fn_ hw168_2 GW171.out) _).trans (((cell_far (p := ⟨gb171, _, none⟩) (fn_ hw168_2 GW171.out) _).trans (((cell_far (p := ⟨gb171, _, none⟩) (fn_ hw168_2 GW171.out) _).trans (((cell_far (p := ⟨gb171, _, none⟩) (fn_ hw168_2 GW171.out) _).trans (hHeld.2.2.1)))))))))), ((cell_far (p := ⟨gb171, _, none⟩) (fn_ hw168_3 GW171.out) _).trans (((cell_far (p := ⟨gb171, _, none⟩) (fn_ hw168_3 GW171.out) _).trans (((cell_far (p := ⟨gb171, _, none⟩) (fn_ hw168_3 GW171.out) _).trans (((cell_far (p := ⟨gb171, _, none⟩) (fn_ hw168_3 GW171.out) _).trans (((cell_far (p := ⟨gb171, _, none⟩) (fn_ hw168_3 GW171.out) _).trans (hHeld.2.2.2.1)))))))))), ((cell_far (p := ⟨gb171, _, none⟩) (fn_ hw168_4 GW171.out) _).trans (((cell_far (p := ⟨gb171, _, none⟩) (fn_ hw168_4 GW171.out) _).trans (((cell_far (p := ⟨gb171, _, none⟩) (fn_ hw168_4 GW171.out) _).trans (((cell_far (p := ⟨gb171, _, none⟩) (fn_ hw168_4 GW171.out) _).trans (((cell_far (p := ⟨gb171, _, none⟩) (fn_ hw168_4 GW171.out) _).trans (hHeld.2.2.2.2.1)))))))))), ((cell_far (p := ⟨gb171, _, none⟩) (fn_ hw169_0 GW171.out) _).trans (((cell_far (p := ⟨gb171, _, none⟩) (fn_ hw169_0 GW171.out) _).trans (((cell_far (p := ⟨gb171, _, none⟩) (fn_ hw169_0 GW171.out) _).trans (((cell_far (p := ⟨gb171, _, none⟩) (fn_ hw169_0 GW171.out) _).trans (((cell_far (p := ⟨gb171, _, none⟩) (fn_ hw169_0 GW171.out) _).trans (hHeld.2.2.2.2.2.1)))))))))), ((cell_far (p := ⟨gb171, _, none⟩) (fn_ hw169_1 GW171.out) _).trans (((cell_far (p := ⟨gb171, _, none⟩) (fn_ hw169_1 GW171.out) _).trans (((cell_far (p := ⟨gb171, _, none⟩) (fn_ hw169_1 GW171.out) _).trans (((cell_far (p := ⟨gb171, _, none⟩) (fn_ hw169_1 GW171.out) _).trans (((cell_far (p := ⟨gb171, _, none⟩) (fn_ hw169_1 GW171.out) _).trans (hHeld.2.2.2.2.2.2.1)))))))))), ((cell_far (p := ⟨gb171, _, none⟩) (fn_ hw169_2 GW171.out) _).trans (((cell_far (p := ⟨gb171, _, none⟩) (fn_ hw169_2 GW171.out) _).trans (((cell_far (p := ⟨gb171, _, none⟩) (fn_ hw169_2 GW171.out) _).trans (((cell_far (p := ⟨gb171, _, none⟩) (fn_ hw169_2 GW171.out) _).trans (((cell_far (p := ⟨gb171, _, none⟩) (fn_ hw169_2 GW171.out) _).trans (hHeld.2.2.2.2.2.2.2.1)))))))))), ((cell_far (p := ⟨gb171, _, none⟩) (fn_ hw169_3 GW171.out) _).trans (((cell_far (p := ⟨gb171, _, none⟩) (fn_ hw169_3 GW171.out) _).trans (((cell_far (p := ⟨gb171, _, none⟩) (fn_ hw169_3 GW171.out) _).trans (((cell_far (p := ⟨gb171, _, none⟩) (fn_ hw169_3 GW171.out) _).trans (((cell_far (p := ⟨gb171, _, none⟩) (fn_ hw169_3 GW171.out) _).trans (hHeld.2.2.2.2.2.2.2.2.1)))))))))), ((cell_far (p := ⟨gb171, _, none⟩) (fn_ hw169_4 GW171.out) _).trans (((cell_far (p := ⟨gb171, _, none⟩) (fn_ hw169_4 GW171.out) _).trans (((cell_far (p := ⟨gb171, _, none⟩) (fn_ hw169_4 GW171.out) _).trans (((cell_far (p := ⟨gb171, _, none⟩) (fn_ hw169_4 GW171.out) _).trans (((cell_far (p := ⟨gb171, _, none⟩) (fn_ hw169_4 GW171.out) _).trans (hHeld.2.2.2.2.2.2.2.2.2))))))))))⟩ (fun hHeld => ?_)
            clear hK K
            refine done_ (done_of HT_.out (by kernel_rfl)) ?_
            have hnb52 := NB170_171.out
            have hnc52 := NB171_170.out
            have hcz53_0 : w41.cell? ⟨gb170, 0, none⟩ = some (.int .i64 0) := (blk_cell BK170.out 0).trans rfl
            have hcz53_1 : w41.cell? ⟨gb170, 1, none⟩ = some (.int .i64 0) := (blk_cell BK170.out 1).trans rfl
            have hcz53_2 : w41.cell? ⟨gb170, 2, none⟩ = some (.int .i64 0) := (blk_cell BK170.out 2).trans rfl
            have hcz53_3 : w41.cell? ⟨gb170, 3, none⟩ = some (.int .i64 0) := (blk_cell BK170.out 3).trans rfl
            have hcz53_4 : w41.cell? ⟨gb170, 4, none⟩ = some (.int .i64 0) := (blk_cell BK170.out 4).trans rfl
            have hfz53_0 := blk_frozen BK170.out 0
            have hfz53_1 := blk_frozen BK170.out 1
            have hfz53_2 := blk_frozen BK170.out 2
            have hfz53_3 := blk_frozen BK170.out 3
            have hfz53_4 := blk_frozen BK170.out 4
            have hcz54_0 : w41.cell? ⟨gb171, 0, none⟩ = some (.int .i64 0) := (blk_cell BK171.out 0).trans rfl
            have hcz54_1 : w41.cell? ⟨gb171, 1, none⟩ = some (.int .i64 0) := (blk_cell BK171.out 1).trans rfl
            have hcz54_2 : w41.cell? ⟨gb171, 2, none⟩ = some (.int .i64 0) := (blk_cell BK171.out 2).trans rfl
            have hcz54_3 : w41.cell? ⟨gb171, 3, none⟩ = some (.int .i64 0) := (blk_cell BK171.out 3).trans rfl
            have hcz54_4 : w41.cell? ⟨gb171, 4, none⟩ = some (.int .i64 0) := (blk_cell BK171.out 4).trans rfl
            have hfz54_0 := blk_frozen BK171.out 0
            have hfz54_1 := blk_frozen BK171.out 1
            have hfz54_2 := blk_frozen BK171.out 2
            have hfz54_3 := blk_frozen BK171.out 3
            have hfz54_4 := blk_frozen BK171.out 4
            try go_wp2
            go_roundg k2
            case measure => have := HK1.out; have := HK2.out; omega
            case rel => exact ⟨(x4_2), (wrap64 (x6_2 + 1)), (by first | rfl | (simp; done) | (simp [*]; done)), H', ⟨by have := HK1.out; have := HK2.out; omega⟩, ⟨by (with_reducible repeat (first | apply Kd.S_alloc | apply Kd.S_drewN | apply Kd.S_drew)); exact Kd.S_mono (Kd.S_far (p := ⟨gb171, 4, none⟩) (Kd.S_far (p := ⟨gb171, 3, none⟩) (Kd.S_far (p := ⟨gb171, 2, none⟩) (Kd.S_far (p := ⟨gb171, 1, none⟩) (Kd.S_far (p := ⟨gb171, 0, none⟩) (Kd.S_far (p := ⟨gb170, 4, none⟩) (Kd.S_far (p := ⟨gb170, 3, none⟩) (Kd.S_far (p := ⟨gb170, 2, none⟩) (Kd.S_far (p := ⟨gb170, 1, none⟩) (Kd.S_far (p := ⟨gb170, 0, none⟩) (Kd.S_types (Kd.S_types HO_4.out BK170.out (by decide)) BK171.out (by decide)) (fun _ hk => hk.1.2) (.int .i64 ((rd_T83 l0 x5_1).f0))) (fun _ hk => hk.1.2) (.int .i64 ((rd_T83 l0 x5_1).f1))) (fun _ hk => hk.1.2) (.int .i64 ((rd_T83 l0 x5_1).f2))) (fun _ hk => hk.1.2) (.int .i64 ((rd_T83 l0 x5_1).f3))) (fun _ hk => hk.1.2) (.int .i64 ((rd_T83 l0 x5_1).f4))) (fun _ hk => hk.2) (.int .i64 ((rd_T83 l0 x6_2).f0))) (fun _ hk => hk.2) (.int .i64 ((rd_T83 l0 x6_2).f1))) (fun _ hk => hk.2) (.int .i64 ((rd_T83 l0 x6_2).f2))) (fun _ hk => hk.2) (.int .i64 ((rd_T83 l0 x6_2).f3))) (fun _ hk => hk.2) (.int .i64 ((rd_T83 l0 x6_2).f4))) (fun _ hk => trivial)⟩, ⟨by repeat (first | (with_reducible first | exact HB.out | apply below_alloc | apply pw_below_drewN | apply below_drew1 | refine below_set ?_ GE170.out | refine below_set ?_ GE171.out) | exact HB.out)⟩⟩
          ·rw [if_neg c14] at H
           have c14b0 : decide (((rd_T83 l0 x5_1).f2) ≤ (wrap64 (((rd_T83 l0 x6_2).f2) + ((rd_T83 l0 x6_2).f4)))) = false := decide_eq_false c14
           clear c14
           have H' := Aside0.mk H
           clear H
           try go_wp2
           have n0_ := Aside0.mk (Kd.S_drew HO_4.out)
           have n1_ := Aside0.mk (below_drew1 HB.out)
           clear HO_4
           clear HB
           have HO_4 := n0_
           have HB := n1_
           clear n0_ n1_
           have p168 : 0 ≤ (x5_1 : Int) := od_
           have q168 : x5_1 < (l0.length : Int) := od_
           obtain ⟨ad168, e168, hx168_0, hx168_1, hx168_2, hx168_3, hx168_4⟩ := at_T83 HR0.out x5_1 p168 q168
           have hw168_4 := hx168_4
           have hw168_3 := hx168_3
           have hw168_2 := hx168_2
           have hw168_1 := hx168_1
           have hw168_0 := hx168_0
           cases e168
           replace hx168_0 := (HB.out.cell (World.block_lt_of_cell? w _ hx168_0)).trans hx168_0
           replace hx168_1 := (HB.out.cell (World.block_lt_of_cell? w _ hx168_1)).trans hx168_1
           replace hx168_2 := (HB.out.cell (World.block_lt_of_cell? w _ hx168_2)).trans hx168_2
           replace hx168_3 := (HB.out.cell (World.block_lt_of_cell? w _ hx168_3)).trans hx168_3
           replace hx168_4 := (HB.out.cell (World.block_lt_of_cell? w _ hx168_4)).trans hx168_4
           replace p168 := eq_true p168
           replace q168 := eq_true q168
           have p169 : 0 ≤ (x6_2 : Int) := od_
           have q169 : x6_2 < (l0.length : Int) := od_
           obtain ⟨ad169, e169, hx169_0, hx169_1, hx169_2, hx169_3, hx169_4⟩ := at_T83 HR0.out x6_2 p169 q169
           have hw169_4 := hx169_4
           have hw169_3 := hx169_3
           have hw169_2 := hx169_2
           have hw169_1 := hx169_1
           have hw169_0 := hx169_0
           obtain rfl : ad168 = ad169 := (by injection e169)
           replace hx169_0 := (HB.out.cell (World.block_lt_of_cell? w _ hx169_0)).trans hx169_0
           replace hx169_1 := (HB.out.cell (World.block_lt_of_cell? w _ hx169_1)).trans hx169_1
           replace hx169_2 := (HB.out.cell (World.block_lt_of_cell? w _ hx169_2)).trans hx169_2
           replace hx169_3 := (HB.out.cell (World.block_lt_of_cell? w _ hx169_3)).trans hx169_3
           replace hx169_4 := (HB.out.cell (World.block_lt_of_cell? w _ hx169_4)).trans hx169_4
           replace p169 := eq_true p169
           replace q169 := eq_true q169
           refine start_ (n := 12) (S := fun w' => w'.cell? (ad168.add ((x5_1).toNat * 5)) = some (.int .i64 ((rd_T83 l0 x5_1).f0)) ∧ w'.cell? ⟨(ad168.add ((x5_1).toNat * 5)).block, (ad168.add ((x5_1).toNat * 5)).off + 1, none⟩ = some (.int .i64 ((rd_T83 l0 x5_1).f1)) ∧ w'.cell? ⟨(ad168.add ((x5_1).toNat * 5)).block, (ad168.add ((x5_1).toNat * 5)).off + 2, none⟩ = some (.int .i64 ((rd_T83 l0 x5_1).f2)) ∧ w'.cell? ⟨(ad168.add ((x5_1).toNat * 5)).block, (ad168.add ((x5_1).toNat * 5)).off + 3, none⟩ = some (.int .i64 ((rd_T83 l0 x5_1).f3)) ∧ w'.cell? ⟨(ad168.add ((x5_1).toNat * 5)).block, (ad168.add ((x5_1).toNat * 5)).off + 4, none⟩ = some (.int .i64 ((rd_T83 l0 x5_1).f4)) ∧ w'.cell? (ad168.add ((x6_2).toNat * 5)) = some (.int .i64 ((rd_T83 l0 x6_2).f0)) ∧ w'.cell? ⟨(ad168.add ((x6_2).toNat * 5)).block, (ad168.add ((x6_2).toNat * 5)).off + 1, none⟩ = some (.int .i64 ((rd_T83 l0 x6_2).f1)) ∧ w'.cell? ⟨(ad168.add ((x6_2).toNat * 5)).block, (ad168.add ((x6_2).toNat * 5)).off + 2, none⟩ = some (.int .i64 ((rd_T83 l0 x6_2).f2)) ∧ w'.cell? ⟨(ad168.add ((x6_2).toNat * 5)).block, (ad168.add ((x6_2).toNat * 5)).off + 3, none⟩ = some (.int .i64 ((rd_T83 l0 x6_2).f3)) ∧ w'.cell? ⟨(ad168.add ((x6_2).toNat * 5)).block, (ad168.add ((x6_2).toNat * 5)).off + 4, none⟩ = some (.int .i64 ((rd_T83 l0 x6_2).f4))) (ds := []) #[false, false, false, false, false, false, false, false, false, false, false, false] (by kernel_rfl) rfl rfl ⟨((HB.out.cell (World.block_lt_of_cell? w _ hw168_0)).trans hw168_0), ((HB.out.cell (World.block_lt_of_cell? w _ hw168_1)).trans hw168_1), ((HB.out.cell (World.block_lt_of_cell? w _ hw168_2)).trans hw168_2), ((HB.out.cell (World.block_lt_of_cell? w _ hw168_3)).trans hw168_3), ((HB.out.cell (World.block_lt_of_cell? w _ hw168_4)).trans hw168_4), ((HB.out.cell (World.block_lt_of_cell? w _ hw169_0)).trans hw169_0), ((HB.out.cell (World.block_lt_of_cell? w _ hw169_1)).trans hw169_1), ((HB.out.cell (World.block_lt_of_cell? w _ hw169_2)).trans hw169_2), ((HB.out.cell (World.block_lt_of_cell? w _ hw169_3)).trans hw169_3), ((HB.out.cell (World.block_lt_of_cell? w _ hw169_4)).trans hw169_4)⟩ (fun hHeld => ?_); refine with_tabW spec_OverlappingAreas.tab10 spec_OverlappingAreas.bits10 (fun HT_ HW_ => ?_)
           generalize wr.drew = w55 at HO_4 HB hx168_0 hx168_1 hx168_2 hx168_3 hx168_4 hx169_0 hx169_1 hx169_2 hx169_3 hx169_4 hHeld ⊢
           refine pure_ (i := 0) (N := some 27) (v := ?_) (a' := ?_) #[true, false, false, false, false, false, false, false, false, false, false, false] rfl rfl (any_of HT_.out (by kernel_rfl)) (fun _ _ _ h => h) (Or.inl ⟨by rfl, ?_⟩) ?_ ?_
           rotate_left
           ·intro w'
            go_simp
            with_reducible rfl
           rotate_left
           ·simp only [pz_]
            rfl
           refine pure_ (i := 1) (N := some 28) (v := ?_) (a' := ?_) #[true, true, false, false, false, false, false, false, false, false, false, false] rfl rfl (any_of HT_.out (by kernel_rfl)) (fun _ _ _ h => h) (Or.inl ⟨by rfl, ?_⟩) ?_ ?_
           rotate_left
           ·intro w'
            go_simp
            with_reducible rfl
           rotate_left
           ·simp only [pz_]
            rfl
           refine pure_ (i := 2) (N := some 29) (v := ?_) (a' := ?_) #[true, true, true, false, false, false, false, false, false, false, false, false] rfl rfl (any_of HT_.out (by kernel_rfl)) (fun _ _ _ h => h) (Or.inl ⟨by rfl, ?_⟩) ?_ ?_
           rotate_left
           ·intro w'
            go_simp
            with_reducible rfl
           rotate_left
           ·simp only [pz_]
            rfl
           refine pure_ (i := 4) (N := some 31) (v := ?_) (a' := ?_) #[true, true, true, false, true, false, false, false, false, false, false, false] rfl rfl (any_of HT_.out (by kernel_rfl)) (fun _ _ _ h => h) (Or.inl ⟨by rfl, ?_⟩) ?_ ?_
           rotate_left
           ·intro w'
            go_simp
            with_reducible rfl
           rotate_left
           ·simp only [pz_]
            rfl
           refine pure_ (i := 5) (N := some 32) (v := ?_) (a' := ?_) #[true, true, true, false, true, true, false, false, false, false, false, false] rfl rfl (any_of HT_.out (by kernel_rfl)) (fun _ _ _ h => h) (Or.inl ⟨by rfl, ?_⟩) ?_ ?_
           rotate_left
           ·intro w'
            go_simp
            with_reducible rfl
           rotate_left
           ·simp only [pz_]
            rfl
           refine pure_ (i := 6) (N := some 33) (v := ?_) (a' := ?_) #[true, true, true, false, true, true, true, false, false, false, false, false] rfl rfl (any_of HT_.out (by kernel_rfl)) (fun _ _ _ h => h) (Or.inl ⟨by rfl, ?_⟩) ?_ ?_
           rotate_left
           ·intro w'
            go_simp
            with_reducible rfl
           rotate_left
           ·simp only [pz_]
            rfl
           refine take_ (i := 3) (N := some 30) (v := ?_) (a' := ?_) #[true, true, true, true, true, true, true, false, false, false, false, false] rfl rfl (take_ofW HT_.out HW_.out (by kernel_rfl)) (fun _ _ _ h => h) (Or.inl ⟨by rfl, ?_⟩) hHeld ?_ ?_
           rotate_left
           ·rintro w' ⟨s0, s1, s2, s3, s4, s5, s6, s7, s8, s9⟩
            go_simp
            with_reducible rfl
           rotate_left
           ·simp only [pz_]
            rfl
           refine take_ (i := 7) (N := some 34) (v := ?_) (a' := ?_) #[true, true, true, true, true, true, true, true, false, false, false, false] rfl rfl (take_ofW HT_.out HW_.out (by kernel_rfl)) (fun _ _ _ h => h) (Or.inl ⟨by rfl, ?_⟩) hHeld ?_ ?_
           rotate_left
           ·rintro w' ⟨s0, s1, s2, s3, s4, s5, s6, s7, s8, s9⟩
            go_simp
            with_reducible rfl
           rotate_left
           ·simp only [pz_]
            rfl
           refine join_ (σ := Nat × Nat) 2 #[true, true, true, true, true, true, true, true, true, true, false, false] (fun s_ => [(7, .pointer (some ⟨s_.1, 0, none⟩)), (8, .pointer (some ⟨s_.2, 0, none⟩))]) (fun s_ w' => (w'.cell? (ad168.add ((x5_1).toNat * 5)) = some (.int .i64 ((rd_T83 l0 x5_1).f0)) ∧ w'.cell? ⟨(ad168.add ((x5_1).toNat * 5)).block, (ad168.add ((x5_1).toNat * 5)).off + 1, none⟩ = some (.int .i64 ((rd_T83 l0 x5_1).f1)) ∧ w'.cell? ⟨(ad168.add ((x5_1).toNat * 5)).block, (ad168.add ((x5_1).toNat * 5)).off + 2, none⟩ = some (.int .i64 ((rd_T83 l0 x5_1).f2)) ∧ w'.cell? ⟨(ad168.add ((x5_1).toNat * 5)).block, (ad168.add ((x5_1).toNat * 5)).off + 3, none⟩ = some (.int .i64 ((rd_T83 l0 x5_1).f3)) ∧ w'.cell? ⟨(ad168.add ((x5_1).toNat * 5)).block, (ad168.add ((x5_1).toNat * 5)).off + 4, none⟩ = some (.int .i64 ((rd_T83 l0 x5_1).f4)) ∧ w'.cell? (ad168.add ((x6_2).toNat * 5)) = some (.int .i64 ((rd_T83 l0 x6_2).f0)) ∧ w'.cell? ⟨(ad168.add ((x6_2).toNat * 5)).block, (ad168.add ((x6_2).toNat * 5)).off + 1, none⟩ = some (.int .i64 ((rd_T83 l0 x6_2).f1)) ∧ w'.cell? ⟨(ad168.add ((x6_2).toNat * 5)).block, (ad168.add ((x6_2).toNat * 5)).off + 2, none⟩ = some (.int .i64 ((rd_T83 l0 x6_2).f2)) ∧ w'.cell? ⟨(ad168.add ((x6_2).toNat * 5)).block, (ad168.add ((x6_2).toNat * 5)).off + 3, none⟩ = some (.int .i64 ((rd_T83 l0 x6_2).f3)) ∧ w'.cell? ⟨(ad168.add ((x6_2).toNat * 5)).block, (ad168.add ((x6_2).toNat * 5)).off + 4, none⟩ = some (.int .i64 ((rd_T83 l0 x6_2).f4))) ∧ (Kd.S (Kd.slice 2 (Kd.int .i64)) 24 w' w.heap.size (fun _ => True) u4 x4_2) ∧ (w'.heap[s_.1]? = some (.cells #[.int .i64 0, .int .i64 0, .int .i64 0, .int .i64 0, .int .i64 0] 83 (0, 0))) ∧ (w'.heap[s_.2]? = some (.cells #[.int .i64 0, .int .i64 0, .int .i64 0, .int .i64 0, .int .i64 0] 83 (0, 0))) ∧ (w.heap.size ≤ s_.1) ∧ (w.heap.size ≤ s_.1) ∧ (s_.2 ≠ s_.1) ∧ (s_.1 ≠ s_.2) ∧ (w.heap.size ≤ s_.2) ∧ (w.heap.size ≤ s_.2) ∧ (Below w.heap.size w w')) ?_ ?_
           rotate_left
           ·intro hCont
            refine two_ (i := 8) (j := 9) (Ni := some 7) (Nj := some 8) #[true, true, true, true, true, true, true, true, true, false, false, false] #[true, true, true, true, true, true, true, true, false, true, false, false] rfl rfl rfl rfl (two_of HT_.out (by kernel_rfl)) (by decide) (by decide) (fun K hK => ?_) (fun K hK => ?_)
            ·skip
             refine box_step ?hg (N := 7) ?hd (cs := #[.int .i64 0, .int .i64 0, .int .i64 0, .int .i64 0, .int .i64 0]) (t := 83) ?hr ?_; (case hd => rfl); (case hg => rfl); (case hr => first | (go_simp; done) | (go_simp; rfl))
             intro gb170 hg w56 hbox hb
             have n0_ := Aside0.mk (Kd.S_below (by (with_reducible repeat (first | apply Kd.S_alloc | apply Kd.S_drewN | apply Kd.S_drew)); exact HO_4.out) hb)
             have n1_ := Aside0.mk (below_step (bl_ HB.out) hb)
             have n2_ := Aside0.mk (hbox)
             have n3_ := Aside0.mk ((by rw [hg]; exact (below_size (bl_ HB.out)) : w.heap.size ≤ gb170))
             have n4_ := Aside0.mk ((by rw [hg]; exact (below_size (bl_ HB.out)) : w.heap.size ≤ gb170))
             clear HO_4
             clear HB
             have HO_4 := n0_
             have HB := n1_
             have BK170 := n2_
             have GW170 := n3_
             have GE170 := n4_
             clear n0_ n1_ n2_ n3_ n4_
             clear hb hbox hg
             refine hK.out _ _ ⟨((HB.out.cell (World.block_lt_of_cell? w _ hw168_0)).trans hw168_0), ((HB.out.cell (World.block_lt_of_cell? w _ hw168_1)).trans hw168_1), ((HB.out.cell (World.block_lt_of_cell? w _ hw168_2)).trans hw168_2), ((HB.out.cell (World.block_lt_of_cell? w _ hw168_3)).trans hw168_3), ((HB.out.cell (World.block_lt_of_cell? w _ hw168_4)).trans hw168_4), ((HB.out.cell (World.block_lt_of_cell? w _ hw169_0)).trans hw169_0), ((HB.out.cell (World.block_lt_of_cell? w _ hw169_1)).trans hw169_1), ((HB.out.cell (World.block_lt_of_cell? w _ hw169_2)).trans hw169_2), ((HB.out.cell (World.block_lt_of_cell? w _ hw169_3)).trans hw169_3), ((HB.out.cell (World.block_lt_of_cell? w _ hw169_4)).trans hw169_4)⟩ (fun hHeld => ?_)
             clear hK K
             refine norm_ (a' := ?_) ?_ ?_
             rotate_left
             ·show Act.put _ (some 7) _ = _
              simp only [pz_]
              rfl
             refine one_ (i := 9) (N := some 8) #[true, true, true, true, true, true, true, true, true, true, false, false] rfl rfl (one_of HT_.out (by kernel_rfl)) (by decide) (fun K hK => ?_)
             refine box_step ?hg (N := 8) ?hd (cs := #[.int .i64 0, .int .i64 0, .int .i64 0, .int .i64 0, .int .i64 0]) (t := 83) ?hr ?_; (case hd => rfl); (case hg => rfl); (case hr => first | (go_simp; done) | (go_simp; rfl))
             intro gb171 hg w57 hbox hb
             have n0_ := Aside0.mk (Kd.S_below (by (with_reducible repeat (first | apply Kd.S_alloc | apply Kd.S_drewN | apply Kd.S_drew)); exact HO_4.out) hb)
             have n1_ := Aside0.mk (blk_below (g := gb170) (o := .cells #[.int .i64 0, .int .i64 0, .int .i64 0, .int .i64 0, .int .i64 0] 83 (0, 0)) (by (with_reducible repeat (first | refine blk_drewN ?_ _ | refine blk_drew ?_ | refine blk_alloc ?_ _)); exact BK170.out) hb)
             have n2_ := Aside0.mk (below_step (by repeat (first | (with_reducible first | exact HB.out | apply below_alloc | apply pw_below_drewN | apply below_drew1 | refine below_set ?_ GE170.out) | exact HB.out)) hb)
             have n3_ := Aside0.mk (hbox)
             have n4_ := Aside0.mk ((by rw [hg]; exact (below_size (by repeat (first | (with_reducible first | exact HB.out | apply below_alloc | apply pw_below_drewN | apply below_drew1 | refine below_set ?_ GE170.out) | exact HB.out))) : w.heap.size ≤ gb171))
             have n5_ := Aside0.mk ((by rw [hg]; exact (below_size (by repeat (first | (with_reducible first | exact HB.out | apply below_alloc | apply pw_below_drewN | apply below_drew1 | refine below_set ?_ GE170.out) | exact HB.out))) : w.heap.size ≤ gb171))
             have n6_ := Aside0.mk ((by rw [hg]; exact Nat.ne_of_lt (blk_lt (g := gb170) (o := .cells #[.int .i64 0, .int .i64 0, .int .i64 0, .int .i64 0, .int .i64 0] 83 (0, 0)) (by (with_reducible repeat (first | refine blk_drewN ?_ _ | refine blk_drew ?_ | refine blk_alloc ?_ _)); exact BK170.out)) : gb170 ≠ gb171))
             have n7_ := Aside0.mk ((by rw [hg]; exact Nat.ne_of_gt (blk_lt (g := gb170) (o := .cells #[.int .i64 0, .int .i64 0, .int .i64 0, .int .i64 0, .int .i64 0] 83 (0, 0)) (by (with_reducible repeat (first | refine blk_drewN ?_ _ | refine blk_drew ?_ | refine blk_alloc ?_ _)); exact BK170.out)) : gb171 ≠ gb170))
             clear HO_4
             clear BK170
             clear HB
             have HO_4 := n0_
             have BK170 := n1_
             have HB := n2_
             have BK171 := n3_
             have GW171 := n4_
             have GE171 := n5_
             have NB170_171 := n6_
             have NB171_170 := n7_
             clear n0_ n1_ n2_ n3_ n4_ n5_ n6_ n7_
             clear hb hbox hg
             refine hK.out _ _ ⟨((HB.out.cell (World.block_lt_of_cell? w _ hw168_0)).trans hw168_0), ((HB.out.cell (World.block_lt_of_cell? w _ hw168_1)).trans hw168_1), ((HB.out.cell (World.block_lt_of_cell? w _ hw168_2)).trans hw168_2), ((HB.out.cell (World.block_lt_of_cell? w _ hw168_3)).trans hw168_3), ((HB.out.cell (World.block_lt_of_cell? w _ hw168_4)).trans hw168_4), ((HB.out.cell (World.block_lt_of_cell? w _ hw169_0)).trans hw169_0), ((HB.out.cell (World.block_lt_of_cell? w _ hw169_1)).trans hw169_1), ((HB.out.cell (World.block_lt_of_cell? w _ hw169_2)).trans hw169_2), ((HB.out.cell (World.block_lt_of_cell? w _ hw169_3)).trans hw169_3), ((HB.out.cell (World.block_lt_of_cell? w _ hw169_4)).trans hw169_4)⟩ (fun hHeld => ?_)
             clear hK K
             refine norm_ (a' := ?_) ?_ ?_
             rotate_left
             ·show Act.put _ (some 8) _ = _
              simp only [pz_]
              rfl
             exact norm_ (by simp only [putAll, Act.put, List.setIfInBounds_toArray, List.set_cons_zero, List.set_cons_succ]) (hCont (gb170, gb171) _ ⟨hHeld, (by (with_reducible repeat (first | apply Kd.S_alloc | apply Kd.S_drewN | apply Kd.S_drew)); exact HO_4.out), (by (with_reducible repeat (first | refine blk_drewN ?_ _ | refine blk_drew ?_ | refine blk_alloc ?_ _)); exact BK170.out), (by (with_reducible repeat (first | refine blk_drewN ?_ _ | refine blk_drew ?_ | refine blk_alloc ?_ _)); exact BK171.out), GW170.out, GE170.out, NB171_170.out, NB170_171.out, GW171.out, GE171.out, (by repeat (first | (with_reducible first | exact HB.out | apply below_alloc | apply pw_below_drewN | apply below_drew1 | refine below_set ?_ GE170.out | refine below_set ?_ GE171.out) | exact HB.out))⟩)
            ·skip
             refine box_step ?hg (N := 8) ?hd (cs := #[.int .i64 0, .int .i64 0, .int .i64 0, .int .i64 0, .int .i64 0]) (t := 83) ?hr ?_; (case hd => rfl); (case hg => rfl); (case hr => first | (go_simp; done) | (go_simp; rfl))
             intro gb171 hg w56 hbox hb
             have n0_ := Aside0.mk (Kd.S_below (by (with_reducible repeat (first | apply Kd.S_alloc | apply Kd.S_drewN | apply Kd.S_drew)); exact HO_4.out) hb)
             have n1_ := Aside0.mk (below_step (bl_ HB.out) hb)
             have n2_ := Aside0.mk (hbox)
             have n3_ := Aside0.mk ((by rw [hg]; exact (below_size (bl_ HB.out)) : w.heap.size ≤ gb171))
             have n4_ := Aside0.mk ((by rw [hg]; exact (below_size (bl_ HB.out)) : w.heap.size ≤ gb171))
             clear HO_4
             clear HB
             have HO_4 := n0_
             have HB := n1_
             have BK171 := n2_
             have GW171 := n3_
             have GE171 := n4_
             clear n0_ n1_ n2_ n3_ n4_
             clear hb hbox hg
             refine hK.out _ _ ⟨((HB.out.cell (World.block_lt_of_cell? w _ hw168_0)).trans hw168_0), ((HB.out.cell (World.block_lt_of_cell? w _ hw168_1)).trans hw168_1), ((HB.out.cell (World.block_lt_of_cell? w _ hw168_2)).trans hw168_2), ((HB.out.cell (World.block_lt_of_cell? w _ hw168_3)).trans hw168_3), ((HB.out.cell (World.block_lt_of_cell? w _ hw168_4)).trans hw168_4), ((HB.out.cell (World.block_lt_of_cell? w _ hw169_0)).trans hw169_0), ((HB.out.cell (World.block_lt_of_cell? w _ hw169_1)).trans hw169_1), ((HB.out.cell (World.block_lt_of_cell? w _ hw169_2)).trans hw169_2), ((HB.out.cell (World.block_lt_of_cell? w _ hw169_3)).trans hw169_3), ((HB.out.cell (World.block_lt_of_cell? w _ hw169_4)).trans hw169_4)⟩ (fun hHeld => ?_)
             clear hK K
             refine norm_ (a' := ?_) ?_ ?_
             rotate_left
             ·show Act.put _ (some 8) _ = _
              simp only [pz_]
              rfl
             refine one_ (i := 8) (N := some 7) #[true, true, true, true, true, true, true, true, true, true, false, false] rfl rfl (one_of HT_.out (by kernel_rfl)) (by decide) (fun K hK => ?_)
             refine box_step ?hg (N := 7) ?hd (cs := #[.int .i64 0, .int .i64 0, .int .i64 0, .int .i64 0, .int .i64 0]) (t := 83) ?hr ?_; (case hd => rfl); (case hg => rfl); (case hr => first | (go_simp; done) | (go_simp; rfl))
             intro gb170 hg w57 hbox hb
             have n0_ := Aside0.mk (Kd.S_below (by (with_reducible repeat (first | apply Kd.S_alloc | apply Kd.S_drewN | apply Kd.S_drew)); exact HO_4.out) hb)
             have n1_ := Aside0.mk (blk_below (g := gb171) (o := .cells #[.int .i64 0, .int .i64 0, .int .i64 0, .int .i64 0, .int .i64 0] 83 (0, 0)) (by (with_reducible repeat (first | refine blk_drewN ?_ _ | refine blk_drew ?_ | refine blk_alloc ?_ _)); exact BK171.out) hb)
             have n2_ := Aside0.mk (below_step (by repeat (first | (with_reducible first | exact HB.out | apply below_alloc | apply pw_below_drewN | apply below_drew1 | refine below_set ?_ GE171.out) | exact HB.out)) hb)
             have n3_ := Aside0.mk (hbox)
             have n4_ := Aside0.mk ((by rw [hg]; exact (below_size (by repeat (first | (with_reducible first | exact HB.out | apply below_alloc | apply pw_below_drewN | apply below_drew1 | refine below_set ?_ GE171.out) | exact HB.out))) : w.heap.size ≤ gb170))
             have n5_ := Aside0.mk ((by rw [hg]; exact (below_size (by repeat (first | (with_reducible first | exact HB.out | apply below_alloc | apply pw_below_drewN | apply below_drew1 | refine below_set ?_ GE171.out) | exact HB.out))) : w.heap.size ≤ gb170))
             have n6_ := Aside0.mk ((by rw [hg]; exact Nat.ne_of_lt (blk_lt (g := gb171) (o := .cells #[.int .i64 0, .int .i64 0, .int .i64 0, .int .i64 0, .int .i64 0] 83 (0, 0)) (by (with_reducible repeat (first | refine blk_drewN ?_ _ | refine blk_drew ?_ | refine blk_alloc ?_ _)); exact BK171.out)) : gb171 ≠ gb170))
             have n7_ := Aside0.mk ((by rw [hg]; exact Nat.ne_of_gt (blk_lt (g := gb171) (o := .cells #[.int .i64 0, .int .i64 0, .int .i64 0, .int .i64 0, .int .i64 0] 83 (0, 0)) (by (with_reducible repeat (first | refine blk_drewN ?_ _ | refine blk_drew ?_ | refine blk_alloc ?_ _)); exact BK171.out)) : gb170 ≠ gb171))
             clear HO_4
             clear BK171
             clear HB
             have HO_4 := n0_
             have BK171 := n1_
             have HB := n2_
             have BK170 := n3_
             have GW170 := n4_
             have GE170 := n5_
             have NB171_170 := n6_
             have NB170_171 := n7_
             clear n0_ n1_ n2_ n3_ n4_ n5_ n6_ n7_
             clear hb hbox hg
             refine hK.out _ _ ⟨((HB.out.cell (World.block_lt_of_cell? w _ hw168_0)).trans hw168_0), ((HB.out.cell (World.block_lt_of_cell? w _ hw168_1)).trans hw168_1), ((HB.out.cell (World.block_lt_of_cell? w _ hw168_2)).trans hw168_2), ((HB.out.cell (World.block_lt_of_cell? w _ hw168_3)).trans hw168_3), ((HB.out.cell (World.block_lt_of_cell? w _ hw168_4)).trans hw168_4), ((HB.out.cell (World.block_lt_of_cell? w _ hw169_0)).trans hw169_0), ((HB.out.cell (World.block_lt_of_cell? w _ hw169_1)).trans hw169_1), ((HB.out.cell (World.block_lt_of_cell? w _ hw169_2)).trans hw169_2), ((HB.out.cell (World.block_lt_of_cell? w _ hw169_3)).trans hw169_3), ((HB.out.cell (World.block_lt_of_cell? w _ hw169_4)).trans hw169_4)⟩ (fun hHeld => ?_)
             clear hK K
             refine norm_ (a' := ?_) ?_ ?_
             rotate_left
             ·show Act.put _ (some 7) _ = _
              simp only [pz_]
              rfl
             exact norm_ (by simp only [putAll, Act.put, List.setIfInBounds_toArray, List.set_cons_zero, List.set_cons_succ]) (hCont (gb170, gb171) _ ⟨hHeld, (by (with_reducible repeat (first | apply Kd.S_alloc | apply Kd.S_drewN | apply Kd.S_drew)); exact HO_4.out), (by (with_reducible repeat (first | refine blk_drewN ?_ _ | refine blk_drew ?_ | refine blk_alloc ?_ _)); exact BK170.out), (by (with_reducible repeat (first | refine blk_drewN ?_ _ | refine blk_drew ?_ | refine blk_alloc ?_ _)); exact BK171.out), GW170.out, GE170.out, NB171_170.out, NB170_171.out, GW171.out, GE171.out, (by repeat (first | (with_reducible first | exact HB.out | apply below_alloc | apply pw_below_drewN | apply below_drew1 | refine below_set ?_ GE171.out | refine below_set ?_ GE170.out) | exact HB.out))⟩)
           rintro ⟨gb170, gb171⟩ w58 ⟨hS_, h0_, h1_, h2_, h3_, h4_, h5_, h6_, h7_, h8_, h9_⟩
           have n0_ : Aside0 (Kd.S (Kd.slice 2 (Kd.int .i64)) 24 w58 w.heap.size (fun _ => True) u4 x4_2) := ⟨h0_⟩
           have n1_ : Aside0 (w58.heap[gb170]? = some (.cells #[.int .i64 0, .int .i64 0, .int .i64 0, .int .i64 0, .int .i64 0] 83 (0, 0))) := ⟨h1_⟩
           have n2_ : Aside0 (w58.heap[gb171]? = some (.cells #[.int .i64 0, .int .i64 0, .int .i64 0, .int .i64 0, .int .i64 0] 83 (0, 0))) := ⟨h2_⟩
           have n3_ : Aside0 (w.heap.size ≤ gb170) := ⟨h3_⟩
           have n4_ : Aside0 (w.heap.size ≤ gb170) := ⟨h4_⟩
           have n5_ : Aside0 (gb171 ≠ gb170) := ⟨h5_⟩
           have n6_ : Aside0 (gb170 ≠ gb171) := ⟨h6_⟩
           have n7_ : Aside0 (w.heap.size ≤ gb171) := ⟨h7_⟩
           have n8_ : Aside0 (w.heap.size ≤ gb171) := ⟨h8_⟩
           have n9_ : Aside0 (Below w.heap.size w w58) := ⟨h9_⟩
           clear HO_4
           clear HB
           clear h0_ h1_ h2_ h3_ h4_ h5_ h6_ h7_ h8_ h9_
           have HO_4 := n0_
           have BK170 := n1_
           have BK171 := n2_
           have GW170 := n3_
           have GE170 := n4_
           have NB171_170 := n5_
           have NB170_171 := n6_
           have GW171 := n7_
           have GE171 := n8_
           have HB := n9_
           clear n0_ n1_ n2_ n3_ n4_ n5_ n6_ n7_ n8_ n9_
           have hHeld : w58.cell? (ad168.add ((x5_1).toNat * 5)) = some (.int .i64 ((rd_T83 l0 x5_1).f0)) ∧ w58.cell? ⟨(ad168.add ((x5_1).toNat * 5)).block, (ad168.add ((x5_1).toNat * 5)).off + 1, none⟩ = some (.int .i64 ((rd_T83 l0 x5_1).f1)) ∧ w58.cell? ⟨(ad168.add ((x5_1).toNat * 5)).block, (ad168.add ((x5_1).toNat * 5)).off + 2, none⟩ = some (.int .i64 ((rd_T83 l0 x5_1).f2)) ∧ w58.cell? ⟨(ad168.add ((x5_1).toNat * 5)).block, (ad168.add ((x5_1).toNat * 5)).off + 3, none⟩ = some (.int .i64 ((rd_T83 l0 x5_1).f3)) ∧ w58.cell? ⟨(ad168.add ((x5_1).toNat * 5)).block, (ad168.add ((x5_1).toNat * 5)).off + 4, none⟩ = some (.int .i64 ((rd_T83 l0 x5_1).f4)) ∧ w58.cell? (ad168.add ((x6_2).toNat * 5)) = some (.int .i64 ((rd_T83 l0 x6_2).f0)) ∧ w58.cell? ⟨(ad168.add ((x6_2).toNat * 5)).block, (ad168.add ((x6_2).toNat * 5)).off + 1, none⟩ = some (.int .i64 ((rd_T83 l0 x6_2).f1)) ∧ w58.cell? ⟨(ad168.add ((x6_2).toNat * 5)).block, (ad168.add ((x6_2).toNat * 5)).off + 2, none⟩ = some (.int .i64 ((rd_T83 l0 x6_2).f2)) ∧ w58.cell? ⟨(ad168.add ((x6_2).toNat * 5)).block, (ad168.add ((x6_2).toNat * 5)).off + 3, none⟩ = some (.int .i64 ((rd_T83 l0 x6_2).f3)) ∧ w58.cell? ⟨(ad168.add ((x6_2).toNat * 5)).block, (ad168.add ((x6_2).toNat * 5)).off + 4, none⟩ = some (.int .i64 ((rd_T83 l0 x6_2).f4)) := hS_
           refine norm_ (a' := ?_) ?_ ?_
           rotate_left
           ·simp only [putAll, Act.put, List.setIfInBounds_toArray, List.set_cons_zero, List.set_cons_succ]
            rfl
           refine one_ (i := 10) (N := none) #[true, true, true, true, true, true, true, true, true, true, true, false] rfl rfl (one_of HT_.out (by kernel_rfl)) (by decide) (fun K hK => ?_)
           have hs59 : w58.cell? ⟨gb170, 0, none⟩ = some (.int .i64 0) := (blk_cell BK170.out 0).trans rfl
           have hfs59 := blk_frozen BK170.out 0
           have hns59_1 := NB171_170.out
           have hms59_1 := NB170_171.out
           have hs60 : w58.cell? ⟨gb170, 1, none⟩ = some (.int .i64 0) := (blk_cell BK170.out 1).trans rfl
           have hfs60 := blk_frozen BK170.out 1
           have hns60_1 := NB171_170.out
           have hms60_1 := NB170_171.out
           have hs61 : w58.cell? ⟨gb170, 2, none⟩ = some (.int .i64 0) := (blk_cell BK170.out 2).trans rfl
           have hfs61 := blk_frozen BK170.out 2
           have hns61_1 := NB171_170.out
           have hms61_1 := NB170_171.out
           have hs62 : w58.cell? ⟨gb170, 3, none⟩ = some (.int .i64 0) := (blk_cell BK170.out 3).trans rfl
           have hfs62 := blk_frozen BK170.out 3
           have hns62_1 := NB171_170.out
           have hms62_1 := NB170_171.out
           have hs63 : w58.cell? ⟨gb170, 4, none⟩ = some (.int .i64 0) := (blk_cell BK170.out 4).trans rfl
           have hfs63 := blk_frozen BK170.out 4
           have hns63_1 := NB171_170.out
           have hms63_1 := NB170_171.out
           refine skip_ (w1 := ?_) (by rfl) rfl ?_ ?_
           rotate_left
           ·go_simp
            rfl
           refine hK.out _ _ ⟨((cell_far (p := ⟨gb170, _, none⟩) (fn_ hw168_0 GW170.out) _).trans (((cell_far (p := ⟨gb170, _, none⟩) (fn_ hw168_0 GW170.out) _).trans (((cell_far (p := ⟨gb170, _, none⟩) (fn_ hw168_0 GW170.out) _).trans (((cell_far (p := ⟨gb170, _, none⟩) (fn_ hw168_0 GW170.out) _).trans (((cell_far (p := ⟨gb170, _, none⟩) (fn_ hw168_0 GW170.out) _).trans (hHeld.1)))))))))), ((cell_far (p := ⟨gb170, _, none⟩) (fn_ hw168_1 GW170.out) _).trans (((cell_far (p := ⟨gb170, _, none⟩) (fn_ hw168_1 GW170.out) _).trans (((cell_far (p := ⟨gb170, _, none⟩) (fn_ hw168_1 GW170.out) _).trans (((cell_far (p := ⟨gb170, _, none⟩) (fn_ hw168_1 GW170.out) _).trans (((cell_far (p := ⟨gb170, _, none⟩) (fn_ hw168_1 GW170.out) _).trans (hHeld.2.1)))))))))), ((cell_far (p := ⟨gb170, _, none⟩) (fn_ hw168_2 GW170.out) _).trans (((cell_far (p := ⟨gb170, _, none⟩) (fn_ hw168_2 GW170.out) _).trans (((cell_far (p := ⟨gb170, _, none⟩) (fn_ hw168_2 GW170.out) _).trans (((cell_far (p := ⟨gb170, _, none⟩) (fn_ hw168_2 GW170.out) _).trans (((cell_far (p := ⟨gb170, _, none⟩) (fn_ hw168_2 GW170.out) _).trans (hHeld.2.2.1)))))))))), ((cell_far (p := ⟨gb170, _, none⟩) (fn_ hw168_3 GW170.out) _).trans (((cell_far (p := ⟨gb170, _, none⟩) (fn_ hw168_3 GW170.out) _).trans (((cell_far (p := ⟨gb170, _, none⟩) (fn_ hw168_3 GW170.out) _).trans (((cell_far (p := ⟨gb170, _, none⟩) (fn_ hw168_3 GW170.out) _).trans (((cell_far (p := ⟨gb170, _, none⟩) (fn_ hw168_3 GW170.out) _).trans (hHeld.2.2.2.1)))))))))), ((cell_far (p := ⟨gb170, _, none⟩) (fn_ hw168_4 GW170.out) _).trans (((cell_far (p := ⟨gb170, _, none⟩) (fn_ hw168_4 GW170.out) _).trans (((cell_far (p := ⟨gb170, _, none⟩) (fn_ hw168_4 GW170.out) _).trans (((cell_far (p := ⟨gb170, _, none⟩) (fn_ hw168_4 GW170.out) _).trans (((cell_far (p := ⟨gb170, _, none⟩) (fn_ hw168_4 GW170.out) _).trans (hHeld.2.2.2.2.1)))))))))), ((cell_far (p := ⟨gb170, _, none⟩) (fn_ hw169_0 GW170.out) _).trans (((cell_far (p := ⟨gb170, _, none⟩) (fn_ hw169_0 GW170.out) _).trans (((cell_far (p := ⟨gb170, _, none⟩) (fn_ hw169_0 GW170.out) _).trans (((cell_far (p := ⟨gb170, _, none⟩) (fn_ hw169_0 GW170.out) _).trans (((cell_far (p := ⟨gb170, _, none⟩) (fn_ hw169_0 GW170.out) _).trans (hHeld.2.2.2.2.2.1)))))))))), ((cell_far (p := ⟨gb170, _, none⟩) (fn_ hw169_1 GW170.out) _).trans (((cell_far (p := ⟨gb170, _, none⟩) (fn_ hw169_1 GW170.out) _).trans (((cell_far (p := ⟨gb170, _, none⟩) (fn_ hw169_1 GW170.out) _).trans (((cell_far (p := ⟨gb170, _, none⟩) (fn_ hw169_1 GW170.out) _).trans (((cell_far (p := ⟨gb170, _, none⟩) (fn_ hw169_1 GW170.out) _).trans (hHeld.2.2.2.2.2.2.1)))))))))), ((cell_far (p := ⟨gb170, _, none⟩) (fn_ hw169_2 GW170.out) _).trans (((cell_far (p := ⟨gb170, _, none⟩) (fn_ hw169_2 GW170.out) _).trans (((cell_far (p := ⟨gb170, _, none⟩) (fn_ hw169_2 GW170.out) _).trans (((cell_far (p := ⟨gb170, _, none⟩) (fn_ hw169_2 GW170.out) _).trans (((cell_far (p := ⟨gb170, _, none⟩) (fn_ hw169_2 GW170.out) _).trans (hHeld.2.2.2.2.2.2.2.1)))))))))), ((cell_far (p := ⟨gb170, _, none⟩) (fn_ hw169_3 GW170.out) _).trans (((cell_far (p := ⟨gb170, _, none⟩) (fn_ hw169_3 GW170.out) _).trans (((cell_far (p := ⟨gb170, _, none⟩) (fn_ hw169_3 GW170.out) _).trans (((cell_far (p := ⟨gb170, _, none⟩) (fn_ hw169_3 GW170.out) _).trans (((cell_far (p := ⟨gb170, _, none⟩) (fn_ hw169_3 GW170.out) _).trans (hHeld.2.2.2.2.2.2.2.2.1)))))))))), ((cell_far (p := ⟨gb170, _, none⟩) (fn_ hw169_4 GW170.out) _).trans (((cell_far (p := ⟨gb170, _, none⟩) (fn_ hw169_4 GW170.out) _).trans (((cell_far (p := ⟨gb170, _, none⟩) (fn_ hw169_4 GW170.out) _).trans (((cell_far (p := ⟨gb170, _, none⟩) (fn_ hw169_4 GW170.out) _).trans (((cell_far (p := ⟨gb170, _, none⟩) (fn_ hw169_4 GW170.out) _).trans (hHeld.2.2.2.2.2.2.2.2.2))))))))))⟩ (fun hHeld => ?_)
           clear hK K
           refine one_ (i := 11) (N := none) #[true, true, true, true, true, true, true, true, true, true, true, true] rfl rfl (one_of HT_.out (by kernel_rfl)) (by decide) (fun K hK => ?_)
           have hs64 : w58.cell? ⟨gb171, 0, none⟩ = some (.int .i64 0) := (blk_cell BK171.out 0).trans rfl
           have hfs64 := blk_frozen BK171.out 0
           have hns64_0 := NB170_171.out
           have hms64_0 := NB171_170.out
           have hs65 : w58.cell? ⟨gb171, 1, none⟩ = some (.int .i64 0) := (blk_cell BK171.out 1).trans rfl
           have hfs65 := blk_frozen BK171.out 1
           have hns65_0 := NB170_171.out
           have hms65_0 := NB171_170.out
           have hs66 : w58.cell? ⟨gb171, 2, none⟩ = some (.int .i64 0) := (blk_cell BK171.out 2).trans rfl
           have hfs66 := blk_frozen BK171.out 2
           have hns66_0 := NB170_171.out
           have hms66_0 := NB171_170.out
           have hs67 : w58.cell? ⟨gb171, 3, none⟩ = some (.int .i64 0) := (blk_cell BK171.out 3).trans rfl
           have hfs67 := blk_frozen BK171.out 3
           have hns67_0 := NB170_171.out
           have hms67_0 := NB171_170.out
           have hs68 : w58.cell? ⟨gb171, 4, none⟩ = some (.int .i64 0) := (blk_cell BK171.out 4).trans rfl
           have hfs68 := blk_frozen BK171.out 4
           have hns68_0 := NB170_171.out
           have hms68_0 := NB171_170.out
           refine skip_ (w1 := ?_) (by rfl) rfl ?_ ?_
           rotate_left
           ·go_simp
            rfl
           refine hK.out _ _ ⟨((cell_far (p := ⟨gb171, _, none⟩) (fn_ hw168_0 GW171.out) _).trans (((cell_far (p := ⟨gb171, _, none⟩) (fn_ hw168_0 GW171.out) _).trans (((cell_far (p := ⟨gb171, _, none⟩) (fn_ hw168_0 GW171.out) _).trans (((cell_far (p := ⟨gb171, _, none⟩) (fn_ hw168_0 GW171.out) _).trans (((cell_far (p := ⟨gb171, _, none⟩) (fn_ hw168_0 GW171.out) _).trans (hHeld.1)))))))))), ((cell_far (p := ⟨gb171, _, none⟩) (fn_ hw168_1 GW171.out) _).trans (((cell_far (p := ⟨gb171, _, none⟩) (fn_ hw168_1 GW171.out) _).trans (((cell_far (p := ⟨gb171, _, none⟩) (fn_ hw168_1 GW171.out) _).trans (((cell_far (p := ⟨gb171, _, none⟩) (fn_ hw168_1 GW171.out) _).trans (((cell_far (p := ⟨gb171, _, none⟩) (fn_ hw168_1 GW171.out) _).trans (hHeld.2.1)))))))))), ((cell_far (p := ⟨gb171, _, none⟩) (fn_ hw168_2 GW171.out) _).trans (((cell_far (p := ⟨gb171, _, none⟩) (fn_ hw168_2 GW171.out) _).trans (((cell_far (p := ⟨gb171, _, none⟩) (fn_ hw168_2 GW171.out) _).trans (((cell_far (p := ⟨gb171, _, none⟩) (fn_ hw168_2 GW171.out) _).trans (((cell_far (p := ⟨gb171, _, none⟩) (fn_ hw168_2 GW171.out) _).trans (hHeld.2.2.1)))))))))), ((cell_far (p := ⟨gb171, _, none⟩) (fn_ hw168_3 GW171.out) _).trans (((cell_far (p := ⟨gb171, _, none⟩) (fn_ hw168_3 GW171.out) _).trans (((cell_far (p := ⟨gb171, _, none⟩) (fn_ hw168_3 GW171.out) _).trans (((cell_far (p := ⟨gb171, _, none⟩) (fn_ hw168_3 GW171.out) _).trans (((cell_far (p := ⟨gb171, _, none⟩) (fn_ hw168_3 GW171.out) _).trans (hHeld.2.2.2.1)))))))))), ((cell_far (p := ⟨gb171, _, none⟩) (fn_ hw168_4 GW171.out) _).trans (((cell_far (p := ⟨gb171, _, none⟩) (fn_ hw168_4 GW171.out) _).trans (((cell_far (p := ⟨gb171, _, none⟩) (fn_ hw168_4 GW171.out) _).trans (((cell_far (p := ⟨gb171, _, none⟩) (fn_ hw168_4 GW171.out) _).trans (((cell_far (p := ⟨gb171, _, none⟩) (fn_ hw168_4 GW171.out) _).trans (hHeld.2.2.2.2.1)))))))))), ((cell_far (p := ⟨gb171, _, none⟩) (fn_ hw169_0 GW171.out) _).trans (((cell_far (p := ⟨gb171, _, none⟩) (fn_ hw169_0 GW171.out) _).trans (((cell_far (p := ⟨gb171, _, none⟩) (fn_ hw169_0 GW171.out) _).trans (((cell_far (p := ⟨gb171, _, none⟩) (fn_ hw169_0 GW171.out) _).trans (((cell_far (p := ⟨gb171, _, none⟩) (fn_ hw169_0 GW171.out) _).trans (hHeld.2.2.2.2.2.1)))))))))), ((cell_far (p := ⟨gb171, _, none⟩) (fn_ hw169_1 GW171.out) _).trans (((cell_far (p := ⟨gb171, _, none⟩) (fn_ hw169_1 GW171.out) _).trans (((cell_far (p := ⟨gb171, _, none⟩) (fn_ hw169_1 GW171.out) _).trans (((cell_far (p := ⟨gb171, _, none⟩) (fn_ hw169_1 GW171.out) _).trans (((cell_far (p := ⟨gb171, _, none⟩) (fn_ hw169_1 GW171.out) _).trans (hHeld.2.2.2.2.2.2.1)))))))))), ((cell_far (p := ⟨gb171, _, none⟩) (fn_ hw169_2 GW171.out) _).trans (((cell_far (p := ⟨gb171, _, none⟩) (fn_ hw169_2 GW171.out) _).trans (((cell_far (p := ⟨gb171, _, none⟩) (fn_ hw169_2 GW171.out) _).trans (((cell_far (p := ⟨gb171, _, none⟩) (fn_ hw169_2 GW171.out) _).trans (((cell_far (p := ⟨gb171, _, none⟩) (fn_ hw169_2 GW171.out) _).trans (hHeld.2.2.2.2.2.2.2.1)))))))))), ((cell_far (p := ⟨gb171, _, none⟩) (fn_ hw169_3 GW171.out) _).trans (((cell_far (p := ⟨gb171, _, none⟩) (fn_ hw169_3 GW171.out) _).trans (((cell_far (p := ⟨gb171, _, none⟩) (fn_ hw169_3 GW171.out) _).trans (((cell_far (p := ⟨gb171, _, none⟩) (fn_ hw169_3 GW171.out) _).trans (((cell_far (p := ⟨gb171, _, none⟩) (fn_ hw169_3 GW171.out) _).trans (hHeld.2.2.2.2.2.2.2.2.1)))))))))), ((cell_far (p := ⟨gb171, _, none⟩) (fn_ hw169_4 GW171.out) _).trans (((cell_far (p := ⟨gb171, _, none⟩) (fn_ hw169_4 GW171.out) _).trans (((cell_far (p := ⟨gb171, _, none⟩) (fn_ hw169_4 GW171.out) _).trans (((cell_far (p := ⟨gb171, _, none⟩) (fn_ hw169_4 GW171.out) _).trans (((cell_far (p := ⟨gb171, _, none⟩) (fn_ hw169_4 GW171.out) _).trans (hHeld.2.2.2.2.2.2.2.2.2))))))))))⟩ (fun hHeld => ?_)
           clear hK K
           refine done_ (done_of HT_.out (by kernel_rfl)) ?_
           have hnb69 := NB170_171.out
           have hnc69 := NB171_170.out
           have hcz70_0 : w58.cell? ⟨gb170, 0, none⟩ = some (.int .i64 0) := (blk_cell BK170.out 0).trans rfl
           have hcz70_1 : w58.cell? ⟨gb170, 1, none⟩ = some (.int .i64 0) := (blk_cell BK170.out 1).trans rfl
           have hcz70_2 : w58.cell? ⟨gb170, 2, none⟩ = some (.int .i64 0) := (blk_cell BK170.out 2).trans rfl
           have hcz70_3 : w58.cell? ⟨gb170, 3, none⟩ = some (.int .i64 0) := (blk_cell BK170.out 3).trans rfl
           have hcz70_4 : w58.cell? ⟨gb170, 4, none⟩ = some (.int .i64 0) := (blk_cell BK170.out 4).trans rfl
           have hfz70_0 := blk_frozen BK170.out 0
           have hfz70_1 := blk_frozen BK170.out 1
           have hfz70_2 := blk_frozen BK170.out 2
           have hfz70_3 := blk_frozen BK170.out 3
           have hfz70_4 := blk_frozen BK170.out 4
           have hcz71_0 : w58.cell? ⟨gb171, 0, none⟩ = some (.int .i64 0) := (blk_cell BK171.out 0).trans rfl
           have hcz71_1 : w58.cell? ⟨gb171, 1, none⟩ = some (.int .i64 0) := (blk_cell BK171.out 1).trans rfl
           have hcz71_2 : w58.cell? ⟨gb171, 2, none⟩ = some (.int .i64 0) := (blk_cell BK171.out 2).trans rfl
           have hcz71_3 : w58.cell? ⟨gb171, 3, none⟩ = some (.int .i64 0) := (blk_cell BK171.out 3).trans rfl
           have hcz71_4 : w58.cell? ⟨gb171, 4, none⟩ = some (.int .i64 0) := (blk_cell BK171.out 4).trans rfl
           have hfz71_0 := blk_frozen BK171.out 0
           have hfz71_1 := blk_frozen BK171.out 1
           have hfz71_2 := blk_frozen BK171.out 2
           have hfz71_3 := blk_frozen BK171.out 3
           have hfz71_4 := blk_frozen BK171.out 4
           try go_wp2
           go_roundg k2
           case measure => have := HK1.out; have := HK2.out; omega
           case rel => exact ⟨(x4_2), (wrap64 (x6_2 + 1)), (by first | rfl | (simp; done) | (simp [*]; done)), H', ⟨by have := HK1.out; have := HK2.out; omega⟩, ⟨by (with_reducible repeat (first | apply Kd.S_alloc | apply Kd.S_drewN | apply Kd.S_drew)); exact Kd.S_mono (Kd.S_far (p := ⟨gb171, 4, none⟩) (Kd.S_far (p := ⟨gb171, 3, none⟩) (Kd.S_far (p := ⟨gb171, 2, none⟩) (Kd.S_far (p := ⟨gb171, 1, none⟩) (Kd.S_far (p := ⟨gb171, 0, none⟩) (Kd.S_far (p := ⟨gb170, 4, none⟩) (Kd.S_far (p := ⟨gb170, 3, none⟩) (Kd.S_far (p := ⟨gb170, 2, none⟩) (Kd.S_far (p := ⟨gb170, 1, none⟩) (Kd.S_far (p := ⟨gb170, 0, none⟩) (Kd.S_types (Kd.S_types HO_4.out BK170.out (by decide)) BK171.out (by decide)) (fun _ hk => hk.1.2) (.int .i64 ((rd_T83 l0 x5_1).f0))) (fun _ hk => hk.1.2) (.int .i64 ((rd_T83 l0 x5_1).f1))) (fun _ hk => hk.1.2) (.int .i64 ((rd_T83 l0 x5_1).f2))) (fun _ hk => hk.1.2) (.int .i64 ((rd_T83 l0 x5_1).f3))) (fun _ hk => hk.1.2) (.int .i64 ((rd_T83 l0 x5_1).f4))) (fun _ hk => hk.2) (.int .i64 ((rd_T83 l0 x6_2).f0))) (fun _ hk => hk.2) (.int .i64 ((rd_T83 l0 x6_2).f1))) (fun _ hk => hk.2) (.int .i64 ((rd_T83 l0 x6_2).f2))) (fun _ hk => hk.2) (.int .i64 ((rd_T83 l0 x6_2).f3))) (fun _ hk => hk.2) (.int .i64 ((rd_T83 l0 x6_2).f4))) (fun _ hk => trivial)⟩, ⟨by repeat (first | (with_reducible first | exact HB.out | apply below_alloc | apply pw_below_drewN | apply below_drew1 | refine below_set ?_ GE170.out | refine below_set ?_ GE171.out) | exact HB.out)⟩⟩
         ·rw [if_neg c13] at H
          have c13b0 : decide (((rd_T83 l0 x6_2).f1) ≤ (wrap64 (((rd_T83 l0 x5_1).f1) + ((rd_T83 l0 x5_1).f3)))) = false := decide_eq_false c13
          clear c13
          have H' := Aside0.mk H
          clear H
          try go_wp2
          have n0_ := Aside0.mk (Kd.S_drew HO_4.out)
          have n1_ := Aside0.mk (below_drew1 HB.out)
          clear HO_4
          clear HB
          have HO_4 := n0_
          have HB := n1_
          clear n0_ n1_
          have p168 : 0 ≤ (x5_1 : Int) := od_
          have q168 : x5_1 < (l0.length : Int) := od_
          obtain ⟨ad168, e168, hx168_0, hx168_1, hx168_2, hx168_3, hx168_4⟩ := at_T83 HR0.out x5_1 p168 q168
          have hw168_4 := hx168_4
          have hw168_3 := hx168_3
          have hw168_2 := hx168_2
          have hw168_1 := hx168_1
          have hw168_0 := hx168_0
          cases e168
          replace hx168_0 := (HB.out.cell (World.block_lt_of_cell? w _ hx168_0)).trans hx168_0
          replace hx168_1 := (HB.out.cell (World.block_lt_of_cell? w _ hx168_1)).trans hx168_1
          replace hx168_2 := (HB.out.cell (World.block_lt_of_cell? w _ hx168_2)).trans hx168_2
          replace hx168_3 := (HB.out.cell (World.block_lt_of_cell? w _ hx168_3)).trans hx168_3
          replace hx168_4 := (HB.out.cell (World.block_lt_of_cell? w _ hx168_4)).trans hx168_4
          replace p168 := eq_true p168
          replace q168 := eq_true q168
          have p169 : 0 ≤ (x6_2 : Int) := od_
          have q169 : x6_2 < (l0.length : Int) := od_
          obtain ⟨ad169, e169, hx169_0, hx169_1, hx169_2, hx169_3, hx169_4⟩ := at_T83 HR0.out x6_2 p169 q169
          have hw169_4 := hx169_4
          have hw169_3 := hx169_3
          have hw169_2 := hx169_2
          have hw169_1 := hx169_1
          have hw169_0 := hx169_0
          obtain rfl : ad168 = ad169 := (by injection e169)
          replace hx169_0 := (HB.out.cell (World.block_lt_of_cell? w _ hx169_0)).trans hx169_0
          replace hx169_1 := (HB.out.cell (World.block_lt_of_cell? w _ hx169_1)).trans hx169_1
          replace hx169_2 := (HB.out.cell (World.block_lt_of_cell? w _ hx169_2)).trans hx169_2
          replace hx169_3 := (HB.out.cell (World.block_lt_of_cell? w _ hx169_3)).trans hx169_3
          replace hx169_4 := (HB.out.cell (World.block_lt_of_cell? w _ hx169_4)).trans hx169_4
          replace p169 := eq_true p169
          replace q169 := eq_true q169
          refine start_ (n := 12) (S := fun w' => w'.cell? (ad168.add ((x5_1).toNat * 5)) = some (.int .i64 ((rd_T83 l0 x5_1).f0)) ∧ w'.cell? ⟨(ad168.add ((x5_1).toNat * 5)).block, (ad168.add ((x5_1).toNat * 5)).off + 1, none⟩ = some (.int .i64 ((rd_T83 l0 x5_1).f1)) ∧ w'.cell? ⟨(ad168.add ((x5_1).toNat * 5)).block, (ad168.add ((x5_1).toNat * 5)).off + 2, none⟩ = some (.int .i64 ((rd_T83 l0 x5_1).f2)) ∧ w'.cell? ⟨(ad168.add ((x5_1).toNat * 5)).block, (ad168.add ((x5_1).toNat * 5)).off + 3, none⟩ = some (.int .i64 ((rd_T83 l0 x5_1).f3)) ∧ w'.cell? ⟨(ad168.add ((x5_1).toNat * 5)).block, (ad168.add ((x5_1).toNat * 5)).off + 4, none⟩ = some (.int .i64 ((rd_T83 l0 x5_1).f4)) ∧ w'.cell? (ad168.add ((x6_2).toNat * 5)) = some (.int .i64 ((rd_T83 l0 x6_2).f0)) ∧ w'.cell? ⟨(ad168.add ((x6_2).toNat * 5)).block, (ad168.add ((x6_2).toNat * 5)).off + 1, none⟩ = some (.int .i64 ((rd_T83 l0 x6_2).f1)) ∧ w'.cell? ⟨(ad168.add ((x6_2).toNat * 5)).block, (ad168.add ((x6_2).toNat * 5)).off + 2, none⟩ = some (.int .i64 ((rd_T83 l0 x6_2).f2)) ∧ w'.cell? ⟨(ad168.add ((x6_2).toNat * 5)).block, (ad168.add ((x6_2).toNat * 5)).off + 3, none⟩ = some (.int .i64 ((rd_T83 l0 x6_2).f3)) ∧ w'.cell? ⟨(ad168.add ((x6_2).toNat * 5)).block, (ad168.add ((x6_2).toNat * 5)).off + 4, none⟩ = some (.int .i64 ((rd_T83 l0 x6_2).f4))) (ds := []) #[false, false, false, false, false, false, false, false, false, false, false, false] (by kernel_rfl) rfl rfl ⟨((HB.out.cell (World.block_lt_of_cell? w _ hw168_0)).trans hw168_0), ((HB.out.cell (World.block_lt_of_cell? w _ hw168_1)).trans hw168_1), ((HB.out.cell (World.block_lt_of_cell? w _ hw168_2)).trans hw168_2), ((HB.out.cell (World.block_lt_of_cell? w _ hw168_3)).trans hw168_3), ((HB.out.cell (World.block_lt_of_cell? w _ hw168_4)).trans hw168_4), ((HB.out.cell (World.block_lt_of_cell? w _ hw169_0)).trans hw169_0), ((HB.out.cell (World.block_lt_of_cell? w _ hw169_1)).trans hw169_1), ((HB.out.cell (World.block_lt_of_cell? w _ hw169_2)).trans hw169_2), ((HB.out.cell (World.block_lt_of_cell? w _ hw169_3)).trans hw169_3), ((HB.out.cell (World.block_lt_of_cell? w _ hw169_4)).trans hw169_4)⟩ (fun hHeld => ?_); refine with_tabW spec_OverlappingAreas.tab10 spec_OverlappingAreas.bits10 (fun HT_ HW_ => ?_)
          generalize wr.drew = w72 at HO_4 HB hx168_0 hx168_1 hx168_2 hx168_3 hx168_4 hx169_0 hx169_1 hx169_2 hx169_3 hx169_4 hHeld ⊢
          refine pure_ (i := 0) (N := some 27) (v := ?_) (a' := ?_) #[true, false, false, false, false, false, false, false, false, false, false, false] rfl rfl (any_of HT_.out (by kernel_rfl)) (fun _ _ _ h => h) (Or.inl ⟨by rfl, ?_⟩) ?_ ?_
          rotate_left
          ·intro w'
           go_simp
           with_reducible rfl
          rotate_left
          ·simp only [pz_]
           rfl
          refine pure_ (i := 1) (N := some 28) (v := ?_) (a' := ?_) #[true, true, false, false, false, false, false, false, false, false, false, false] rfl rfl (any_of HT_.out (by kernel_rfl)) (fun _ _ _ h => h) (Or.inl ⟨by rfl, ?_⟩) ?_ ?_
          rotate_left
          ·intro w'
           go_simp
           with_reducible rfl
          rotate_left
          ·simp only [pz_]
           rfl
          refine pure_ (i := 2) (N := some 29) (v := ?_) (a' := ?_) #[true, true, true, false, false, false, false, false, false, false, false, false] rfl rfl (any_of HT_.out (by kernel_rfl)) (fun _ _ _ h => h) (Or.inl ⟨by rfl, ?_⟩) ?_ ?_
          rotate_left
          ·intro w'
           go_simp
           with_reducible rfl
          rotate_left
          ·simp only [pz_]
           rfl
          refine pure_ (i := 4) (N := some 31) (v := ?_) (a' := ?_) #[true, true, true, false, true, false, false, false, false, false, false, false] rfl rfl (any_of HT_.out (by kernel_rfl)) (fun _ _ _ h => h) (Or.inl ⟨by rfl, ?_⟩) ?_ ?_
          rotate_left
          ·intro w'
           go_simp
           with_reducible rfl
          rotate_left
          ·simp only [pz_]
           rfl
          refine pure_ (i := 5) (N := some 32) (v := ?_) (a' := ?_) #[true, true, true, false, true, true, false, false, false, false, false, false] rfl rfl (any_of HT_.out (by kernel_rfl)) (fun _ _ _ h => h) (Or.inl ⟨by rfl, ?_⟩) ?_ ?_
          rotate_left
          ·intro w'
           go_simp
           with_reducible rfl
          rotate_left
          ·simp only [pz_]
           rfl
          refine pure_ (i := 6) (N := some 33) (v := ?_) (a' := ?_) #[true, true, true, false, true, true, true, false, false, false, false, false] rfl rfl (any_of HT_.out (by kernel_rfl)) (fun _ _ _ h => h) (Or.inl ⟨by rfl, ?_⟩) ?_ ?_
          rotate_left
          ·intro w'
           go_simp
           with_reducible rfl
          rotate_left
          ·simp only [pz_]
           rfl
          refine take_ (i := 3) (N := some 30) (v := ?_) (a' := ?_) #[true, true, true, true, true, true, true, false, false, false, false, false] rfl rfl (take_ofW HT_.out HW_.out (by kernel_rfl)) (fun _ _ _ h => h) (Or.inl ⟨by rfl, ?_⟩) hHeld ?_ ?_
          rotate_left
          ·rintro w' ⟨s0, s1, s2, s3, s4, s5, s6, s7, s8, s9⟩
           go_simp
           with_reducible rfl
          rotate_left
          ·simp only [pz_]
           rfl
          refine take_ (i := 7) (N := some 34) (v := ?_) (a' := ?_) #[true, true, true, true, true, true, true, true, false, false, false, false] rfl rfl (take_ofW HT_.out HW_.out (by kernel_rfl)) (fun _ _ _ h => h) (Or.inl ⟨by rfl, ?_⟩) hHeld ?_ ?_
          rotate_left
          ·rintro w' ⟨s0, s1, s2, s3, s4, s5, s6, s7, s8, s9⟩
           go_simp
           with_reducible rfl
          rotate_left
          ·simp only [pz_]
           rfl
          refine join_ (σ := Nat × Nat) 2 #[true, true, true, true, true, true, true, true, true, true, false, false] (fun s_ => [(7, .pointer (some ⟨s_.1, 0, none⟩)), (8, .pointer (some ⟨s_.2, 0, none⟩))]) (fun s_ w' => (w'.cell? (ad168.add ((x5_1).toNat * 5)) = some (.int .i64 ((rd_T83 l0 x5_1).f0)) ∧ w'.cell? ⟨(ad168.add ((x5_1).toNat * 5)).block, (ad168.add ((x5_1).toNat * 5)).off + 1, none⟩ = some (.int .i64 ((rd_T83 l0 x5_1).f1)) ∧ w'.cell? ⟨(ad168.add ((x5_1).toNat * 5)).block, (ad168.add ((x5_1).toNat * 5)).off + 2, none⟩ = some (.int .i64 ((rd_T83 l0 x5_1).f2)) ∧ w'.cell? ⟨(ad168.add ((x5_1).toNat * 5)).block, (ad168.add ((x5_1).toNat * 5)).off + 3, none⟩ = some (.int .i64 ((rd_T83 l0 x5_1).f3)) ∧ w'.cell? ⟨(ad168.add ((x5_1).toNat * 5)).block, (ad168.add ((x5_1).toNat * 5)).off + 4, none⟩ = some (.int .i64 ((rd_T83 l0 x5_1).f4)) ∧ w'.cell? (ad168.add ((x6_2).toNat * 5)) = some (.int .i64 ((rd_T83 l0 x6_2).f0)) ∧ w'.cell? ⟨(ad168.add ((x6_2).toNat * 5)).block, (ad168.add ((x6_2).toNat * 5)).off + 1, none⟩ = some (.int .i64 ((rd_T83 l0 x6_2).f1)) ∧ w'.cell? ⟨(ad168.add ((x6_2).toNat * 5)).block, (ad168.add ((x6_2).toNat * 5)).off + 2, none⟩ = some (.int .i64 ((rd_T83 l0 x6_2).f2)) ∧ w'.cell? ⟨(ad168.add ((x6_2).toNat * 5)).block, (ad168.add ((x6_2).toNat * 5)).off + 3, none⟩ = some (.int .i64 ((rd_T83 l0 x6_2).f3)) ∧ w'.cell? ⟨(ad168.add ((x6_2).toNat * 5)).block, (ad168.add ((x6_2).toNat * 5)).off + 4, none⟩ = some (.int .i64 ((rd_T83 l0 x6_2).f4))) ∧ (Kd.S (Kd.slice 2 (Kd.int .i64)) 24 w' w.heap.size (fun _ => True) u4 x4_2) ∧ (w'.heap[s_.1]? = some (.cells #[.int .i64 0, .int .i64 0, .int .i64 0, .int .i64 0, .int .i64 0] 83 (0, 0))) ∧ (w'.heap[s_.2]? = some (.cells #[.int .i64 0, .int .i64 0, .int .i64 0, .int .i64 0, .int .i64 0] 83 (0, 0))) ∧ (w.heap.size ≤ s_.1) ∧ (w.heap.size ≤ s_.1) ∧ (s_.2 ≠ s_.1) ∧ (s_.1 ≠ s_.2) ∧ (w.heap.size ≤ s_.2) ∧ (w.heap.size ≤ s_.2) ∧ (Below w.heap.size w w')) ?_ ?_
          rotate_left
          ·intro hCont
           refine two_ (i := 8) (j := 9) (Ni := some 7) (Nj := some 8) #[true, true, true, true, true, true, true, true, true, false, false, false] #[true, true, true, true, true, true, true, true, false, true, false, false] rfl rfl rfl rfl (two_of HT_.out (by kernel_rfl)) (by decide) (by decide) (fun K hK => ?_) (fun K hK => ?_)
           ·skip
            refine box_step ?hg (N := 7) ?hd (cs := #[.int .i64 0, .int .i64 0, .int .i64 0, .int .i64 0, .int .i64 0]) (t := 83) ?hr ?_; (case hd => rfl); (case hg => rfl); (case hr => first | (go_simp; done) | (go_simp; rfl))
            intro gb170 hg w73 hbox hb
            have n0_ := Aside0.mk (Kd.S_below (by (with_reducible repeat (first | apply Kd.S_alloc | apply Kd.S_drewN | apply Kd.S_drew)); exact HO_4.out) hb)
            have n1_ := Aside0.mk (below_step (bl_ HB.out) hb)
            have n2_ := Aside0.mk (hbox)
            have n3_ := Aside0.mk ((by rw [hg]; exact (below_size (bl_ HB.out)) : w.heap.size ≤ gb170))
            have n4_ := Aside0.mk ((by rw [hg]; exact (below_size (bl_ HB.out)) : w.heap.size ≤ gb170))
            clear HO_4
            clear HB
            have HO_4 := n0_
            have HB := n1_
            have BK170 := n2_
            have GW170 := n3_
            have GE170 := n4_
            clear n0_ n1_ n2_ n3_ n4_
            clear hb hbox hg
            refine hK.out _ _ ⟨((HB.out.cell (World.block_lt_of_cell? w _ hw168_0)).trans hw168_0), ((HB.out.cell (World.block_lt_of_cell? w _ hw168_1)).trans hw168_1), ((HB.out.cell (World.block_lt_of_cell? w _ hw168_2)).trans hw168_2), ((HB.out.cell (World.block_lt_of_cell? w _ hw168_3)).trans hw168_3), ((HB.out.cell (World.block_lt_of_cell? w _ hw168_4)).trans hw168_4), ((HB.out.cell (World.block_lt_of_cell? w _ hw169_0)).trans hw169_0), ((HB.out.cell (World.block_lt_of_cell? w _ hw169_1)).trans hw169_1), ((HB.out.cell (World.block_lt_of_cell? w _ hw169_2)).trans hw169_2), ((HB.out.cell (World.block_lt_of_cell? w _ hw169_3)).trans hw169_3), ((HB.out.cell (World.block_lt_of_cell? w _ hw169_4)).trans hw169_4)⟩ (fun hHeld => ?_)
            clear hK K
            refine norm_ (a' := ?_) ?_ ?_
            rotate_left
            ·show Act.put _ (some 7) _ = _
             simp only [pz_]
             rfl
            refine one_ (i := 9) (N := some 8) #[true, true, true, true, true, true, true, true, true, true, false, false] rfl rfl (one_of HT_.out (by kernel_rfl)) (by decide) (fun K hK => ?_)
            refine box_step ?hg (N := 8) ?hd (cs := #[.int .i64 0, .int .i64 0, .int .i64 0, .int .i64 0, .int .i64 0]) (t := 83) ?hr ?_; (case hd => rfl); (case hg => rfl); (case hr => first | (go_simp; done) | (go_simp; rfl))
            intro gb171 hg w74 hbox hb
            have n0_ := Aside0.mk (Kd.S_below (by (with_reducible repeat (first | apply Kd.S_alloc | apply Kd.S_drewN | apply Kd.S_drew)); exact HO_4.out) hb)
            have n1_ := Aside0.mk (blk_below (g := gb170) (o := .cells #[.int .i64 0, .int .i64 0, .int .i64 0, .int .i64 0, .int .i64 0] 83 (0, 0)) (by (with_reducible repeat (first | refine blk_drewN ?_ _ | refine blk_drew ?_ | refine blk_alloc ?_ _)); exact BK170.out) hb)
            have n2_ := Aside0.mk (below_step (by repeat (first | (with_reducible first | exact HB.out | apply below_alloc | apply pw_below_drewN | apply below_drew1 | refine below_set ?_ GE170.out) | exact HB.out)) hb)
            have n3_ := Aside0.mk (hbox)
            have n4_ := Aside0.mk ((by rw [hg]; exact (below_size (by repeat (first | (with_reducible first | exact HB.out | apply below_alloc | apply pw_below_drewN | apply below_drew1 | refine below_set ?_ GE170.out) | exact HB.out))) : w.heap.size ≤ gb171))
            have n5_ := Aside0.mk ((by rw [hg]; exact (below_size (by repeat (first | (with_reducible first | exact HB.out | apply below_alloc | apply pw_below_drewN | apply below_drew1 | refine below_set ?_ GE170.out) | exact HB.out))) : w.heap.size ≤ gb171))
            have n6_ := Aside0.mk ((by rw [hg]; exact Nat.ne_of_lt (blk_lt (g := gb170) (o := .cells #[.int .i64 0, .int .i64 0, .int .i64 0, .int .i64 0, .int .i64 0] 83 (0, 0)) (by (with_reducible repeat (first | refine blk_drewN ?_ _ | refine blk_drew ?_ | refine blk_alloc ?_ _)); exact BK170.out)) : gb170 ≠ gb171))
            have n7_ := Aside0.mk ((by rw [hg]; exact Nat.ne_of_gt (blk_lt (g := gb170) (o := .cells #[.int .i64 0, .int .i64 0, .int .i64 0, .int .i64 0, .int .i64 0] 83 (0, 0)) (by (with_reducible repeat (first | refine blk_drewN ?_ _ | refine blk_drew ?_ | refine blk_alloc ?_ _)); exact BK170.out)) : gb171 ≠ gb170))
            clear HO_4
            clear BK170
            clear HB
            have HO_4 := n0_
            have BK170 := n1_
            have HB := n2_
            have BK171 := n3_
            have GW171 := n4_
            have GE171 := n5_
            have NB170_171 := n6_
            have NB171_170 := n7_
            clear n0_ n1_ n2_ n3_ n4_ n5_ n6_ n7_
            clear hb hbox hg
            refine hK.out _ _ ⟨((HB.out.cell (World.block_lt_of_cell? w _ hw168_0)).trans hw168_0), ((HB.out.cell (World.block_lt_of_cell? w _ hw168_1)).trans hw168_1), ((HB.out.cell (World.block_lt_of_cell? w _ hw168_2)).trans hw168_2), ((HB.out.cell (World.block_lt_of_cell? w _ hw168_3)).trans hw168_3), ((HB.out.cell (World.block_lt_of_cell? w _ hw168_4)).trans hw168_4), ((HB.out.cell (World.block_lt_of_cell? w _ hw169_0)).trans hw169_0), ((HB.out.cell (World.block_lt_of_cell? w _ hw169_1)).trans hw169_1), ((HB.out.cell (World.block_lt_of_cell? w _ hw169_2)).trans hw169_2), ((HB.out.cell (World.block_lt_of_cell? w _ hw169_3)).trans hw169_3), ((HB.out.cell (World.block_lt_of_cell? w _ hw169_4)).trans hw169_4)⟩ (fun hHeld => ?_)
            clear hK K
            refine norm_ (a' := ?_) ?_ ?_
            rotate_left
            ·show Act.put _ (some 8) _ = _
             simp only [pz_]
             rfl
            exact norm_ (by simp only [putAll, Act.put, List.setIfInBounds_toArray, List.set_cons_zero, List.set_cons_succ]) (hCont (gb170, gb171) _ ⟨hHeld, (by (with_reducible repeat (first | apply Kd.S_alloc | apply Kd.S_drewN | apply Kd.S_drew)); exact HO_4.out), (by (with_reducible repeat (first | refine blk_drewN ?_ _ | refine blk_drew ?_ | refine blk_alloc ?_ _)); exact BK170.out), (by (with_reducible repeat (first | refine blk_drewN ?_ _ | refine blk_drew ?_ | refine blk_alloc ?_ _)); exact BK171.out), GW170.out, GE170.out, NB171_170.out, NB170_171.out, GW171.out, GE171.out, (by repeat (first | (with_reducible first | exact HB.out | apply below_alloc | apply pw_below_drewN | apply below_drew1 | refine below_set ?_ GE170.out | refine below_set ?_ GE171.out) | exact HB.out))⟩)
           ·skip
            refine box_step ?hg (N := 8) ?hd (cs := #[.int .i64 0, .int .i64 0, .int .i64 0, .int .i64 0, .int .i64 0]) (t := 83) ?hr ?_; (case hd => rfl); (case hg => rfl); (case hr => first | (go_simp; done) | (go_simp; rfl))
            intro gb171 hg w73 hbox hb
            have n0_ := Aside0.mk (Kd.S_below (by (with_reducible repeat (first | apply Kd.S_alloc | apply Kd.S_drewN | apply Kd.S_drew)); exact HO_4.out) hb)
            have n1_ := Aside0.mk (below_step (bl_ HB.out) hb)
            have n2_ := Aside0.mk (hbox)
            have n3_ := Aside0.mk ((by rw [hg]; exact (below_size (bl_ HB.out)) : w.heap.size ≤ gb171))
            have n4_ := Aside0.mk ((by rw [hg]; exact (below_size (bl_ HB.out)) : w.heap.size ≤ gb171))
            clear HO_4
            clear HB
            have HO_4 := n0_
            have HB := n1_
            have BK171 := n2_
            have GW171 := n3_
            have GE171 := n4_
            clear n0_ n1_ n2_ n3_ n4_
            clear hb hbox hg
            refine hK.out _ _ ⟨((HB.out.cell (World.block_lt_of_cell? w _ hw168_0)).trans hw168_0), ((HB.out.cell (World.block_lt_of_cell? w _ hw168_1)).trans hw168_1), ((HB.out.cell (World.block_lt_of_cell? w _ hw168_2)).trans hw168_2), ((HB.out.cell (World.block_lt_of_cell? w _ hw168_3)).trans hw168_3), ((HB.out.cell (World.block_lt_of_cell? w _ hw168_4)).trans hw168_4), ((HB.out.cell (World.block_lt_of_cell? w _ hw169_0)).trans hw169_0), ((HB.out.cell (World.block_lt_of_cell? w _ hw169_1)).trans hw169_1), ((HB.out.cell (World.block_lt_of_cell? w _ hw169_2)).trans hw169_2), ((HB.out.cell (World.block_lt_of_cell? w _ hw169_3)).trans hw169_3), ((HB.out.cell (World.block_lt_of_cell? w _ hw169_4)).trans hw169_4)⟩ (fun hHeld => ?_)
            clear hK K
            refine norm_ (a' := ?_) ?_ ?_
            rotate_left
            ·show Act.put _ (some 8) _ = _
             simp only [pz_]
             rfl
            refine one_ (i := 8) (N := some 7) #[true, true, true, true, true, true, true, true, true, true, false, false] rfl rfl (one_of HT_.out (by kernel_rfl)) (by decide) (fun K hK => ?_)
            refine box_step ?hg (N := 7) ?hd (cs := #[.int .i64 0, .int .i64 0, .int .i64 0, .int .i64 0, .int .i64 0]) (t := 83) ?hr ?_; (case hd => rfl); (case hg => rfl); (case hr => first | (go_simp; done) | (go_simp; rfl))
            intro gb170 hg w74 hbox hb
            have n0_ := Aside0.mk (Kd.S_below (by (with_reducible repeat (first | apply Kd.S_alloc | apply Kd.S_drewN | apply Kd.S_drew)); exact HO_4.out) hb)
            have n1_ := Aside0.mk (blk_below (g := gb171) (o := .cells #[.int .i64 0, .int .i64 0, .int .i64 0, .int .i64 0, .int .i64 0] 83 (0, 0)) (by (with_reducible repeat (first | refine blk_drewN ?_ _ | refine blk_drew ?_ | refine blk_alloc ?_ _)); exact BK171.out) hb)
            have n2_ := Aside0.mk (below_step (by repeat (first | (with_reducible first | exact HB.out | apply below_alloc | apply pw_below_drewN | apply below_drew1 | refine below_set ?_ GE171.out) | exact HB.out)) hb)
            have n3_ := Aside0.mk (hbox)
            have n4_ := Aside0.mk ((by rw [hg]; exact (below_size (by repeat (first | (with_reducible first | exact HB.out | apply below_alloc | apply pw_below_drewN | apply below_drew1 | refine below_set ?_ GE171.out) | exact HB.out))) : w.heap.size ≤ gb170))
            have n5_ := Aside0.mk ((by rw [hg]; exact (below_size (by repeat (first | (with_reducible first | exact HB.out | apply below_alloc | apply pw_below_drewN | apply below_drew1 | refine below_set ?_ GE171.out) | exact HB.out))) : w.heap.size ≤ gb170))
            have n6_ := Aside0.mk ((by rw [hg]; exact Nat.ne_of_lt (blk_lt (g := gb171) (o := .cells #[.int .i64 0, .int .i64 0, .int .i64 0, .int .i64 0, .int .i64 0] 83 (0, 0)) (by (with_reducible repeat (first | refine blk_drewN ?_ _ | refine blk_drew ?_ | refine blk_alloc ?_ _)); exact BK171.out)) : gb171 ≠ gb170))
            have n7_ := Aside0.mk ((by rw [hg]; exact Nat.ne_of_gt (blk_lt (g := gb171) (o := .cells #[.int .i64 0, .int .i64 0, .int .i64 0, .int .i64 0, .int .i64 0] 83 (0, 0)) (by (with_reducible repeat (first | refine blk_drewN ?_ _ | refine blk_drew ?_ | refine blk_alloc ?_ _)); exact BK171.out)) : gb170 ≠ gb171))
            clear HO_4
            clear BK171
            clear HB
            have HO_4 := n0_
            have BK171 := n1_
            have HB := n2_
            have BK170 := n3_
            have GW170 := n4_
            have GE170 := n5_
            have NB171_170 := n6_
            have NB170_171 := n7_
            clear n0_ n1_ n2_ n3_ n4_ n5_ n6_ n7_
            clear hb hbox hg
            refine hK.out _ _ ⟨((HB.out.cell (World.block_lt_of_cell? w _ hw168_0)).trans hw168_0), ((HB.out.cell (World.block_lt_of_cell? w _ hw168_1)).trans hw168_1), ((HB.out.cell (World.block_lt_of_cell? w _ hw168_2)).trans hw168_2), ((HB.out.cell (World.block_lt_of_cell? w _ hw168_3)).trans hw168_3), ((HB.out.cell (World.block_lt_of_cell? w _ hw168_4)).trans hw168_4), ((HB.out.cell (World.block_lt_of_cell? w _ hw169_0)).trans hw169_0), ((HB.out.cell (World.block_lt_of_cell? w _ hw169_1)).trans hw169_1), ((HB.out.cell (World.block_lt_of_cell? w _ hw169_2)).trans hw169_2), ((HB.out.cell (World.block_lt_of_cell? w _ hw169_3)).trans hw169_3), ((HB.out.cell (World.block_lt_of_cell? w _ hw169_4)).trans hw169_4)⟩ (fun hHeld => ?_)
            clear hK K
            refine norm_ (a' := ?_) ?_ ?_
            rotate_left
            ·show Act.put _ (some 7) _ = _
             simp only [pz_]
             rfl
            exact norm_ (by simp only [putAll, Act.put, List.setIfInBounds_toArray, List.set_cons_zero, List.set_cons_succ]) (hCont (gb170, gb171) _ ⟨hHeld, (by (with_reducible repeat (first | apply Kd.S_alloc | apply Kd.S_drewN | apply Kd.S_drew)); exact HO_4.out), (by (with_reducible repeat (first | refine blk_drewN ?_ _ | refine blk_drew ?_ | refine blk_alloc ?_ _)); exact BK170.out), (by (with_reducible repeat (first | refine blk_drewN ?_ _ | refine blk_drew ?_ | refine blk_alloc ?_ _)); exact BK171.out), GW170.out, GE170.out, NB171_170.out, NB170_171.out, GW171.out, GE171.out, (by repeat (first | (with_reducible first | exact HB.out | apply below_alloc | apply pw_below_drewN | apply below_drew1 | refine below_set ?_ GE171.out | refine below_set ?_ GE170.out) | exact HB.out))⟩)
          rintro ⟨gb170, gb171⟩ w75 ⟨hS_, h0_, h1_, h2_, h3_, h4_, h5_, h6_, h7_, h8_, h9_⟩
          have n0_ : Aside0 (Kd.S (Kd.slice 2 (Kd.int .i64)) 24 w75 w.heap.size (fun _ => True) u4 x4_2) := ⟨h0_⟩
          have n1_ : Aside0 (w75.heap[gb170]? = some (.cells #[.int .i64 0, .int .i64 0, .int .i64 0, .int .i64 0, .int .i64 0] 83 (0, 0))) := ⟨h1_⟩
          have n2_ : Aside0 (w75.heap[gb171]? = some (.cells #[.int .i64 0, .int .i64 0, .int .i64 0, .int .i64 0, .int .i64 0] 83 (0, 0))) := ⟨h2_⟩
          have n3_ : Aside0 (w.heap.size ≤ gb170) := ⟨h3_⟩
          have n4_ : Aside0 (w.heap.size ≤ gb170) := ⟨h4_⟩
          have n5_ : Aside0 (gb171 ≠ gb170) := ⟨h5_⟩
          have n6_ : Aside0 (gb170 ≠ gb171) := ⟨h6_⟩
          have n7_ : Aside0 (w.heap.size ≤ gb171) := ⟨h7_⟩
          have n8_ : Aside0 (w.heap.size ≤ gb171) := ⟨h8_⟩
          have n9_ : Aside0 (Below w.heap.size w w75) := ⟨h9_⟩
          clear HO_4
          clear HB
          clear h0_ h1_ h2_ h3_ h4_ h5_ h6_ h7_ h8_ h9_
          have HO_4 := n0_
          have BK170 := n1_
          have BK171 := n2_
          have GW170 := n3_
          have GE170 := n4_
          have NB171_170 := n5_
          have NB170_171 := n6_
          have GW171 := n7_
          have GE171 := n8_
          have HB := n9_
          clear n0_ n1_ n2_ n3_ n4_ n5_ n6_ n7_ n8_ n9_
          have hHeld : w75.cell? (ad168.add ((x5_1).toNat * 5)) = some (.int .i64 ((rd_T83 l0 x5_1).f0)) ∧ w75.cell? ⟨(ad168.add ((x5_1).toNat * 5)).block, (ad168.add ((x5_1).toNat * 5)).off + 1, none⟩ = some (.int .i64 ((rd_T83 l0 x5_1).f1)) ∧ w75.cell? ⟨(ad168.add ((x5_1).toNat * 5)).block, (ad168.add ((x5_1).toNat * 5)).off + 2, none⟩ = some (.int .i64 ((rd_T83 l0 x5_1).f2)) ∧ w75.cell? ⟨(ad168.add ((x5_1).toNat * 5)).block, (ad168.add ((x5_1).toNat * 5)).off + 3, none⟩ = some (.int .i64 ((rd_T83 l0 x5_1).f3)) ∧ w75.cell? ⟨(ad168.add ((x5_1).toNat * 5)).block, (ad168.add ((x5_1).toNat * 5)).off + 4, none⟩ = some (.int .i64 ((rd_T83 l0 x5_1).f4)) ∧ w75.cell? (ad168.add ((x6_2).toNat * 5)) = some (.int .i64 ((rd_T83 l0 x6_2).f0)) ∧ w75.cell? ⟨(ad168.add ((x6_2).toNat * 5)).block, (ad168.add ((x6_2).toNat * 5)).off + 1, none⟩ = some (.int .i64 ((rd_T83 l0 x6_2).f1)) ∧ w75.cell? ⟨(ad168.add ((x6_2).toNat * 5)).block, (ad168.add ((x6_2).toNat * 5)).off + 2, none⟩ = some (.int .i64 ((rd_T83 l0 x6_2).f2)) ∧ w75.cell? ⟨(ad168.add ((x6_2).toNat * 5)).block, (ad168.add ((x6_2).toNat * 5)).off + 3, none⟩ = some (.int .i64 ((rd_T83 l0 x6_2).f3)) ∧ w75.cell? ⟨(ad168.add ((x6_2).toNat * 5)).block, (ad168.add ((x6_2).toNat * 5)).off + 4, none⟩ = some (.int .i64 ((rd_T83 l0 x6_2).f4)) := hS_
          refine norm_ (a' := ?_) ?_ ?_
          rotate_left
          ·simp only [putAll, Act.put, List.setIfInBounds_toArray, List.set_cons_zero, List.set_cons_succ]
           rfl
          refine one_ (i := 10) (N := none) #[true, true, true, true, true, true, true, true, true, true, true, false] rfl rfl (one_of HT_.out (by kernel_rfl)) (by decide) (fun K hK => ?_)
          have hs76 : w75.cell? ⟨gb170, 0, none⟩ = some (.int .i64 0) := (blk_cell BK170.out 0).trans rfl
          have hfs76 := blk_frozen BK170.out 0
          have hns76_1 := NB171_170.out
          have hms76_1 := NB170_171.out
          have hs77 : w75.cell? ⟨gb170, 1, none⟩ = some (.int .i64 0) := (blk_cell BK170.out 1).trans rfl
          have hfs77 := blk_frozen BK170.out 1
          have hns77_1 := NB171_170.out
          have hms77_1 := NB170_171.out
          have hs78 : w75.cell? ⟨gb170, 2, none⟩ = some (.int .i64 0) := (blk_cell BK170.out 2).trans rfl
          have hfs78 := blk_frozen BK170.out 2
          have hns78_1 := NB171_170.out
          have hms78_1 := NB170_171.out
          have hs79 : w75.cell? ⟨gb170, 3, none⟩ = some (.int .i64 0) := (blk_cell BK170.out 3).trans rfl
          have hfs79 := blk_frozen BK170.out 3
          have hns79_1 := NB171_170.out
          have hms79_1 := NB170_171.out
          have hs80 : w75.cell? ⟨gb170, 4, none⟩ = some (.int .i64 0) := (blk_cell BK170.out 4).trans rfl
          have hfs80 := blk_frozen BK170.out 4
          have hns80_1 := NB171_170.out
          have hms80_1 := NB170_171.out
          refine skip_ (w1 := ?_) (by rfl) rfl ?_ ?_
          rotate_left
          ·go_simp
           rfl
          refine hK.out _ _ ⟨((cell_far (p := ⟨gb170, _, none⟩) (fn_ hw168_0 GW170.out) _).trans (((cell_far (p := ⟨gb170, _, none⟩) (fn_ hw168_0 GW170.out) _).trans (((cell_far (p := ⟨gb170, _, none⟩) (fn_ hw168_0 GW170.out) _).trans (((cell_far (p := ⟨gb170, _, none⟩) (fn_ hw168_0 GW170.out) _).trans (((cell_far (p := ⟨gb170, _, none⟩) (fn_ hw168_0 GW170.out) _).trans (hHeld.1)))))))))), ((cell_far (p := ⟨gb170, _, none⟩) (fn_ hw168_1 GW170.out) _).trans (((cell_far (p := ⟨gb170, _, none⟩) (fn_ hw168_1 GW170.out) _).trans (((cell_far (p := ⟨gb170, _, none⟩) (fn_ hw168_1 GW170.out) _).trans (((cell_far (p := ⟨gb170, _, none⟩) (fn_ hw168_1 GW170.out) _).trans (((cell_far (p := ⟨gb170, _, none⟩) (fn_ hw168_1 GW170.out) _).trans (hHeld.2.1)))))))))), ((cell_far (p := ⟨gb170, _, none⟩) (fn_ hw168_2 GW170.out) _).trans (((cell_far (p := ⟨gb170, _, none⟩) (fn_ hw168_2 GW170.out) _).trans (((cell_far (p := ⟨gb170, _, none⟩) (fn_ hw168_2 GW170.out) _).trans (((cell_far (p := ⟨gb170, _, none⟩) (fn_ hw168_2 GW170.out) _).trans (((cell_far (p := ⟨gb170, _, none⟩) (fn_ hw168_2 GW170.out) _).trans (hHeld.2.2.1)))))))))), ((cell_far (p := ⟨gb170, _, none⟩) (fn_ hw168_3 GW170.out) _).trans (((cell_far (p := ⟨gb170, _, none⟩) (fn_ hw168_3 GW170.out) _).trans (((cell_far (p := ⟨gb170, _, none⟩) (fn_ hw168_3 GW170.out) _).trans (((cell_far (p := ⟨gb170, _, none⟩) (fn_ hw168_3 GW170.out) _).trans (((cell_far (p := ⟨gb170, _, none⟩) (fn_ hw168_3 GW170.out) _).trans (hHeld.2.2.2.1)))))))))), ((cell_far (p := ⟨gb170, _, none⟩) (fn_ hw168_4 GW170.out) _).trans (((cell_far (p := ⟨gb170, _, none⟩) (fn_ hw168_4 GW170.out) _).trans (((cell_far (p := ⟨gb170, _, none⟩) (fn_ hw168_4 GW170.out) _).trans (((cell_far (p := ⟨gb170, _, none⟩) (fn_ hw168_4 GW170.out) _).trans (((cell_far (p := ⟨gb170, _, none⟩) (fn_ hw168_4 GW170.out) _).trans (hHeld.2.2.2.2.1)))))))))), ((cell_far (p := ⟨gb170, _, none⟩) (fn_ hw169_0 GW170.out) _).trans (((cell_far (p := ⟨gb170, _, none⟩) (fn_ hw169_0 GW170.out) _).trans (((cell_far (p := ⟨gb170, _, none⟩) (fn_ hw169_0 GW170.out) _).trans (((cell_far (p := ⟨gb170, _, none⟩) (fn_ hw169_0 GW170.out) _).trans (((cell_far (p := ⟨gb170, _, none⟩) (fn_ hw169_0 GW170.out) _).trans (hHeld.2.2.2.2.2.1)))))))))), ((cell_far (p := ⟨gb170, _, none⟩) (fn_ hw169_1 GW170.out) _).trans (((cell_far (p := ⟨gb170, _, none⟩) (fn_ hw169_1 GW170.out) _).trans (((cell_far (p := ⟨gb170, _, none⟩) (fn_ hw169_1 GW170.out) _).trans (((cell_far (p := ⟨gb170, _, none⟩) (fn_ hw169_1 GW170.out) _).trans (((cell_far (p := ⟨gb170, _, none⟩) (fn_ hw169_1 GW170.out) _).trans (hHeld.2.2.2.2.2.2.1)))))))))), ((cell_far (p := ⟨gb170, _, none⟩) (fn_ hw169_2 GW170.out) _).trans (((cell_far (p := ⟨gb170, _, none⟩) (fn_ hw169_2 GW170.out) _).trans (((cell_far (p := ⟨gb170, _, none⟩) (fn_ hw169_2 GW170.out) _).trans (((cell_far (p := ⟨gb170, _, none⟩) (fn_ hw169_2 GW170.out) _).trans (((cell_far (p := ⟨gb170, _, none⟩) (fn_ hw169_2 GW170.out) _).trans (hHeld.2.2.2.2.2.2.2.1)))))))))), ((cell_far (p := ⟨gb170, _, none⟩) (fn_ hw169_3 GW170.out) _).trans (((cell_far (p := ⟨gb170, _, none⟩) (fn_ hw169_3 GW170.out) _).trans (((cell_far (p := ⟨gb170, _, none⟩) (fn_ hw169_3 GW170.out) _).trans (((cell_far (p := ⟨gb170, _, none⟩) (fn_ hw169_3 GW170.out) _).trans (((cell_far (p := ⟨gb170, _, none⟩) (fn_ hw169_3 GW170.out) _).trans (hHeld.2.2.2.2.2.2.2.2.1)))))))))), ((cell_far (p := ⟨gb170, _, none⟩) (fn_ hw169_4 GW170.out) _).trans (((cell_far (p := ⟨gb170, _, none⟩) (fn_ hw169_4 GW170.out) _).trans (((cell_far (p := ⟨gb170, _, none⟩) (fn_ hw169_4 GW170.out) _).trans (((cell_far (p := ⟨gb170, _, none⟩) (fn_ hw169_4 GW170.out) _).trans (((cell_far (p := ⟨gb170, _, none⟩) (fn_ hw169_4 GW170.out) _).trans (hHeld.2.2.2.2.2.2.2.2.2))))))))))⟩ (fun hHeld => ?_)
          clear hK K
          refine one_ (i := 11) (N := none) #[true, true, true, true, true, true, true, true, true, true, true, true] rfl rfl (one_of HT_.out (by kernel_rfl)) (by decide) (fun K hK => ?_)
          have hs81 : w75.cell? ⟨gb171, 0, none⟩ = some (.int .i64 0) := (blk_cell BK171.out 0).trans rfl
          have hfs81 := blk_frozen BK171.out 0
          have hns81_0 := NB170_171.out
          have hms81_0 := NB171_170.out
          have hs82 : w75.cell? ⟨gb171, 1, none⟩ = some (.int .i64 0) := (blk_cell BK171.out 1).trans rfl
          have hfs82 := blk_frozen BK171.out 1
          have hns82_0 := NB170_171.out
          have hms82_0 := NB171_170.out
          have hs83 : w75.cell? ⟨gb171, 2, none⟩ = some (.int .i64 0) := (blk_cell BK171.out 2).trans rfl
          have hfs83 := blk_frozen BK171.out 2
          have hns83_0 := NB170_171.out
          have hms83_0 := NB171_170.out
          have hs84 : w75.cell? ⟨gb171, 3, none⟩ = some (.int .i64 0) := (blk_cell BK171.out 3).trans rfl
          have hfs84 := blk_frozen BK171.out 3
          have hns84_0 := NB170_171.out
          have hms84_0 := NB171_170.out
          have hs85 : w75.cell? ⟨gb171, 4, none⟩ = some (.int .i64 0) := (blk_cell BK171.out 4).trans rfl
          have hfs85 := blk_frozen BK171.out 4
          have hns85_0 := NB170_171.out
          have hms85_0 := NB171_170.out
          refine skip_ (w1 := ?_) (by rfl) rfl ?_ ?_
          rotate_left
          ·go_simp
           rfl
          refine hK.out _ _ ⟨((cell_far (p := ⟨gb171, _, none⟩) (fn_ hw168_0 GW171.out) _).trans (((cell_far (p := ⟨gb171, _, none⟩) (fn_ hw168_0 GW171.out) _).trans (((cell_far (p := ⟨gb171, _, none⟩) (fn_ hw168_0 GW171.out) _).trans (((cell_far (p := ⟨gb171, _, none⟩) (fn_ hw168_0 GW171.out) _).trans (((cell_far (p := ⟨gb171, _, none⟩) (fn_ hw168_0 GW171.out) _).trans (hHeld.1)))))))))), ((cell_far (p := ⟨gb171, _, none⟩) (fn_ hw168_1 GW171.out) _).trans (((cell_far (p := ⟨gb171, _, none⟩) (fn_ hw168_1 GW171.out) _).trans (((cell_far (p := ⟨gb171, _, none⟩) (fn_ hw168_1 GW171.out) _).trans (((cell_far (p := ⟨gb171, _, none⟩) (fn_ hw168_1 GW171.out) _).trans (((cell_far (p := ⟨gb171, _, none⟩) (fn_ hw168_1 GW171.out) _).trans (hHeld.2.1)))))))))), ((cell_far (p := ⟨gb171, _, none⟩) (fn_ hw168_2 GW171.out) _).trans (((cell_far (p := ⟨gb171, _, none⟩) (fn_ hw168_2 GW171.out) _).trans (((cell_far (p := ⟨gb171, _, none⟩) (fn_ hw168_2 GW171.out) _).trans (((cell_far (p := ⟨gb171, _, none⟩) (fn_ hw168_2 GW171.out) _).trans (((cell_far (p := ⟨gb171, _, none⟩) (fn_ hw168_2 GW171.out) _).trans (hHeld.2.2.1)))))))))), ((cell_far (p := ⟨gb171, _, none⟩) (fn_ hw168_3 GW171.out) _).trans (((cell_far (p := ⟨gb171, _, none⟩) (fn_ hw168_3 GW171.out) _).trans (((cell_far (p := ⟨gb171, _, none⟩) (fn_ hw168_3 GW171.out) _).trans (((cell_far (p := ⟨gb171, _, none⟩) (fn_ hw168_3 GW171.out) _).trans (((cell_far (p := ⟨gb171, _, none⟩) (fn_ hw168_3 GW171.out) _).trans (hHeld.2.2.2.1)))))))))), ((cell_far (p := ⟨gb171, _, none⟩) (fn_ hw168_4 GW171.out) _).trans (((cell_far (p := ⟨gb171, _, none⟩) (fn_ hw168_4 GW171.out) _).trans (((cell_far (p := ⟨gb171, _, none⟩) (fn_ hw168_4 GW171.out) _).trans (((cell_far (p := ⟨gb171, _, none⟩) (fn_ hw168_4 GW171.out) _).trans (((cell_far (p := ⟨gb171, _, none⟩) (fn_ hw168_4 GW171.out) _).trans (hHeld.2.2.2.2.1)))))))))), ((cell_far (p := ⟨gb171, _, none⟩) (fn_ hw169_0 GW171.out) _).trans (((cell_far (p := ⟨gb171, _, none⟩) (fn_ hw169_0 GW171.out) _).trans (((cell_far (p := ⟨gb171, _, none⟩) (fn_ hw169_0 GW171.out) _).trans (((cell_far (p := ⟨gb171, _, none⟩) (fn_ hw169_0 GW171.out) _).trans (((cell_far (p := ⟨gb171, _, none⟩) (fn_ hw169_0 GW171.out) _).trans (hHeld.2.2.2.2.2.1)))))))))), ((cell_far (p := ⟨gb171, _, none⟩) (fn_ hw169_1 GW171.out) _).trans (((cell_far (p := ⟨gb171, _, none⟩) (fn_ hw169_1 GW171.out) _).trans (((cell_far (p := ⟨gb171, _, none⟩) (fn_ hw169_1 GW171.out) _).trans (((cell_far (p := ⟨gb171, _, none⟩) (fn_ hw169_1 GW171.out) _).trans (((cell_far (p := ⟨gb171, _, none⟩) (fn_ hw169_1 GW171.out) _).trans (hHeld.2.2.2.2.2.2.1)))))))))), ((cell_far (p := ⟨gb171, _, none⟩) (fn_ hw169_2 GW171.out) _).trans (((cell_far (p := ⟨gb171, _, none⟩) (fn_ hw169_2 GW171.out) _).trans (((cell_far (p := ⟨gb171, _, none⟩) (fn_ hw169_2 GW171.out) _).trans (((cell_far (p := ⟨gb171, _, none⟩) (fn_ hw169_2 GW171.out) _).trans (((cell_far (p := ⟨gb171, _, none⟩) (fn_ hw169_2 GW171.out) _).trans (hHeld.2.2.2.2.2.2.2.1)))))))))), ((cell_far (p := ⟨gb171, _, none⟩) (fn_ hw169_3 GW171.out) _).trans (((cell_far (p := ⟨gb171, _, none⟩) (fn_ hw169_3 GW171.out) _).trans (((cell_far (p := ⟨gb171, _, none⟩) (fn_ hw169_3 GW171.out) _).trans (((cell_far (p := ⟨gb171, _, none⟩) (fn_ hw169_3 GW171.out) _).trans (((cell_far (p := ⟨gb171, _, none⟩) (fn_ hw169_3 GW171.out) _).trans (hHeld.2.2.2.2.2.2.2.2.1)))))))))), ((cell_far (p := ⟨gb171, _, none⟩) (fn_ hw169_4 GW171.out) _).trans (((cell_far (p := ⟨gb171, _, none⟩) (fn_ hw169_4 GW171.out) _).trans (((cell_far (p := ⟨gb171, _, none⟩) (fn_ hw169_4 GW171.out) _).trans (((cell_far (p := ⟨gb171, _, none⟩) (fn_ hw169_4 GW171.out) _).trans (((cell_far (p := ⟨gb171, _, none⟩) (fn_ hw169_4 GW171.out) _).trans (hHeld.2.2.2.2.2.2.2.2.2))))))))))⟩ (fun hHeld => ?_)
          clear hK K
          refine done_ (done_of HT_.out (by kernel_rfl)) ?_
          have hnb86 := NB170_171.out
          have hnc86 := NB171_170.out
          have hcz87_0 : w75.cell? ⟨gb170, 0, none⟩ = some (.int .i64 0) := (blk_cell BK170.out 0).trans rfl
          have hcz87_1 : w75.cell? ⟨gb170, 1, none⟩ = some (.int .i64 0) := (blk_cell BK170.out 1).trans rfl
          have hcz87_2 : w75.cell? ⟨gb170, 2, none⟩ = some (.int .i64 0) := (blk_cell BK170.out 2).trans rfl
          have hcz87_3 : w75.cell? ⟨gb170, 3, none⟩ = some (.int .i64 0) := (blk_cell BK170.out 3).trans rfl
          have hcz87_4 : w75.cell? ⟨gb170, 4, none⟩ = some (.int .i64 0) := (blk_cell BK170.out 4).trans rfl
          have hfz87_0 := blk_frozen BK170.out 0
          have hfz87_1 := blk_frozen BK170.out 1
          have hfz87_2 := blk_frozen BK170.out 2
          have hfz87_3 := blk_frozen BK170.out 3
          have hfz87_4 := blk_frozen BK170.out 4
          have hcz88_0 : w75.cell? ⟨gb171, 0, none⟩ = some (.int .i64 0) := (blk_cell BK171.out 0).trans rfl
          have hcz88_1 : w75.cell? ⟨gb171, 1, none⟩ = some (.int .i64 0) := (blk_cell BK171.out 1).trans rfl
          have hcz88_2 : w75.cell? ⟨gb171, 2, none⟩ = some (.int .i64 0) := (blk_cell BK171.out 2).trans rfl
          have hcz88_3 : w75.cell? ⟨gb171, 3, none⟩ = some (.int .i64 0) := (blk_cell BK171.out 3).trans rfl
          have hcz88_4 : w75.cell? ⟨gb171, 4, none⟩ = some (.int .i64 0) := (blk_cell BK171.out 4).trans rfl
          have hfz88_0 := blk_frozen BK171.out 0
          have hfz88_1 := blk_frozen BK171.out 1
          have hfz88_2 := blk_frozen BK171.out 2
          have hfz88_3 := blk_frozen BK171.out 3
          have hfz88_4 := blk_frozen BK171.out 4
          try go_wp2
          go_roundg k2
          case measure => have := HK1.out; have := HK2.out; omega
          case rel => exact ⟨(x4_2), (wrap64 (x6_2 + 1)), (by first | rfl | (simp; done) | (simp [*]; done)), H', ⟨by have := HK1.out; have := HK2.out; omega⟩, ⟨by (with_reducible repeat (first | apply Kd.S_alloc | apply Kd.S_drewN | apply Kd.S_drew)); exact Kd.S_mono (Kd.S_far (p := ⟨gb171, 4, none⟩) (Kd.S_far (p := ⟨gb171, 3, none⟩) (Kd.S_far (p := ⟨gb171, 2, none⟩) (Kd.S_far (p := ⟨gb171, 1, none⟩) (Kd.S_far (p := ⟨gb171, 0, none⟩) (Kd.S_far (p := ⟨gb170, 4, none⟩) (Kd.S_far (p := ⟨gb170, 3, none⟩) (Kd.S_far (p := ⟨gb170, 2, none⟩) (Kd.S_far (p := ⟨gb170, 1, none⟩) (Kd.S_far (p := ⟨gb170, 0, none⟩) (Kd.S_types (Kd.S_types HO_4.out BK170.out (by decide)) BK171.out (by decide)) (fun _ hk => hk.1.2) (.int .i64 ((rd_T83 l0 x5_1).f0))) (fun _ hk => hk.1.2) (.int .i64 ((rd_T83 l0 x5_1).f1))) (fun _ hk => hk.1.2) (.int .i64 ((rd_T83 l0 x5_1).f2))) (fun _ hk => hk.1.2) (.int .i64 ((rd_T83 l0 x5_1).f3))) (fun _ hk => hk.1.2) (.int .i64 ((rd_T83 l0 x5_1).f4))) (fun _ hk => hk.2) (.int .i64 ((rd_T83 l0 x6_2).f0))) (fun _ hk => hk.2) (.int .i64 ((rd_T83 l0 x6_2).f1))) (fun _ hk => hk.2) (.int .i64 ((rd_T83 l0 x6_2).f2))) (fun _ hk => hk.2) (.int .i64 ((rd_T83 l0 x6_2).f3))) (fun _ hk => hk.2) (.int .i64 ((rd_T83 l0 x6_2).f4))) (fun _ hk => trivial)⟩, ⟨by repeat (first | (with_reducible first | exact HB.out | apply below_alloc | apply pw_below_drewN | apply below_drew1 | refine below_set ?_ GE170.out | refine below_set ?_ GE171.out) | exact HB.out)⟩⟩
        ·rw [if_neg c12] at H
         have c12b0 : decide (((rd_T83 l0 x5_1).f1) ≤ (wrap64 (((rd_T83 l0 x6_2).f1) + ((rd_T83 l0 x6_2).f3)))) = false := decide_eq_false c12
         clear c12
         have H' := Aside0.mk H
         clear H
         try go_wp2
         have n0_ := Aside0.mk (Kd.S_drew HO_4.out)
         have n1_ := Aside0.mk (below_drew1 HB.out)
         clear HO_4
         clear HB
         have HO_4 := n0_
         have HB := n1_
         clear n0_ n1_
         have p168 : 0 ≤ (x5_1 : Int) := od_
         have q168 : x5_1 < (l0.length : Int) := od_
         obtain ⟨ad168, e168, hx168_0, hx168_1, hx168_2, hx168_3, hx168_4⟩ := at_T83 HR0.out x5_1 p168 q168
         have hw168_4 := hx168_4
         have hw168_3 := hx168_3
         have hw168_2 := hx168_2
         have hw168_1 := hx168_1
         have hw168_0 := hx168_0
         cases e168
         replace hx168_0 := (HB.out.cell (World.block_lt_of_cell? w _ hx168_0)).trans hx168_0
         replace hx168_1 := (HB.out.cell (World.block_lt_of_cell? w _ hx168_1)).trans hx168_1
         replace hx168_2 := (HB.out.cell (World.block_lt_of_cell? w _ hx168_2)).trans hx168_2
         replace hx168_3 := (HB.out.cell (World.block_lt_of_cell? w _ hx168_3)).trans hx168_3
         replace hx168_4 := (HB.out.cell (World.block_lt_of_cell? w _ hx168_4)).trans hx168_4
         replace p168 := eq_true p168
         replace q168 := eq_true q168
         have p169 : 0 ≤ (x6_2 : Int) := od_
         have q169 : x6_2 < (l0.length : Int) := od_
         obtain ⟨ad169, e169, hx169_0, hx169_1, hx169_2, hx169_3, hx169_4⟩ := at_T83 HR0.out x6_2 p169 q169
         have hw169_4 := hx169_4
         have hw169_3 := hx169_3
         have hw169_2 := hx169_2
         have hw169_1 := hx169_1
         have hw169_0 := hx169_0
         obtain rfl : ad168 = ad169 := (by injection e169)
         replace hx169_0 := (HB.out.cell (World.block_lt_of_cell? w _ hx169_0)).trans hx169_0
         replace hx169_1 := (HB.out.cell (World.block_lt_of_cell? w _ hx169_1)).trans hx169_1
         replace hx169_2 := (HB.out.cell (World.block_lt_of_cell? w _ hx169_2)).trans hx169_2
         replace hx169_3 := (HB.out.cell (World.block_lt_of_cell? w _ hx169_3)).trans hx169_3
         replace hx169_4 := (HB.out.cell (World.block_lt_of_cell? w _ hx169_4)).trans hx169_4
         replace p169 := eq_true p169
         replace q169 := eq_true q169
         refine start_ (n := 12) (S := fun w' => w'.cell? (ad168.add ((x5_1).toNat * 5)) = some (.int .i64 ((rd_T83 l0 x5_1).f0)) ∧ w'.cell? ⟨(ad168.add ((x5_1).toNat * 5)).block, (ad168.add ((x5_1).toNat * 5)).off + 1, none⟩ = some (.int .i64 ((rd_T83 l0 x5_1).f1)) ∧ w'.cell? ⟨(ad168.add ((x5_1).toNat * 5)).block, (ad168.add ((x5_1).toNat * 5)).off + 2, none⟩ = some (.int .i64 ((rd_T83 l0 x5_1).f2)) ∧ w'.cell? ⟨(ad168.add ((x5_1).toNat * 5)).block, (ad168.add ((x5_1).toNat * 5)).off + 3, none⟩ = some (.int .i64 ((rd_T83 l0 x5_1).f3)) ∧ w'.cell? ⟨(ad168.add ((x5_1).toNat * 5)).block, (ad168.add ((x5_1).toNat * 5)).off + 4, none⟩ = some (.int .i64 ((rd_T83 l0 x5_1).f4)) ∧ w'.cell? (ad168.add ((x6_2).toNat * 5)) = some (.int .i64 ((rd_T83 l0 x6_2).f0)) ∧ w'.cell? ⟨(ad168.add ((x6_2).toNat * 5)).block, (ad168.add ((x6_2).toNat * 5)).off + 1, none⟩ = some (.int .i64 ((rd_T83 l0 x6_2).f1)) ∧ w'.cell? ⟨(ad168.add ((x6_2).toNat * 5)).block, (ad168.add ((x6_2).toNat * 5)).off + 2, none⟩ = some (.int .i64 ((rd_T83 l0 x6_2).f2)) ∧ w'.cell? ⟨(ad168.add ((x6_2).toNat * 5)).block, (ad168.add ((x6_2).toNat * 5)).off + 3, none⟩ = some (.int .i64 ((rd_T83 l0 x6_2).f3)) ∧ w'.cell? ⟨(ad168.add ((x6_2).toNat * 5)).block, (ad168.add ((x6_2).toNat * 5)).off + 4, none⟩ = some (.int .i64 ((rd_T83 l0 x6_2).f4))) (ds := []) #[false, false, false, false, false, false, false, false, false, false, false, false] (by kernel_rfl) rfl rfl ⟨((HB.out.cell (World.block_lt_of_cell? w _ hw168_0)).trans hw168_0), ((HB.out.cell (World.block_lt_of_cell? w _ hw168_1)).trans hw168_1), ((HB.out.cell (World.block_lt_of_cell? w _ hw168_2)).trans hw168_2), ((HB.out.cell (World.block_lt_of_cell? w _ hw168_3)).trans hw168_3), ((HB.out.cell (World.block_lt_of_cell? w _ hw168_4)).trans hw168_4), ((HB.out.cell (World.block_lt_of_cell? w _ hw169_0)).trans hw169_0), ((HB.out.cell (World.block_lt_of_cell? w _ hw169_1)).trans hw169_1), ((HB.out.cell (World.block_lt_of_cell? w _ hw169_2)).trans hw169_2), ((HB.out.cell (World.block_lt_of_cell? w _ hw169_3)).trans hw169_3), ((HB.out.cell (World.block_lt_of_cell? w _ hw169_4)).trans hw169_4)⟩ (fun hHeld => ?_); refine with_tabW spec_OverlappingAreas.tab10 spec_OverlappingAreas.bits10 (fun HT_ HW_ => ?_)
         generalize wr.drew = w89 at HO_4 HB hx168_0 hx168_1 hx168_2 hx168_3 hx168_4 hx169_0 hx169_1 hx169_2 hx169_3 hx169_4 hHeld ⊢
         refine pure_ (i := 0) (N := some 27) (v := ?_) (a' := ?_) #[true, false, false, false, false, false, false, false, false, false, false, false] rfl rfl (any_of HT_.out (by kernel_rfl)) (fun _ _ _ h => h) (Or.inl ⟨by rfl, ?_⟩) ?_ ?_
         rotate_left
         ·intro w'
          go_simp
          with_reducible rfl
         rotate_left
         ·simp only [pz_]
          rfl
         refine pure_ (i := 1) (N := some 28) (v := ?_) (a' := ?_) #[true, true, false, false, false, false, false, false, false, false, false, false] rfl rfl (any_of HT_.out (by kernel_rfl)) (fun _ _ _ h => h) (Or.inl ⟨by rfl, ?_⟩) ?_ ?_
         rotate_left
         ·intro w'
          go_simp
          with_reducible rfl
         rotate_left
         ·simp only [pz_]
          rfl
         refine pure_ (i := 2) (N := some 29) (v := ?_) (a' := ?_) #[true, true, true, false, false, false, false, false, false, false, false, false] rfl rfl (any_of HT_.out (by kernel_rfl)) (fun _ _ _ h => h) (Or.inl ⟨by rfl, ?_⟩) ?_ ?_
         rotate_left
         ·intro w'
          go_simp
          with_reducible rfl
         rotate_left
         ·simp only [pz_]
          rfl
         refine pure_ (i := 4) (N := some 31) (v := ?_) (a' := ?_) #[true, true, true, false, true, false, false, false, false, false, false, false] rfl rfl (any_of HT_.out (by kernel_rfl)) (fun _ _ _ h => h) (Or.inl ⟨by rfl, ?_⟩) ?_ ?_
         rotate_left
         ·intro w'
          go_simp
          with_reducible rfl
         rotate_left
         ·simp only [pz_]
          rfl
         refine pure_ (i := 5) (N := some 32) (v := ?_) (a' := ?_) #[true, true, true, false, true, true, false, false, false, false, false, false] rfl rfl (any_of HT_.out (by kernel_rfl)) (fun _ _ _ h => h) (Or.inl ⟨by rfl, ?_⟩) ?_ ?_
         rotate_left
         ·intro w'
          go_simp
          with_reducible rfl
         rotate_left
         ·simp only [pz_]
          rfl
         refine pure_ (i := 6) (N := some 33) (v := ?_) (a' := ?_) #[true, true, true, false, true, true, true, false, false, false, false, false] rfl rfl (any_of HT_.out (by kernel_rfl)) (fun _ _ _ h => h) (Or.inl ⟨by rfl, ?_⟩) ?_ ?_
         rotate_left
         ·intro w'
          go_simp
          with_reducible rfl
         rotate_left
         ·simp only [pz_]
          rfl
         refine take_ (i := 3) (N := some 30) (v := ?_) (a' := ?_) #[true, true, true, true, true, true, true, false, false, false, false, false] rfl rfl (take_ofW HT_.out HW_.out (by kernel_rfl)) (fun _ _ _ h => h) (Or.inl ⟨by rfl, ?_⟩) hHeld ?_ ?_
         rotate_left
         ·rintro w' ⟨s0, s1, s2, s3, s4, s5, s6, s7, s8, s9⟩
          go_simp
          with_reducible rfl
         rotate_left
         ·simp only [pz_]
          rfl
         refine take_ (i := 7) (N := some 34) (v := ?_) (a' := ?_) #[true, true, true, true, true, true, true, true, false, false, false, false] rfl rfl (take_ofW HT_.out HW_.out (by kernel_rfl)) (fun _ _ _ h => h) (Or.inl ⟨by rfl, ?_⟩) hHeld ?_ ?_
         rotate_left
         ·rintro w' ⟨s0, s1, s2, s3, s4, s5, s6, s7, s8, s9⟩
          go_simp
          with_reducible rfl
         rotate_left
         ·simp only [pz_]
          rfl
         refine join_ (σ := Nat × Nat) 2 #[true, true, true, true, true, true, true, true, true, true, false, false] (fun s_ => [(7, .pointer (some ⟨s_.1, 0, none⟩)), (8, .pointer (some ⟨s_.2, 0, none⟩))]) (fun s_ w' => (w'.cell? (ad168.add ((x5_1).toNat * 5)) = some (.int .i64 ((rd_T83 l0 x5_1).f0)) ∧ w'.cell? ⟨(ad168.add ((x5_1).toNat * 5)).block, (ad168.add ((x5_1).toNat * 5)).off + 1, none⟩ = some (.int .i64 ((rd_T83 l0 x5_1).f1)) ∧ w'.cell? ⟨(ad168.add ((x5_1).toNat * 5)).block, (ad168.add ((x5_1).toNat * 5)).off + 2, none⟩ = some (.int .i64 ((rd_T83 l0 x5_1).f2)) ∧ w'.cell? ⟨(ad168.add ((x5_1).toNat * 5)).block, (ad168.add ((x5_1).toNat * 5)).off + 3, none⟩ = some (.int .i64 ((rd_T83 l0 x5_1).f3)) ∧ w'.cell? ⟨(ad168.add ((x5_1).toNat * 5)).block, (ad168.add ((x5_1).toNat * 5)).off + 4, none⟩ = some (.int .i64 ((rd_T83 l0 x5_1).f4)) ∧ w'.cell? (ad168.add ((x6_2).toNat * 5)) = some (.int .i64 ((rd_T83 l0 x6_2).f0)) ∧ w'.cell? ⟨(ad168.add ((x6_2).toNat * 5)).block, (ad168.add ((x6_2).toNat * 5)).off + 1, none⟩ = some (.int .i64 ((rd_T83 l0 x6_2).f1)) ∧ w'.cell? ⟨(ad168.add ((x6_2).toNat * 5)).block, (ad168.add ((x6_2).toNat * 5)).off + 2, none⟩ = some (.int .i64 ((rd_T83 l0 x6_2).f2)) ∧ w'.cell? ⟨(ad168.add ((x6_2).toNat * 5)).block, (ad168.add ((x6_2).toNat * 5)).off + 3, none⟩ = some (.int .i64 ((rd_T83 l0 x6_2).f3)) ∧ w'.cell? ⟨(ad168.add ((x6_2).toNat * 5)).block, (ad168.add ((x6_2).toNat * 5)).off + 4, none⟩ = some (.int .i64 ((rd_T83 l0 x6_2).f4))) ∧ (Kd.S (Kd.slice 2 (Kd.int .i64)) 24 w' w.heap.size (fun _ => True) u4 x4_2) ∧ (w'.heap[s_.1]? = some (.cells #[.int .i64 0, .int .i64 0, .int .i64 0, .int .i64 0, .int .i64 0] 83 (0, 0))) ∧ (w'.heap[s_.2]? = some (.cells #[.int .i64 0, .int .i64 0, .int .i64 0, .int .i64 0, .int .i64 0] 83 (0, 0))) ∧ (w.heap.size ≤ s_.1) ∧ (w.heap.size ≤ s_.1) ∧ (s_.2 ≠ s_.1) ∧ (s_.1 ≠ s_.2) ∧ (w.heap.size ≤ s_.2) ∧ (w.heap.size ≤ s_.2) ∧ (Below w.heap.size w w')) ?_ ?_
         rotate_left
         ·intro hCont
          refine two_ (i := 8) (j := 9) (Ni := some 7) (Nj := some 8) #[true, true, true, true, true, true, true, true, true, false, false, false] #[true, true, true, true, true, true, true, true, false, true, false, false] rfl rfl rfl rfl (two_of HT_.out (by kernel_rfl)) (by decide) (by decide) (fun K hK => ?_) (fun K hK => ?_)
          ·skip
           refine box_step ?hg (N := 7) ?hd (cs := #[.int .i64 0, .int .i64 0, .int .i64 0, .int .i64 0, .int .i64 0]) (t := 83) ?hr ?_; (case hd => rfl); (case hg => rfl); (case hr => first | (go_simp; done) | (go_simp; rfl))
           intro gb170 hg w90 hbox hb
           have n0_ := Aside0.mk (Kd.S_below (by (with_reducible repeat (first | apply Kd.S_alloc | apply Kd.S_drewN | apply Kd.S_drew)); exact HO_4.out) hb)
           have n1_ := Aside0.mk (below_step (bl_ HB.out) hb)
           have n2_ := Aside0.mk (hbox)
           have n3_ := Aside0.mk ((by rw [hg]; exact (below_size (bl_ HB.out)) : w.heap.size ≤ gb170))
           have n4_ := Aside0.mk ((by rw [hg]; exact (below_size (bl_ HB.out)) : w.heap.size ≤ gb170))
           clear HO_4
           clear HB
           have HO_4 := n0_
           have HB := n1_
           have BK170 := n2_
           have GW170 := n3_
           have GE170 := n4_
           clear n0_ n1_ n2_ n3_ n4_
           clear hb hbox hg
           refine hK.out _ _ ⟨((HB.out.cell (World.block_lt_of_cell? w _ hw168_0)).trans hw168_0), ((HB.out.cell (World.block_lt_of_cell? w _ hw168_1)).trans hw168_1), ((HB.out.cell (World.block_lt_of_cell? w _ hw168_2)).trans hw168_2), ((HB.out.cell (World.block_lt_of_cell? w _ hw168_3)).trans hw168_3), ((HB.out.cell (World.block_lt_of_cell? w _ hw168_4)).trans hw168_4), ((HB.out.cell (World.block_lt_of_cell? w _ hw169_0)).trans hw169_0), ((HB.out.cell (World.block_lt_of_cell? w _ hw169_1)).trans hw169_1), ((HB.out.cell (World.block_lt_of_cell? w _ hw169_2)).trans hw169_2), ((HB.out.cell (World.block_lt_of_cell? w _ hw169_3)).trans hw169_3), ((HB.out.cell (World.block_lt_of_cell? w _ hw169_4)).trans hw169_4)⟩ (fun hHeld => ?_)
           clear hK K
           refine norm_ (a' := ?_) ?_ ?_
           rotate_left
           ·show Act.put _ (some 7) _ = _
            simp only [pz_]
            rfl
           refine one_ (i := 9) (N := some 8) #[true, true, true, true, true, true, true, true, true, true, false, false] rfl rfl (one_of HT_.out (by kernel_rfl)) (by decide) (fun K hK => ?_)
           refine box_step ?hg (N := 8) ?hd (cs := #[.int .i64 0, .int .i64 0, .int .i64 0, .int .i64 0, .int .i64 0]) (t := 83) ?hr ?_; (case hd => rfl); (case hg => rfl); (case hr => first | (go_simp; done) | (go_simp; rfl))
           intro gb171 hg w91 hbox hb
           have n0_ := Aside0.mk (Kd.S_below (by (with_reducible repeat (first | apply Kd.S_alloc | apply Kd.S_drewN | apply Kd.S_drew)); exact HO_4.out) hb)
           have n1_ := Aside0.mk (blk_below (g := gb170) (o := .cells #[.int .i64 0, .int .i64 0, .int .i64 0, .int .i64 0, .int .i64 0] 83 (0, 0)) (by (with_reducible repeat (first | refine blk_drewN ?_ _ | refine blk_drew ?_ | refine blk_alloc ?_ _)); exact BK170.out) hb)
           have n2_ := Aside0.mk (below_step (by repeat (first | (with_reducible first | exact HB.out | apply below_alloc | apply pw_below_drewN | apply below_drew1 | refine below_set ?_ GE170.out) | exact HB.out)) hb)
           have n3_ := Aside0.mk (hbox)
           have n4_ := Aside0.mk ((by rw [hg]; exact (below_size (by repeat (first | (with_reducible first | exact HB.out | apply below_alloc | apply pw_below_drewN | apply below_drew1 | refine below_set ?_ GE170.out) | exact HB.out))) : w.heap.size ≤ gb171))
           have n5_ := Aside0.mk ((by rw [hg]; exact (below_size (by repeat (first | (with_reducible first | exact HB.out | apply below_alloc | apply pw_below_drewN | apply below_drew1 | refine below_set ?_ GE170.out) | exact HB.out))) : w.heap.size ≤ gb171))
           have n6_ := Aside0.mk ((by rw [hg]; exact Nat.ne_of_lt (blk_lt (g := gb170) (o := .cells #[.int .i64 0, .int .i64 0, .int .i64 0, .int .i64 0, .int .i64 0] 83 (0, 0)) (by (with_reducible repeat (first | refine blk_drewN ?_ _ | refine blk_drew ?_ | refine blk_alloc ?_ _)); exact BK170.out)) : gb170 ≠ gb171))
           have n7_ := Aside0.mk ((by rw [hg]; exact Nat.ne_of_gt (blk_lt (g := gb170) (o := .cells #[.int .i64 0, .int .i64 0, .int .i64 0, .int .i64 0, .int .i64 0] 83 (0, 0)) (by (with_reducible repeat (first | refine blk_drewN ?_ _ | refine blk_drew ?_ | refine blk_alloc ?_ _)); exact BK170.out)) : gb171 ≠ gb170))
           clear HO_4
           clear BK170
           clear HB
           have HO_4 := n0_
           have BK170 := n1_
           have HB := n2_
           have BK171 := n3_
           have GW171 := n4_
           have GE171 := n5_
           have NB170_171 := n6_
           have NB171_170 := n7_
           clear n0_ n1_ n2_ n3_ n4_ n5_ n6_ n7_
           clear hb hbox hg
           refine hK.out _ _ ⟨((HB.out.cell (World.block_lt_of_cell? w _ hw168_0)).trans hw168_0), ((HB.out.cell (World.block_lt_of_cell? w _ hw168_1)).trans hw168_1), ((HB.out.cell (World.block_lt_of_cell? w _ hw168_2)).trans hw168_2), ((HB.out.cell (World.block_lt_of_cell? w _ hw168_3)).trans hw168_3), ((HB.out.cell (World.block_lt_of_cell? w _ hw168_4)).trans hw168_4), ((HB.out.cell (World.block_lt_of_cell? w _ hw169_0)).trans hw169_0), ((HB.out.cell (World.block_lt_of_cell? w _ hw169_1)).trans hw169_1), ((HB.out.cell (World.block_lt_of_cell? w _ hw169_2)).trans hw169_2), ((HB.out.cell (World.block_lt_of_cell? w _ hw169_3)).trans hw169_3), ((HB.out.cell (World.block_lt_of_cell? w _ hw169_4)).trans hw169_4)⟩ (fun hHeld => ?_)
           clear hK K
           refine norm_ (a' := ?_) ?_ ?_
           rotate_left
           ·show Act.put _ (some 8) _ = _
            simp only [pz_]
            rfl
           exact norm_ (by simp only [putAll, Act.put, List.setIfInBounds_toArray, List.set_cons_zero, List.set_cons_succ]) (hCont (gb170, gb171) _ ⟨hHeld, (by (with_reducible repeat (first | apply Kd.S_alloc | apply Kd.S_drewN | apply Kd.S_drew)); exact HO_4.out), (by (with_reducible repeat (first | refine blk_drewN ?_ _ | refine blk_drew ?_ | refine blk_alloc ?_ _)); exact BK170.out), (by (with_reducible repeat (first | refine blk_drewN ?_ _ | refine blk_drew ?_ | refine blk_alloc ?_ _)); exact BK171.out), GW170.out, GE170.out, NB171_170.out, NB170_171.out, GW171.out, GE171.out, (by repeat (first | (with_reducible first | exact HB.out | apply below_alloc | apply pw_below_drewN | apply below_drew1 | refine below_set ?_ GE170.out | refine below_set ?_ GE171.out) | exact HB.out))⟩)
          ·skip
           refine box_step ?hg (N := 8) ?hd (cs := #[.int .i64 0, .int .i64 0, .int .i64 0, .int .i64 0, .int .i64 0]) (t := 83) ?hr ?_; (case hd => rfl); (case hg => rfl); (case hr => first | (go_simp; done) | (go_simp; rfl))
           intro gb171 hg w90 hbox hb
           have n0_ := Aside0.mk (Kd.S_below (by (with_reducible repeat (first | apply Kd.S_alloc | apply Kd.S_drewN | apply Kd.S_drew)); exact HO_4.out) hb)
           have n1_ := Aside0.mk (below_step (bl_ HB.out) hb)
           have n2_ := Aside0.mk (hbox)
           have n3_ := Aside0.mk ((by rw [hg]; exact (below_size (bl_ HB.out)) : w.heap.size ≤ gb171))
           have n4_ := Aside0.mk ((by rw [hg]; exact (below_size (bl_ HB.out)) : w.heap.size ≤ gb171))
           clear HO_4
           clear HB
           have HO_4 := n0_
           have HB := n1_
           have BK171 := n2_
           have GW171 := n3_
           have GE171 := n4_
           clear n0_ n1_ n2_ n3_ n4_
           clear hb hbox hg
           refine hK.out _ _ ⟨((HB.out.cell (World.block_lt_of_cell? w _ hw168_0)).trans hw168_0), ((HB.out.cell (World.block_lt_of_cell? w _ hw168_1)).trans hw168_1), ((HB.out.cell (World.block_lt_of_cell? w _ hw168_2)).trans hw168_2), ((HB.out.cell (World.block_lt_of_cell? w _ hw168_3)).trans hw168_3), ((HB.out.cell (World.block_lt_of_cell? w _ hw168_4)).trans hw168_4), ((HB.out.cell (World.block_lt_of_cell? w _ hw169_0)).trans hw169_0), ((HB.out.cell (World.block_lt_of_cell? w _ hw169_1)).trans hw169_1), ((HB.out.cell (World.block_lt_of_cell? w _ hw169_2)).trans hw169_2), ((HB.out.cell (World.block_lt_of_cell? w _ hw169_3)).trans hw169_3), ((HB.out.cell (World.block_lt_of_cell? w _ hw169_4)).trans hw169_4)⟩ (fun hHeld => ?_)
           clear hK K
           refine norm_ (a' := ?_) ?_ ?_
           rotate_left
           ·show Act.put _ (some 8) _ = _
            simp only [pz_]
            rfl
           refine one_ (i := 8) (N := some 7) #[true, true, true, true, true, true, true, true, true, true, false, false] rfl rfl (one_of HT_.out (by kernel_rfl)) (by decide) (fun K hK => ?_)
           refine box_step ?hg (N := 7) ?hd (cs := #[.int .i64 0, .int .i64 0, .int .i64 0, .int .i64 0, .int .i64 0]) (t := 83) ?hr ?_; (case hd => rfl); (case hg => rfl); (case hr => first | (go_simp; done) | (go_simp; rfl))
           intro gb170 hg w91 hbox hb
           have n0_ := Aside0.mk (Kd.S_below (by (with_reducible repeat (first | apply Kd.S_alloc | apply Kd.S_drewN | apply Kd.S_drew)); exact HO_4.out) hb)
           have n1_ := Aside0.mk (blk_below (g := gb171) (o := .cells #[.int .i64 0, .int .i64 0, .int .i64 0, .int .i64 0, .int .i64 0] 83 (0, 0)) (by (with_reducible repeat (first | refine blk_drewN ?_ _ | refine blk_drew ?_ | refine blk_alloc ?_ _)); exact BK171.out) hb)
           have n2_ := Aside0.mk (below_step (by repeat (first | (with_reducible first | exact HB.out | apply below_alloc | apply pw_below_drewN | apply below_drew1 | refine below_set ?_ GE171.out) | exact HB.out)) hb)
           have n3_ := Aside0.mk (hbox)
           have n4_ := Aside0.mk ((by rw [hg]; exact (below_size (by repeat (first | (with_reducible first | exact HB.out | apply below_alloc | apply pw_below_drewN | apply below_drew1 | refine below_set ?_ GE171.out) | exact HB.out))) : w.heap.size ≤ gb170))
           have n5_ := Aside0.mk ((by rw [hg]; exact (below_size (by repeat (first | (with_reducible first | exact HB.out | apply below_alloc | apply pw_below_drewN | apply below_drew1 | refine below_set ?_ GE171.out) | exact HB.out))) : w.heap.size ≤ gb170))
           have n6_ := Aside0.mk ((by rw [hg]; exact Nat.ne_of_lt (blk_lt (g := gb171) (o := .cells #[.int .i64 0, .int .i64 0, .int .i64 0, .int .i64 0, .int .i64 0] 83 (0, 0)) (by (with_reducible repeat (first | refine blk_drewN ?_ _ | refine blk_drew ?_ | refine blk_alloc ?_ _)); exact BK171.out)) : gb171 ≠ gb170))
           have n7_ := Aside0.mk ((by rw [hg]; exact Nat.ne_of_gt (blk_lt (g := gb171) (o := .cells #[.int .i64 0, .int .i64 0, .int .i64 0, .int .i64 0, .int .i64 0] 83 (0, 0)) (by (with_reducible repeat (first | refine blk_drewN ?_ _ | refine blk_drew ?_ | refine blk_alloc ?_ _)); exact BK171.out)) : gb170 ≠ gb171))
           clear HO_4
           clear BK171
           clear HB
           have HO_4 := n0_
           have BK171 := n1_
           have HB := n2_
           have BK170 := n3_
           have GW170 := n4_
           have GE170 := n5_
           have NB171_170 := n6_
           have NB170_171 := n7_
           clear n0_ n1_ n2_ n3_ n4_ n5_ n6_ n7_
           clear hb hbox hg
           refine hK.out _ _ ⟨((HB.out.cell (World.block_lt_of_cell? w _ hw168_0)).trans hw168_0), ((HB.out.cell (World.block_lt_of_cell? w _ hw168_1)).trans hw168_1), ((HB.out.cell (World.block_lt_of_cell? w _ hw168_2)).trans hw168_2), ((HB.out.cell (World.block_lt_of_cell? w _ hw168_3)).trans hw168_3), ((HB.out.cell (World.block_lt_of_cell? w _ hw168_4)).trans hw168_4), ((HB.out.cell (World.block_lt_of_cell? w _ hw169_0)).trans hw169_0), ((HB.out.cell (World.block_lt_of_cell? w _ hw169_1)).trans hw169_1), ((HB.out.cell (World.block_lt_of_cell? w _ hw169_2)).trans hw169_2), ((HB.out.cell (World.block_lt_of_cell? w _ hw169_3)).trans hw169_3), ((HB.out.cell (World.block_lt_of_cell? w _ hw169_4)).trans hw169_4)⟩ (fun hHeld => ?_)
           clear hK K
           refine norm_ (a' := ?_) ?_ ?_
           rotate_left
           ·show Act.put _ (some 7) _ = _
            simp only [pz_]
            rfl
           exact norm_ (by simp only [putAll, Act.put, List.setIfInBounds_toArray, List.set_cons_zero, List.set_cons_succ]) (hCont (gb170, gb171) _ ⟨hHeld, (by (with_reducible repeat (first | apply Kd.S_alloc | apply Kd.S_drewN | apply Kd.S_drew)); exact HO_4.out), (by (with_reducible repeat (first | refine blk_drewN ?_ _ | refine blk_drew ?_ | refine blk_alloc ?_ _)); exact BK170.out), (by (with_reducible repeat (first | refine blk_drewN ?_ _ | refine blk_drew ?_ | refine blk_alloc ?_ _)); exact BK171.out), GW170.out, GE170.out, NB171_170.out, NB170_171.out, GW171.out, GE171.out, (by repeat (first | (with_reducible first | exact HB.out | apply below_alloc | apply pw_below_drewN | apply below_drew1 | refine below_set ?_ GE171.out | refine below_set ?_ GE170.out) | exact HB.out))⟩)
         rintro ⟨gb170, gb171⟩ w92 ⟨hS_, h0_, h1_, h2_, h3_, h4_, h5_, h6_, h7_, h8_, h9_⟩
         have n0_ : Aside0 (Kd.S (Kd.slice 2 (Kd.int .i64)) 24 w92 w.heap.size (fun _ => True) u4 x4_2) := ⟨h0_⟩
         have n1_ : Aside0 (w92.heap[gb170]? = some (.cells #[.int .i64 0, .int .i64 0, .int .i64 0, .int .i64 0, .int .i64 0] 83 (0, 0))) := ⟨h1_⟩
         have n2_ : Aside0 (w92.heap[gb171]? = some (.cells #[.int .i64 0, .int .i64 0, .int .i64 0, .int .i64 0, .int .i64 0] 83 (0, 0))) := ⟨h2_⟩
         have n3_ : Aside0 (w.heap.size ≤ gb170) := ⟨h3_⟩
         have n4_ : Aside0 (w.heap.size ≤ gb170) := ⟨h4_⟩
         have n5_ : Aside0 (gb171 ≠ gb170) := ⟨h5_⟩
         have n6_ : Aside0 (gb170 ≠ gb171) := ⟨h6_⟩
         have n7_ : Aside0 (w.heap.size ≤ gb171) := ⟨h7_⟩
         have n8_ : Aside0 (w.heap.size ≤ gb171) := ⟨h8_⟩
         have n9_ : Aside0 (Below w.heap.size w w92) := ⟨h9_⟩
         clear HO_4
         clear HB
         clear h0_ h1_ h2_ h3_ h4_ h5_ h6_ h7_ h8_ h9_
         have HO_4 := n0_
         have BK170 := n1_
         have BK171 := n2_
         have GW170 := n3_
         have GE170 := n4_
         have NB171_170 := n5_
         have NB170_171 := n6_
         have GW171 := n7_
         have GE171 := n8_
         have HB := n9_
         clear n0_ n1_ n2_ n3_ n4_ n5_ n6_ n7_ n8_ n9_
         have hHeld : w92.cell? (ad168.add ((x5_1).toNat * 5)) = some (.int .i64 ((rd_T83 l0 x5_1).f0)) ∧ w92.cell? ⟨(ad168.add ((x5_1).toNat * 5)).block, (ad168.add ((x5_1).toNat * 5)).off + 1, none⟩ = some (.int .i64 ((rd_T83 l0 x5_1).f1)) ∧ w92.cell? ⟨(ad168.add ((x5_1).toNat * 5)).block, (ad168.add ((x5_1).toNat * 5)).off + 2, none⟩ = some (.int .i64 ((rd_T83 l0 x5_1).f2)) ∧ w92.cell? ⟨(ad168.add ((x5_1).toNat * 5)).block, (ad168.add ((x5_1).toNat * 5)).off + 3, none⟩ = some (.int .i64 ((rd_T83 l0 x5_1).f3)) ∧ w92.cell? ⟨(ad168.add ((x5_1).toNat * 5)).block, (ad168.add ((x5_1).toNat * 5)).off + 4, none⟩ = some (.int .i64 ((rd_T83 l0 x5_1).f4)) ∧ w92.cell? (ad168.add ((x6_2).toNat * 5)) = some (.int .i64 ((rd_T83 l0 x6_2).f0)) ∧ w92.cell? ⟨(ad168.add ((x6_2).toNat * 5)).block, (ad168.add ((x6_2).toNat * 5)).off + 1, none⟩ = some (.int .i64 ((rd_T83 l0 x6_2).f1)) ∧ w92.cell? ⟨(ad168.add ((x6_2).toNat * 5)).block, (ad168.add ((x6_2).toNat * 5)).off + 2, none⟩ = some (.int .i64 ((rd_T83 l0 x6_2).f2)) ∧ w92.cell? ⟨(ad168.add ((x6_2).toNat * 5)).block, (ad168.add ((x6_2).toNat * 5)).off + 3, none⟩ = some (.int .i64 ((rd_T83 l0 x6_2).f3)) ∧ w92.cell? ⟨(ad168.add ((x6_2).toNat * 5)).block, (ad168.add ((x6_2).toNat * 5)).off + 4, none⟩ = some (.int .i64 ((rd_T83 l0 x6_2).f4)) := hS_
         refine norm_ (a' := ?_) ?_ ?_
         rotate_left
         ·simp only [putAll, Act.put, List.setIfInBounds_toArray, List.set_cons_zero, List.set_cons_succ]
          rfl
         refine one_ (i := 10) (N := none) #[true, true, true, true, true, true, true, true, true, true, true, false] rfl rfl (one_of HT_.out (by kernel_rfl)) (by decide) (fun K hK => ?_)
         have hs93 : w92.cell? ⟨gb170, 0, none⟩ = some (.int .i64 0) := (blk_cell BK170.out 0).trans rfl
         have hfs93 := blk_frozen BK170.out 0
         have hns93_1 := NB171_170.out
         have hms93_1 := NB170_171.out
         have hs94 : w92.cell? ⟨gb170, 1, none⟩ = some (.int .i64 0) := (blk_cell BK170.out 1).trans rfl
         have hfs94 := blk_frozen BK170.out 1
         have hns94_1 := NB171_170.out
         have hms94_1 := NB170_171.out
         have hs95 : w92.cell? ⟨gb170, 2, none⟩ = some (.int .i64 0) := (blk_cell BK170.out 2).trans rfl
         have hfs95 := blk_frozen BK170.out 2
         have hns95_1 := NB171_170.out
         have hms95_1 := NB170_171.out
         have hs96 : w92.cell? ⟨gb170, 3, none⟩ = some (.int .i64 0) := (blk_cell BK170.out 3).trans rfl
         have hfs96 := blk_frozen BK170.out 3
         have hns96_1 := NB171_170.out
         have hms96_1 := NB170_171.out
         have hs97 : w92.cell? ⟨gb170, 4, none⟩ = some (.int .i64 0) := (blk_cell BK170.out 4).trans rfl
         have hfs97 := blk_frozen BK170.out 4
         have hns97_1 := NB171_170.out
         have hms97_1 := NB170_171.out
         refine skip_ (w1 := ?_) (by rfl) rfl ?_ ?_
         rotate_left
         ·go_simp
          rfl
         refine hK.out _ _ ⟨((cell_far (p := ⟨gb170, _, none⟩) (fn_ hw168_0 GW170.out) _).trans (((cell_far (p := ⟨gb170, _, none⟩) (fn_ hw168_0 GW170.out) _).trans (((cell_far (p := ⟨gb170, _, none⟩) (fn_ hw168_0 GW170.out) _).trans (((cell_far (p := ⟨gb170, _, none⟩) (fn_ hw168_0 GW170.out) _).trans (((cell_far (p := ⟨gb170, _, none⟩) (fn_ hw168_0 GW170.out) _).trans (hHeld.1)))))))))), ((cell_far (p := ⟨gb170, _, none⟩) (fn_ hw168_1 GW170.out) _).trans (((cell_far (p := ⟨gb170, _, none⟩) (fn_ hw168_1 GW170.out) _).trans (((cell_far (p := ⟨gb170, _, none⟩) (fn_ hw168_1 GW170.out) _).trans (((cell_far (p := ⟨gb170, _, none⟩) (fn_ hw168_1 GW170.out) _).trans (((cell_far (p := ⟨gb170, _, none⟩) (fn_ hw168_1 GW170.out) _).trans (hHeld.2.1)))))))))), ((cell_far (p := ⟨gb170, _, none⟩) (fn_ hw168_2 GW170.out) _).trans (((cell_far (p := ⟨gb170, _, none⟩) (fn_ hw168_2 GW170.out) _).trans (((cell_far (p := ⟨gb170, _, none⟩) (fn_ hw168_2 GW170.out) _).trans (((cell_far (p := ⟨gb170, _, none⟩) (fn_ hw168_2 GW170.out) _).trans (((cell_far (p := ⟨gb170, _, none⟩) (fn_ hw168_2 GW170.out) _).trans (hHeld.2.2.1)))))))))), ((cell_far (p := ⟨gb170, _, none⟩) (fn_ hw168_3 GW170.out) _).trans (((cell_far (p := ⟨gb170, _, none⟩) (fn_ hw168_3 GW170.out) _).trans (((cell_far (p := ⟨gb170, _, none⟩) (fn_ hw168_3 GW170.out) _).trans (((cell_far (p := ⟨gb170, _, none⟩) (fn_ hw168_3 GW170.out) _).trans (((cell_far (p := ⟨gb170, _, none⟩) (fn_ hw168_3 GW170.out) _).trans (hHeld.2.2.2.1)))))))))), ((cell_far (p := ⟨gb170, _, none⟩) (fn_ hw168_4 GW170.out) _).trans (((cell_far (p := ⟨gb170, _, none⟩) (fn_ hw168_4 GW170.out) _).trans (((cell_far (p := ⟨gb170, _, none⟩) (fn_ hw168_4 GW170.out) _).trans (((cell_far (p := ⟨gb170, _, none⟩) (fn_ hw168_4 GW170.out) _).trans (((cell_far (p := ⟨gb170, _, none⟩) (fn_ hw168_4 GW170.out) _).trans (hHeld.2.2.2.2.1)))))))))), ((cell_far (p := ⟨gb170, _, none⟩) (fn_ hw169_0 GW170.out) _).trans (((cell_far (p := ⟨gb170, _, none⟩) (fn_ hw169_0 GW170.out) _).trans (((cell_far (p := ⟨gb170, _, none⟩) (fn_ hw169_0 GW170.out) _).trans (((cell_far (p := ⟨gb170, _, none⟩) (fn_ hw169_0 GW170.out) _).trans (((cell_far (p := ⟨gb170, _, none⟩) (fn_ hw169_0 GW170.out) _).trans (hHeld.2.2.2.2.2.1)))))))))), ((cell_far (p := ⟨gb170, _, none⟩) (fn_ hw169_1 GW170.out) _).trans (((cell_far (p := ⟨gb170, _, none⟩) (fn_ hw169_1 GW170.out) _).trans (((cell_far (p := ⟨gb170, _, none⟩) (fn_ hw169_1 GW170.out) _).trans (((cell_far (p := ⟨gb170, _, none⟩) (fn_ hw169_1 GW170.out) _).trans (((cell_far (p := ⟨gb170, _, none⟩) (fn_ hw169_1 GW170.out) _).trans (hHeld.2.2.2.2.2.2.1)))))))))), ((cell_far (p := ⟨gb170, _, none⟩) (fn_ hw169_2 GW170.out) _).trans (((cell_far (p := ⟨gb170, _, none⟩) (fn_ hw169_2 GW170.out) _).trans (((cell_far (p := ⟨gb170, _, none⟩) (fn_ hw169_2 GW170.out) _).trans (((cell_far (p := ⟨gb170, _, none⟩) (fn_ hw169_2 GW170.out) _).trans (((cell_far (p := ⟨gb170, _, none⟩) (fn_ hw169_2 GW170.out) _).trans (hHeld.2.2.2.2.2.2.2.1)))))))))), ((cell_far (p := ⟨gb170, _, none⟩) (fn_ hw169_3 GW170.out) _).trans (((cell_far (p := ⟨gb170, _, none⟩) (fn_ hw169_3 GW170.out) _).trans (((cell_far (p := ⟨gb170, _, none⟩) (fn_ hw169_3 GW170.out) _).trans (((cell_far (p := ⟨gb170, _, none⟩) (fn_ hw169_3 GW170.out) _).trans (((cell_far (p := ⟨gb170, _, none⟩) (fn_ hw169_3 GW170.out) _).trans (hHeld.2.2.2.2.2.2.2.2.1)))))))))), ((cell_far (p := ⟨gb170, _, none⟩) (fn_ hw169_4 GW170.out) _).trans (((cell_far (p := ⟨gb170, _, none⟩) (fn_ hw169_4 GW170.out) _).trans (((cell_far (p := ⟨gb170, _, none⟩) (fn_ hw169_4 GW170.out) _).trans (((cell_far (p := ⟨gb170, _, none⟩) (fn_ hw169_4 GW170.out) _).trans (((cell_far (p := ⟨gb170, _, none⟩) (fn_ hw169_4 GW170.out) _).trans (hHeld.2.2.2.2.2.2.2.2.2))))))))))⟩ (fun hHeld => ?_)
         clear hK K
         refine one_ (i := 11) (N := none) #[true, true, true, true, true, true, true, true, true, true, true, true] rfl rfl (one_of HT_.out (by kernel_rfl)) (by decide) (fun K hK => ?_)
         have hs98 : w92.cell? ⟨gb171, 0, none⟩ = some (.int .i64 0) := (blk_cell BK171.out 0).trans rfl
         have hfs98 := blk_frozen BK171.out 0
         have hns98_0 := NB170_171.out
         have hms98_0 := NB171_170.out
         have hs99 : w92.cell? ⟨gb171, 1, none⟩ = some (.int .i64 0) := (blk_cell BK171.out 1).trans rfl
         have hfs99 := blk_frozen BK171.out 1
         have hns99_0 := NB170_171.out
         have hms99_0 := NB171_170.out
         have hs100 : w92.cell? ⟨gb171, 2, none⟩ = some (.int .i64 0) := (blk_cell BK171.out 2).trans rfl
         have hfs100 := blk_frozen BK171.out 2
         have hns100_0 := NB170_171.out
         have hms100_0 := NB171_170.out
         have hs101 : w92.cell? ⟨gb171, 3, none⟩ = some (.int .i64 0) := (blk_cell BK171.out 3).trans rfl
         have hfs101 := blk_frozen BK171.out 3
         have hns101_0 := NB170_171.out
         have hms101_0 := NB171_170.out
         have hs102 : w92.cell? ⟨gb171, 4, none⟩ = some (.int .i64 0) := (blk_cell BK171.out 4).trans rfl
         have hfs102 := blk_frozen BK171.out 4
         have hns102_0 := NB170_171.out
         have hms102_0 := NB171_170.out
         refine skip_ (w1 := ?_) (by rfl) rfl ?_ ?_
         rotate_left
         ·go_simp
          rfl
         refine hK.out _ _ ⟨((cell_far (p := ⟨gb171, _, none⟩) (fn_ hw168_0 GW171.out) _).trans (((cell_far (p := ⟨gb171, _, none⟩) (fn_ hw168_0 GW171.out) _).trans (((cell_far (p := ⟨gb171, _, none⟩) (fn_ hw168_0 GW171.out) _).trans (((cell_far (p := ⟨gb171, _, none⟩) (fn_ hw168_0 GW171.out) _).trans (((cell_far (p := ⟨gb171, _, none⟩) (fn_ hw168_0 GW171.out) _).trans (hHeld.1)))))))))), ((cell_far (p := ⟨gb171, _, none⟩) (fn_ hw168_1 GW171.out) _).trans (((cell_far (p := ⟨gb171, _, none⟩) (fn_ hw168_1 GW171.out) _).trans (((cell_far (p := ⟨gb171, _, none⟩) (fn_ hw168_1 GW171.out) _).trans (((cell_far (p := ⟨gb171, _, none⟩) (fn_ hw168_1 GW171.out) _).trans (((cell_far (p := ⟨gb171, _, none⟩) (fn_ hw168_1 GW171.out) _).trans (hHeld.2.1)))))))))), ((cell_far (p := ⟨gb171, _, none⟩) (fn_ hw168_2 GW171.out) _).trans (((cell_far (p := ⟨gb171, _, none⟩) (fn_ hw168_2 GW171.out) _).trans (((cell_far (p := ⟨gb171, _, none⟩) (fn_ hw168_2 GW171.out) _).trans (((cell_far (p := ⟨gb171, _, none⟩) (fn_ hw168_2 GW171.out) _).trans (((cell_far (p := ⟨gb171, _, none⟩) (fn_ hw168_2 GW171.out) _).trans (hHeld.2.2.1)))))))))), ((cell_far (p := ⟨gb171, _, none⟩) (fn_ hw168_3 GW171.out) _).trans (((cell_far (p := ⟨gb171, _, none⟩) (fn_ hw168_3 GW171.out) _).trans (((cell_far (p := ⟨gb171, _, none⟩) (fn_ hw168_3 GW171.out) _).trans (((cell_far (p := ⟨gb171, _, none⟩) (fn_ hw168_3 GW171.out) _).trans (((cell_far (p := ⟨gb171, _, none⟩) (fn_ hw168_3 GW171.out) _).trans (hHeld.2.2.2.1)))))))))), ((cell_far (p := ⟨gb171, _, none⟩) (fn_ hw168_4 GW171.out) _).trans (((cell_far (p := ⟨gb171, _, none⟩) (fn_ hw168_4 GW171.out) _).trans (((cell_far (p := ⟨gb171, _, none⟩) (fn_ hw168_4 GW171.out) _).trans (((cell_far (p := ⟨gb171, _, none⟩) (fn_ hw168_4 GW171.out) _).trans (((cell_far (p := ⟨gb171, _, none⟩) (fn_ hw168_4 GW171.out) _).trans (hHeld.2.2.2.2.1)))))))))), ((cell_far (p := ⟨gb171, _, none⟩) (fn_ hw169_0 GW171.out) _).trans (((cell_far (p := ⟨gb171, _, none⟩) (fn_ hw169_0 GW171.out) _).trans (((cell_far (p := ⟨gb171, _, none⟩) (fn_ hw169_0 GW171.out) _).trans (((cell_far (p := ⟨gb171, _, none⟩) (fn_ hw169_0 GW171.out) _).trans (((cell_far (p := ⟨gb171, _, none⟩) (fn_ hw169_0 GW171.out) _).trans (hHeld.2.2.2.2.2.1)))))))))), ((cell_far (p := ⟨gb171, _, none⟩) (fn_ hw169_1 GW171.out) _).trans (((cell_far (p := ⟨gb171, _, none⟩) (fn_ hw169_1 GW171.out) _).trans (((cell_far (p := ⟨gb171, _, none⟩) (fn_ hw169_1 GW171.out) _).trans (((cell_far (p := ⟨gb171, _, none⟩) (fn_ hw169_1 GW171.out) _).trans (((cell_far (p := ⟨gb171, _, none⟩) (fn_ hw169_1 GW171.out) _).trans (hHeld.2.2.2.2.2.2.1)))))))))), ((cell_far (p := ⟨gb171, _, none⟩) (fn_ hw169_2 GW171.out) _).trans (((cell_far (p := ⟨gb171, _, none⟩) (fn_ hw169_2 GW171.out) _).trans (((cell_far (p := ⟨gb171, _, none⟩) (fn_ hw169_2 GW171.out) _).trans (((cell_far (p := ⟨gb171, _, none⟩) (fn_ hw169_2 GW171.out) _).trans (((cell_far (p := ⟨gb171, _, none⟩) (fn_ hw169_2 GW171.out) _).trans (hHeld.2.2.2.2.2.2.2.1)))))))))), ((cell_far (p := ⟨gb171, _, none⟩) (fn_ hw169_3 GW171.out) _).trans (((cell_far (p := ⟨gb171, _, none⟩) (fn_ hw169_3 GW171.out) _).trans (((cell_far (p := ⟨gb171, _, none⟩) (fn_ hw169_3 GW171.out) _).trans (((cell_far (p := ⟨gb171, _, none⟩) (fn_ hw169_3 GW171.out) _).trans (((cell_far (p := ⟨gb171, _, none⟩) (fn_ hw169_3 GW171.out) _).trans (hHeld.2.2.2.2.2.2.2.2.1)))))))))), ((cell_far (p := ⟨gb171, _, none⟩) (fn_ hw169_4 GW171.out) _).trans (((cell_far (p := ⟨gb171, _, none⟩) (fn_ hw169_4 GW171.out) _).trans (((cell_far (p := ⟨gb171, _, none⟩) (fn_ hw169_4 GW171.out) _).trans (((cell_far (p := ⟨gb171, _, none⟩) (fn_ hw169_4 GW171.out) _).trans (((cell_far (p := ⟨gb171, _, none⟩) (fn_ hw169_4 GW171.out) _).trans (hHeld.2.2.2.2.2.2.2.2.2))))))))))⟩ (fun hHeld => ?_)
         clear hK K
         refine done_ (done_of HT_.out (by kernel_rfl)) ?_
         have hnb103 := NB170_171.out
         have hnc103 := NB171_170.out
         have hcz104_0 : w92.cell? ⟨gb170, 0, none⟩ = some (.int .i64 0) := (blk_cell BK170.out 0).trans rfl
         have hcz104_1 : w92.cell? ⟨gb170, 1, none⟩ = some (.int .i64 0) := (blk_cell BK170.out 1).trans rfl
         have hcz104_2 : w92.cell? ⟨gb170, 2, none⟩ = some (.int .i64 0) := (blk_cell BK170.out 2).trans rfl
         have hcz104_3 : w92.cell? ⟨gb170, 3, none⟩ = some (.int .i64 0) := (blk_cell BK170.out 3).trans rfl
         have hcz104_4 : w92.cell? ⟨gb170, 4, none⟩ = some (.int .i64 0) := (blk_cell BK170.out 4).trans rfl
         have hfz104_0 := blk_frozen BK170.out 0
         have hfz104_1 := blk_frozen BK170.out 1
         have hfz104_2 := blk_frozen BK170.out 2
         have hfz104_3 := blk_frozen BK170.out 3
         have hfz104_4 := blk_frozen BK170.out 4
         have hcz105_0 : w92.cell? ⟨gb171, 0, none⟩ = some (.int .i64 0) := (blk_cell BK171.out 0).trans rfl
         have hcz105_1 : w92.cell? ⟨gb171, 1, none⟩ = some (.int .i64 0) := (blk_cell BK171.out 1).trans rfl
         have hcz105_2 : w92.cell? ⟨gb171, 2, none⟩ = some (.int .i64 0) := (blk_cell BK171.out 2).trans rfl
         have hcz105_3 : w92.cell? ⟨gb171, 3, none⟩ = some (.int .i64 0) := (blk_cell BK171.out 3).trans rfl
         have hcz105_4 : w92.cell? ⟨gb171, 4, none⟩ = some (.int .i64 0) := (blk_cell BK171.out 4).trans rfl
         have hfz105_0 := blk_frozen BK171.out 0
         have hfz105_1 := blk_frozen BK171.out 1
         have hfz105_2 := blk_frozen BK171.out 2
         have hfz105_3 := blk_frozen BK171.out 3
         have hfz105_4 := blk_frozen BK171.out 4
         try go_wp2
         go_roundg k2
         case measure => have := HK1.out; have := HK2.out; omega
         case rel => exact ⟨(x4_2), (wrap64 (x6_2 + 1)), (by first | rfl | (simp; done) | (simp [*]; done)), H', ⟨by have := HK1.out; have := HK2.out; omega⟩, ⟨by (with_reducible repeat (first | apply Kd.S_alloc | apply Kd.S_drewN | apply Kd.S_drew)); exact Kd.S_mono (Kd.S_far (p := ⟨gb171, 4, none⟩) (Kd.S_far (p := ⟨gb171, 3, none⟩) (Kd.S_far (p := ⟨gb171, 2, none⟩) (Kd.S_far (p := ⟨gb171, 1, none⟩) (Kd.S_far (p := ⟨gb171, 0, none⟩) (Kd.S_far (p := ⟨gb170, 4, none⟩) (Kd.S_far (p := ⟨gb170, 3, none⟩) (Kd.S_far (p := ⟨gb170, 2, none⟩) (Kd.S_far (p := ⟨gb170, 1, none⟩) (Kd.S_far (p := ⟨gb170, 0, none⟩) (Kd.S_types (Kd.S_types HO_4.out BK170.out (by decide)) BK171.out (by decide)) (fun _ hk => hk.1.2) (.int .i64 ((rd_T83 l0 x5_1).f0))) (fun _ hk => hk.1.2) (.int .i64 ((rd_T83 l0 x5_1).f1))) (fun _ hk => hk.1.2) (.int .i64 ((rd_T83 l0 x5_1).f2))) (fun _ hk => hk.1.2) (.int .i64 ((rd_T83 l0 x5_1).f3))) (fun _ hk => hk.1.2) (.int .i64 ((rd_T83 l0 x5_1).f4))) (fun _ hk => hk.2) (.int .i64 ((rd_T83 l0 x6_2).f0))) (fun _ hk => hk.2) (.int .i64 ((rd_T83 l0 x6_2).f1))) (fun _ hk => hk.2) (.int .i64 ((rd_T83 l0 x6_2).f2))) (fun _ hk => hk.2) (.int .i64 ((rd_T83 l0 x6_2).f3))) (fun _ hk => hk.2) (.int .i64 ((rd_T83 l0 x6_2).f4))) (fun _ hk => trivial)⟩, ⟨by repeat (first | (with_reducible first | exact HB.out | apply below_alloc | apply pw_below_drewN | apply below_drew1 | refine below_set ?_ GE170.out | refine below_set ?_ GE171.out) | exact HB.out)⟩⟩
       ·rw [if_neg c8] at H
        have c8b0 : decide (x6_2 < (l0.length : Int)) = false := decide_eq_false c8
        clear c8
        have H' := Aside0.mk H
        clear H
        go_wp2
        go_roundg k2
        case measure => have := HK1.out; have := HK2.out; omega
        case rel => exact ⟨(x4_2), (wrap64 (x5_1 + 1)), (by first | rfl | (simp; done) | (simp [*]; done)), H', ⟨by have := HK1.out; have := HK2.out; omega⟩, ⟨by (with_reducible repeat (first | apply Kd.S_alloc | apply Kd.S_drewN | apply Kd.S_drew)); exact HO_4.out⟩, ⟨bl_ HB.out⟩⟩
    ·rw [if_neg c7] at H
     have c7b0 : decide (x5_1 < (l0.length : Int)) = false := decide_eq_false c7
     clear c7
     simp only [Option.some.injEq, Prod.mk.injEq] at H
     obtain ⟨rfl, rfl⟩ := H
     go_wp2
     go_ret2
     exact ⟨_, by first | rfl | (simp [errW_none, errW_some] <;> rfl) | (simp [*, errW_none, errW_some] <;> rfl), by (with_reducible repeat (first | apply Kd.S_alloc | apply Kd.S_drewN | apply Kd.S_drew)); exact HO_4.out, bl_ HB.out⟩
 ·replace c3 := Bool.eq_false_iff.mpr c3
  subst c3
  have H1 : (some (([] : List (List Int)), 1)) = some (r1, r2) := by rw [if_neg (show ¬ (false = true) by decide)] at H; exact H
  clear H
  have H := H1
  clear H1
  simp only [Option.some.injEq, Prod.mk.injEq] at H
  obtain ⟨rfl, rfl⟩ := H
  go_enter Try.func75, Try.ntmps75
  go_wp2_with (first | ((with_reducible refine gate_callee (f := 172) rfl ?_); refine goesL_ (some 10) rfl rfl Try.func172 (by kernel_rfl) rfl #[.slice A0 l0.length c0] rfl (by (try simp only [List.map_toArray, List.map_cons, List.map_nil]); first | done | rfl | (simp only [List.length_drop, List.length_take]; rfl)) ?_; (with_reducible refine (spec_IsSite.calls k _ _ l0 false _ ?side1 ?side2 A2.out).mono ?_); (case side1 => repeat (first | exact HR0.out | (with_reducible refine Kd.C_alloc ?_ _) | (with_reducible refine Kd.C_drewN ?_ _) | (with_reducible refine Kd.C_drew ?_))); (case side2 => exact HC0.out); rintro e w106 ⟨rfl, hb⟩; refine ⟨_, rfl, ?_⟩; have n0_ := Aside0.mk (below_step (bl_ HB.out) hb); clear HB; have HB := n0_; clear n0_; (try clear hb); (try clear hb2); (try clear hk); (try clear hi)))
  go_ret2
  exact ⟨_, by first | rfl | (simp [errW_none, errW_some] <;> rfl) | (simp [*, errW_none, errW_some] <;> rfl), by first | exact Kd.S_nil _ _ _ _ _ | exact Kd.N_nil _ _ _ _ _ | exact Kd.V_nil _ _ _ _ _ | exact Kd.Q_nil _ _ _ _ _ | exact Kd.R_nil _ _ _ _ _, bl_ HB.out⟩
end Go.Proofs.Ytedcdhnbceaaeaa.PFnExactOverlappingAreas
