/- QFnExactRackNeth of the law FnExactRackNet: taken over, declaration by declaration, as far as the law leans on it (the words and the printed functions are the kit's own print). No condition but what each says. -/
import Derived.Test.YtalcbcelalbhiaaZFnExactRackNetav
import Derived.Test.YtalcbcelalbhiaaZFnExactRackNetaw
import Derived.Test.YtalcbcelalbhiaaZFnExactRackNetbc
import Derived.Test.YtalcbcelalbhiaaZFnExactRackNetbd
namespace Go.Proofs.Ytalcbcelalbhiaa.PFnExactRackNet
open Go.RowKit Go.Proofs.YtalcbcelalbhiaaW.PrintWords Go.Proofs.YtalcbcelalbhiaaW.PrintLast Go.Proofs.YtalcbcelalbhiaaW.PrintMore
attribute [local go_sem] max2_int min2_int max_two min_two max_three min_three max_four min_four   -- for this text's walks alone
set_option linter.unusedVariables false
set_option linter.unusedSimpArgs false
open Bool renaming true → t_, false → f_
mutual
def impl_IsRack.j0 : Nat → List (S130) → Bool → Int → Int → List Int → List ByteArray → Option (Bool)
 | 0, _, _, _, _, _, _ => none
 | k + 1, x0, x45, x262000, x262001, x262002, x262003 => if x45 = true then (some false) else (impl_IsRack.l0 k x0 x262003 (x262003.length : Int) 0 x262000 x262001 x262002 x262003)
def impl_IsRack.l0 : Nat → List (S130) → List ByteArray → Int → Int → Int → Int → List Int → List ByteArray → Option (Bool)
 | 0, _, _, _, _, _, _, _, _ => none
 | k + 1, x0, x47, x48, x49, x262000, x262001, x262002, x262003 => if x49 < x48 then (if 0 ≤ x49 then (if x49 < (x47.length : Int) then (if (rdOf ByteArray.empty x47 x49).toList = ([] : List UInt8) then (impl_IsRack.l0 k x0 x47 x48 (wrap64 (x49 + 1)) x262000 x262001 x262002 x262003) else ((impl_articleOf.f k x0 (rdOf ByteArray.empty x47 x49)).bind fun t266 => (if t266 < 0 then (some false) else (if 0 ≤ t266 then (if t266 < (x0.length : Int) then (if x49 < (x262002.length : Int) then ((impl_fits.f ((rd_T130 x0 t266).f0) ((rd_T130 x0 t266).f1) ((rd_T130 x0 t266).f2) ((rd_T130 x0 t266).f3) ((rd_T130 x0 t266).f4) ((rd_T130 x0 t266).f5) ((rd_T130 x0 t266).f6) ((rd_T130 x0 t266).f7) ((rd_T130 x0 t266).f8) (rd x262002 x49)).bind fun t269 => (if t269 = true then (impl_IsRack.l0 k x0 x47 x48 (wrap64 (x49 + 1)) x262000 x262001 x262002 x262003) else (some false))) else (none)) else (none)) else (none))))) else (none)) else (none)) else (some true)
end
def impl_IsRack.f (k : Nat) (l0 : List (S130)) (a1_0 : Int) (a1_1 : Int) (l1_2 : List Int) (l1_3 : List ByteArray) : Option (Bool) := (impl_AreArticles.f k l0).bind fun t262 => (if t262 = true then ((impl_isPlace.f a1_0 a1_1).bind fun t263 => (if t263 = true then (if (l1_2.length : Int) < 1 then (impl_IsRack.j0 k l0 true a1_0 a1_1 l1_2 l1_3) else (if (l1_2.length : Int) > 12 then (impl_IsRack.j0 k l0 true a1_0 a1_1 l1_2 l1_3) else (if (l1_3.length : Int) = (l1_2.length : Int) then ((impl_allWithin.f k l1_2 20 300).bind fun t264 => (impl_IsRack.j0 k l0 (!t264) a1_0 a1_1 l1_2 l1_3)) else (impl_IsRack.j0 k l0 true a1_0 a1_1 l1_2 l1_3)))) else (impl_IsRack.j0 k l0 true a1_0 a1_1 l1_2 l1_3))) else (impl_IsRack.j0 k l0 true a1_0 a1_1 l1_2 l1_3))
def impl_IsRack.T8 : Bool × List (List Nat × List Nat) := (true, [([], []), ([0], [0]), ([1], [1]), ([2], [2]), ([2], [2]), ([3, 4, 2], [2, 3, 4]), ([5, 2], [2, 5]), ([2], [2]), ([7, 2], [2, 7]), ([2], [2]), ([8, 9, 2], [2, 8, 9]), ([10, 2], [2, 10]), ([6, 11, 2, 2], [2, 6, 11]), ([12, 2], [2, 12]), ([2, 13], [2, 13])])
def impl_IsRack.B8 : List Nat := [0, 1, 3, 7, 7, 31, 63, 7, 135, 7, 903, 1927, 4095, 8191, 16383]
theorem impl_IsRack.tab8 : rtab .any (opsOf Try.f108 8) = impl_IsRack.T8 := by kernel_rfl
theorem impl_IsRack.bits8 : waitsOk impl_IsRack.T8.2 impl_IsRack.B8 = true := by kernel_rfl
set_option maxHeartbeats 8000000 in
set_option maxRecDepth 100000 in
theorem impl_IsRack.calls (k : Nat) (A0 : Option Addr) (c0 : Nat) (l0 : List (S130)) (a1_0 : Int) (a1_1 : Int) (A1_2 : Option Addr) (c1_2 : Nat) (l1_2 : List Int) (A1_3 : Option Addr) (c1_3 : Nat) (l1_3 : List ByteArray) (r : Bool) (w : World) (hr0 : Kd.C k130 w A0 l0.length l0) (hc0 : l0.length ≤ c0) (hr1_2 : Kd.C (Kd.int .i64) w A1_2 l1_2.length l1_2) (hc1_2 : l1_2.length ≤ c1_2) (hr1_3 : Kd.C Kd.string w A1_3 l1_3.length l1_3) (hc1_3 : l1_3.length ≤ c1_3) (h : impl_IsRack.f k l0 a1_0 a1_1 l1_2 l1_3 = some r) :
  Calls Try.prog 108 #[.slice A0 l0.length c0, .agg #[.int .i64 a1_0, .int .i64 a1_1, .slice A1_2 l1_2.length c1_2, .slice A1_3 l1_3.length c1_3]] w fun e w' => e = .returned (.bool r) ∧ Below w.heap.size w w' := by
 have hu67 := Try.underlying67
 have hu130 := Try.underlying130
 have HR0 := Aside0.mk hr0
 have HC0 := Aside0.mk hc0
 clear hr0 hc0
 have HR1_2 := Aside0.mk hr1_2
 have HC1_2 := Aside0.mk hc1_2
 clear hr1_2 hc1_2
 have HR1_3 := Aside0.mk hr1_3
 have HC1_3 := Aside0.mk hc1_3
 clear hr1_3 hc1_3
 have HB := Aside0.mk (Below.refl w.heap.size w)
 have H : ((impl_AreArticles.f k l0).bind fun t262 => (if t262 = true then ((impl_isPlace.f a1_0 a1_1).bind fun t263 => (if t263 = true then (if (l1_2.length : Int) < 1 then (impl_IsRack.j0 k l0 true a1_0 a1_1 l1_2 l1_3) else (if (l1_2.length : Int) > 12 then (impl_IsRack.j0 k l0 true a1_0 a1_1 l1_2 l1_3) else (if (l1_3.length : Int) = (l1_2.length : Int) then ((impl_allWithin.f k l1_2 20 300).bind fun t264 => (impl_IsRack.j0 k l0 (!t264) a1_0 a1_1 l1_2 l1_3)) else (impl_IsRack.j0 k l0 true a1_0 a1_1 l1_2 l1_3)))) else (impl_IsRack.j0 k l0 true a1_0 a1_1 l1_2 l1_3))) else (impl_IsRack.j0 k l0 true a1_0 a1_1 l1_2 l1_3))) = some r := h
 clear h
 have HC3 := Aside0.mk H
 clear H
 go_enter Try.func108, Try.ntmps108
 go_upto_region 1 with (first | ((with_reducible refine gate_dst (N := 3) rfl ?_); (try (refine gate_guard (by rfl) ?_; dsimp only)); refine box_event ?hg (N := 3) ?hd (cs := #[.int .i64 a1_0, .int .i64 a1_1, .slice A1_2 l1_2.length c1_2, .slice A1_3 l1_3.length c1_3]) (t := 67) ?hr ?_; (case hd => rfl); (case hg => rfl); (case hr => first | (go_simp; done) | (go_simp; rfl)); intro gb261 hg w4 hbox hb; have BK261 := Aside0.mk (hbox); have GW261 := Aside0.mk ((by rw [hg]; exact (below_size (bl_ HB.out)) : w.heap.size ≤ gb261)); have GE261 := Aside0.mk ((by rw [hg]; exact (below_size (bl_ HB.out)) : w.heap.size ≤ gb261)); replace HB := Aside0.mk (below_step (bl_ HB.out) hb); clear hb hbox hg))
 (try simp only [Act.put, List.setIfInBounds_toArray, List.set_cons_zero, List.set_cons_succ])
 go_cut [45] (fun v45 wc => ∃ (kq : Nat) (x45_2 : Bool), v45 = .bool x45_2 ∧ Aside0 (impl_IsRack.j0 kq l0 x45_2 a1_0 a1_1 l1_2 l1_3 = some r) ∧ Aside0 (kq ≤ k) ∧ Aside0 (wc.heap[gb261]? = some (.cells #[.int .i64 a1_0, .int .i64 a1_1, (.slice A1_2 l1_2.length c1_2), (.slice A1_3 l1_3.length c1_3)] 67 (0, 0))) ∧ Aside0 (Below w.heap.size w wc))
 case first =>
  have H := HC3.out
  clear HC3
  replace H := Option.bind_eq_some_iff.mp H
  obtain ⟨t262, A50, H⟩ := H
  replace H : (if t262 = true then ((impl_isPlace.f a1_0 a1_1).bind fun t263 => (if t263 = true then (if (l1_2.length : Int) < 1 then (impl_IsRack.j0 k l0 true a1_0 a1_1 l1_2 l1_3) else (if (l1_2.length : Int) > 12 then (impl_IsRack.j0 k l0 true a1_0 a1_1 l1_2 l1_3) else (if (l1_3.length : Int) = (l1_2.length : Int) then ((impl_allWithin.f k l1_2 20 300).bind fun t264 => (impl_IsRack.j0 k l0 (!t264) a1_0 a1_1 l1_2 l1_3)) else (impl_IsRack.j0 k l0 true a1_0 a1_1 l1_2 l1_3)))) else (impl_IsRack.j0 k l0 true a1_0 a1_1 l1_2 l1_3))) else (impl_IsRack.j0 k l0 true a1_0 a1_1 l1_2 l1_3)) = some r := H
  have A5 := Aside0.mk A50
  clear A50
  by_cases c6 : t262 = true
  ·subst c6
   replace H : ((impl_isPlace.f a1_0 a1_1).bind fun t263 => (if t263 = true then (if (l1_2.length : Int) < 1 then (impl_IsRack.j0 k l0 true a1_0 a1_1 l1_2 l1_3) else (if (l1_2.length : Int) > 12 then (impl_IsRack.j0 k l0 true a1_0 a1_1 l1_2 l1_3) else (if (l1_3.length : Int) = (l1_2.length : Int) then ((impl_allWithin.f k l1_2 20 300).bind fun t264 => (impl_IsRack.j0 k l0 (!t264) a1_0 a1_1 l1_2 l1_3)) else (impl_IsRack.j0 k l0 true a1_0 a1_1 l1_2 l1_3)))) else (impl_IsRack.j0 k l0 true a1_0 a1_1 l1_2 l1_3))) = some r := by rw [if_pos rfl] at H; exact H
   replace H := Option.bind_eq_some_iff.mp H
   obtain ⟨t263, A70, H⟩ := H
   replace H : (if t263 = true then (if (l1_2.length : Int) < 1 then (impl_IsRack.j0 k l0 true a1_0 a1_1 l1_2 l1_3) else (if (l1_2.length : Int) > 12 then (impl_IsRack.j0 k l0 true a1_0 a1_1 l1_2 l1_3) else (if (l1_3.length : Int) = (l1_2.length : Int) then ((impl_allWithin.f k l1_2 20 300).bind fun t264 => (impl_IsRack.j0 k l0 (!t264) a1_0 a1_1 l1_2 l1_3)) else (impl_IsRack.j0 k l0 true a1_0 a1_1 l1_2 l1_3)))) else (impl_IsRack.j0 k l0 true a1_0 a1_1 l1_2 l1_3)) = some r := H
   have A7 := Aside0.mk A70
   clear A70
   by_cases c8 : t263 = true
   ·subst c8
    replace H : (if (l1_2.length : Int) < 1 then (impl_IsRack.j0 k l0 true a1_0 a1_1 l1_2 l1_3) else (if (l1_2.length : Int) > 12 then (impl_IsRack.j0 k l0 true a1_0 a1_1 l1_2 l1_3) else (if (l1_3.length : Int) = (l1_2.length : Int) then ((impl_allWithin.f k l1_2 20 300).bind fun t264 => (impl_IsRack.j0 k l0 (!t264) a1_0 a1_1 l1_2 l1_3)) else (impl_IsRack.j0 k l0 true a1_0 a1_1 l1_2 l1_3)))) = some r := by rw [if_pos rfl] at H; exact H
    by_cases c9 : (l1_2.length : Int) < 1
    ·rw [if_pos c9] at H
     have c9b0 : decide ((l1_2.length : Int) < 1) = true := decide_eq_true c9
     have c9b1 : decide (l1_2.length < 1) = true := decide_eq_true (by omega)
     clear c9
     (first | rw [c9b0] | (simp only [i64_w, i32_w]; rw [c9b0]) | skip)
     have H' := Aside0.mk H
     clear H
     go_wp2_with (first | ((with_reducible refine gate_callee (f := 143) rfl ?_); refine goesL_ (some 9) rfl rfl Try.func143 (by kernel_rfl) rfl #[.slice A0 l0.length c0] rfl ag_ ?_; (with_reducible refine (impl_AreArticles.calls k _ _ l0 true _ ?side1 ?side2 A5.out).mono ?_); (case side1 => exact r2_ HR0.out HB.out); (case side2 => exact HC0.out); rintro e w10 ⟨rfl, hb⟩; refine ⟨_, rfl, ?_⟩; replace BK261 := Aside0.mk (blk_below (g := gb261) (o := .cells #[.int .i64 a1_0, .int .i64 a1_1, .slice A1_2 l1_2.length c1_2, .slice A1_3 l1_3.length c1_3] 67 (0, 0)) (r1_ BK261.out) hb); replace HB := Aside0.mk (below_step (r0_ HB.out GE261.out) hb); (try clear hb); (try clear hb2); (try clear hk); (try clear hi); have hcz11_0 : w10.cell? ⟨gb261, 0, none⟩ = some (.int .i64 a1_0) := (blk_cell BK261.out 0).trans rfl; have hcz11_1 : w10.cell? ⟨gb261, 1, none⟩ = some (.int .i64 a1_1) := (blk_cell BK261.out 1).trans rfl; have hcz11_2 : w10.cell? ⟨gb261, 2, none⟩ = some (.slice A1_2 l1_2.length c1_2) := (blk_cell BK261.out 2).trans rfl; have hcz11_3 : w10.cell? ⟨gb261, 3, none⟩ = some (.slice A1_3 l1_3.length c1_3) := (blk_cell BK261.out 3).trans rfl; have hfz11_0 := blk_frozen BK261.out 0; have hfz11_1 := blk_frozen BK261.out 1; have hfz11_2 := blk_frozen BK261.out 2; have hfz11_3 := blk_frozen BK261.out 3) | (go_at_call 92; (with_reducible refine (impl_isPlace.calls a1_0 a1_1 true _ A7.out).mono ?_); rintro e w' ⟨rfl, ⟨nd, rfl⟩⟩))
     go_meet
     case rel => exact ⟨_, (true), (by first | rfl | (simp; done) | (simp [*]; done)), H', ⟨by first | omega | exact Nat.le_refl _⟩, ⟨r1_ BK261.out⟩, ⟨r0_ HB.out GE261.out⟩⟩
    ·rw [if_neg c9] at H
     have c9b0 : decide ((l1_2.length : Int) < 1) = false := decide_eq_false c9
     have c9b1 : decide (l1_2.length < 1) = false := decide_eq_false (by omega)
     clear c9
     (first | rw [c9b0] | (simp only [i64_w, i32_w]; rw [c9b0]) | skip)
     by_cases c12 : (l1_2.length : Int) > 12
     ·rw [if_pos c12] at H
      have c12b0 : decide (12 < (l1_2.length : Int)) = true := decide_eq_true c12
      have c12b1 : decide (12 < l1_2.length) = true := decide_eq_true (by omega)
      clear c12
      have H' := Aside0.mk H
      clear H
      go_wp2_with (first | ((with_reducible refine gate_callee (f := 143) rfl ?_); refine goesL_ (some 9) rfl rfl Try.func143 (by kernel_rfl) rfl #[.slice A0 l0.length c0] rfl ag_ ?_; (with_reducible refine (impl_AreArticles.calls k _ _ l0 true _ ?side1 ?side2 A5.out).mono ?_); (case side1 => exact r2_ HR0.out HB.out); (case side2 => exact HC0.out); rintro e w13 ⟨rfl, hb⟩; refine ⟨_, rfl, ?_⟩; replace BK261 := Aside0.mk (blk_below (g := gb261) (o := .cells #[.int .i64 a1_0, .int .i64 a1_1, .slice A1_2 l1_2.length c1_2, .slice A1_3 l1_3.length c1_3] 67 (0, 0)) (r1_ BK261.out) hb); replace HB := Aside0.mk (below_step (r0_ HB.out GE261.out) hb); (try clear hb); (try clear hb2); (try clear hk); (try clear hi); have hcz14_0 : w13.cell? ⟨gb261, 0, none⟩ = some (.int .i64 a1_0) := (blk_cell BK261.out 0).trans rfl; have hcz14_1 : w13.cell? ⟨gb261, 1, none⟩ = some (.int .i64 a1_1) := (blk_cell BK261.out 1).trans rfl; have hcz14_2 : w13.cell? ⟨gb261, 2, none⟩ = some (.slice A1_2 l1_2.length c1_2) := (blk_cell BK261.out 2).trans rfl; have hcz14_3 : w13.cell? ⟨gb261, 3, none⟩ = some (.slice A1_3 l1_3.length c1_3) := (blk_cell BK261.out 3).trans rfl; have hfz14_0 := blk_frozen BK261.out 0; have hfz14_1 := blk_frozen BK261.out 1; have hfz14_2 := blk_frozen BK261.out 2; have hfz14_3 := blk_frozen BK261.out 3) | (go_at_call 92; (with_reducible refine (impl_isPlace.calls a1_0 a1_1 true _ A7.out).mono ?_); rintro e w' ⟨rfl, ⟨nd, rfl⟩⟩))
      go_meet
      case rel => exact ⟨_, (true), (by first | rfl | (simp; done) | (simp [*]; done)), H', ⟨by first | omega | exact Nat.le_refl _⟩, ⟨r1_ BK261.out⟩, ⟨r0_ HB.out GE261.out⟩⟩
     ·rw [if_neg c12] at H
      have c12b0 : decide (12 < (l1_2.length : Int)) = false := decide_eq_false c12
      have c12b1 : decide (12 < l1_2.length) = false := decide_eq_false (by omega)
      clear c12
      by_cases c15 : (l1_3.length : Int) = (l1_2.length : Int)
      ·rw [if_pos c15] at H
       have c15b0 : ((l1_3.length : Int) == (l1_2.length : Int)) = true := beq_iff_eq.mpr c15
       have c15b1 : ((l1_3.length : Int) != (l1_2.length : Int)) = false := bne_eq_false_iff_eq.mpr c15
       have c15b2 : (l1_3.length == l1_2.length) = true := by first | simpa using c15 | (simp at c15 ⊢; omega)
       clear c15
       replace H := Option.bind_eq_some_iff.mp H
       obtain ⟨t264, A160, H⟩ := H
       replace H : (impl_IsRack.j0 k l0 (!t264) a1_0 a1_1 l1_2 l1_3) = some r := H
       have A16 := Aside0.mk A160
       clear A160
       have H' := Aside0.mk H
       clear H
       go_wp2_with (first | ((with_reducible refine gate_callee (f := 143) rfl ?_); refine goesL_ (some 9) rfl rfl Try.func143 (by kernel_rfl) rfl #[.slice A0 l0.length c0] rfl ag_ ?_; (with_reducible refine (impl_AreArticles.calls k _ _ l0 true _ ?side1 ?side2 A5.out).mono ?_); (case side1 => exact r2_ HR0.out HB.out); (case side2 => exact HC0.out); rintro e w17 ⟨rfl, hb⟩; refine ⟨_, rfl, ?_⟩; replace BK261 := Aside0.mk (blk_below (g := gb261) (o := .cells #[.int .i64 a1_0, .int .i64 a1_1, .slice A1_2 l1_2.length c1_2, .slice A1_3 l1_3.length c1_3] 67 (0, 0)) (r1_ BK261.out) hb); replace HB := Aside0.mk (below_step (r0_ HB.out GE261.out) hb); (try clear hb); (try clear hb2); (try clear hk); (try clear hi); have hcz18_0 : w17.cell? ⟨gb261, 0, none⟩ = some (.int .i64 a1_0) := (blk_cell BK261.out 0).trans rfl; have hcz18_1 : w17.cell? ⟨gb261, 1, none⟩ = some (.int .i64 a1_1) := (blk_cell BK261.out 1).trans rfl; have hcz18_2 : w17.cell? ⟨gb261, 2, none⟩ = some (.slice A1_2 l1_2.length c1_2) := (blk_cell BK261.out 2).trans rfl; have hcz18_3 : w17.cell? ⟨gb261, 3, none⟩ = some (.slice A1_3 l1_3.length c1_3) := (blk_cell BK261.out 3).trans rfl; have hfz18_0 := blk_frozen BK261.out 0; have hfz18_1 := blk_frozen BK261.out 1; have hfz18_2 := blk_frozen BK261.out 2; have hfz18_3 := blk_frozen BK261.out 3) | (go_at_call 92; (with_reducible refine (impl_isPlace.calls a1_0 a1_1 true _ A7.out).mono ?_); rintro e w' ⟨rfl, ⟨nd, rfl⟩⟩) | (go_at_call 144; (with_reducible refine (impl_allWithin.calls k _ _ l1_2 20 300 t264 _ ?side1 ?side2 A16.out).mono ?_); (case side1 => exact r4_ HR1_2.out HB.out GE261.out); (case side2 => exact HC1_2.out); rintro e w' ⟨rfl, ⟨nd, rfl⟩⟩))
       go_meet
       case rel => exact ⟨_, (!t264), (by first | rfl | (simp; done) | (simp [*]; done)), H', ⟨by first | omega | exact Nat.le_refl _⟩, ⟨r1_ BK261.out⟩, ⟨r0_ HB.out GE261.out⟩⟩
      ·rw [if_neg c15] at H
       have c15b0 : ((l1_3.length : Int) == (l1_2.length : Int)) = false := beq_eq_false_iff_ne.mpr c15
       have c15b1 : ((l1_3.length : Int) != (l1_2.length : Int)) = true := bne_iff_ne.mpr c15
       have c15b2 : (l1_3.length == l1_2.length) = false := by first | simpa using c15 | (simp at c15 ⊢; omega)
       have H' := Aside0.mk H
       clear H
       go_wp2_with (first | ((with_reducible refine gate_callee (f := 143) rfl ?_); refine goesL_ (some 9) rfl rfl Try.func143 (by kernel_rfl) rfl #[.slice A0 l0.length c0] rfl ag_ ?_; (with_reducible refine (impl_AreArticles.calls k _ _ l0 true _ ?side1 ?side2 A5.out).mono ?_); (case side1 => exact r2_ HR0.out HB.out); (case side2 => exact HC0.out); rintro e w19 ⟨rfl, hb⟩; refine ⟨_, rfl, ?_⟩; replace BK261 := Aside0.mk (blk_below (g := gb261) (o := .cells #[.int .i64 a1_0, .int .i64 a1_1, .slice A1_2 l1_2.length c1_2, .slice A1_3 l1_3.length c1_3] 67 (0, 0)) (r1_ BK261.out) hb); replace HB := Aside0.mk (below_step (r0_ HB.out GE261.out) hb); (try clear hb); (try clear hb2); (try clear hk); (try clear hi); have hcz20_0 : w19.cell? ⟨gb261, 0, none⟩ = some (.int .i64 a1_0) := (blk_cell BK261.out 0).trans rfl; have hcz20_1 : w19.cell? ⟨gb261, 1, none⟩ = some (.int .i64 a1_1) := (blk_cell BK261.out 1).trans rfl; have hcz20_2 : w19.cell? ⟨gb261, 2, none⟩ = some (.slice A1_2 l1_2.length c1_2) := (blk_cell BK261.out 2).trans rfl; have hcz20_3 : w19.cell? ⟨gb261, 3, none⟩ = some (.slice A1_3 l1_3.length c1_3) := (blk_cell BK261.out 3).trans rfl; have hfz20_0 := blk_frozen BK261.out 0; have hfz20_1 := blk_frozen BK261.out 1; have hfz20_2 := blk_frozen BK261.out 2; have hfz20_3 := blk_frozen BK261.out 3) | (go_at_call 92; (with_reducible refine (impl_isPlace.calls a1_0 a1_1 true _ A7.out).mono ?_); rintro e w' ⟨rfl, ⟨nd, rfl⟩⟩))
       go_meet
       case rel => exact ⟨_, (true), (by first | rfl | (simp; done) | (simp [*]; done)), H', ⟨by first | omega | exact Nat.le_refl _⟩, ⟨r1_ BK261.out⟩, ⟨r0_ HB.out GE261.out⟩⟩
   ·replace c8 := Bool.eq_false_iff.mpr c8
    subst c8
    replace H : (impl_IsRack.j0 k l0 true a1_0 a1_1 l1_2 l1_3) = some r := by rw [if_neg (show ¬ (false = true) by decide)] at H; exact H
    have H' := Aside0.mk H
    clear H
    go_wp2_with (first | ((with_reducible refine gate_callee (f := 143) rfl ?_); refine goesL_ (some 9) rfl rfl Try.func143 (by kernel_rfl) rfl #[.slice A0 l0.length c0] rfl ag_ ?_; (with_reducible refine (impl_AreArticles.calls k _ _ l0 true _ ?side1 ?side2 A5.out).mono ?_); (case side1 => exact r2_ HR0.out HB.out); (case side2 => exact HC0.out); rintro e w21 ⟨rfl, hb⟩; refine ⟨_, rfl, ?_⟩; replace BK261 := Aside0.mk (blk_below (g := gb261) (o := .cells #[.int .i64 a1_0, .int .i64 a1_1, .slice A1_2 l1_2.length c1_2, .slice A1_3 l1_3.length c1_3] 67 (0, 0)) (r1_ BK261.out) hb); replace HB := Aside0.mk (below_step (r0_ HB.out GE261.out) hb); (try clear hb); (try clear hb2); (try clear hk); (try clear hi); have hcz22_0 : w21.cell? ⟨gb261, 0, none⟩ = some (.int .i64 a1_0) := (blk_cell BK261.out 0).trans rfl; have hcz22_1 : w21.cell? ⟨gb261, 1, none⟩ = some (.int .i64 a1_1) := (blk_cell BK261.out 1).trans rfl; have hcz22_2 : w21.cell? ⟨gb261, 2, none⟩ = some (.slice A1_2 l1_2.length c1_2) := (blk_cell BK261.out 2).trans rfl; have hcz22_3 : w21.cell? ⟨gb261, 3, none⟩ = some (.slice A1_3 l1_3.length c1_3) := (blk_cell BK261.out 3).trans rfl; have hfz22_0 := blk_frozen BK261.out 0; have hfz22_1 := blk_frozen BK261.out 1; have hfz22_2 := blk_frozen BK261.out 2; have hfz22_3 := blk_frozen BK261.out 3) | (go_at_call 92; (with_reducible refine (impl_isPlace.calls a1_0 a1_1 false _ A7.out).mono ?_); rintro e w' ⟨rfl, ⟨nd, rfl⟩⟩))
    go_meet
    case rel => exact ⟨_, (true), (by first | rfl | (simp; done) | (simp [*]; done)), H', ⟨by first | omega | exact Nat.le_refl _⟩, ⟨r1_ BK261.out⟩, ⟨r0_ HB.out GE261.out⟩⟩
  ·replace c6 := Bool.eq_false_iff.mpr c6
   subst c6
   replace H : (impl_IsRack.j0 k l0 true a1_0 a1_1 l1_2 l1_3) = some r := by rw [if_neg (show ¬ (false = true) by decide)] at H; exact H
   have H' := Aside0.mk H
   clear H
   go_wp2_with (first | ((with_reducible refine gate_callee (f := 143) rfl ?_); refine goesL_ (some 9) rfl rfl Try.func143 (by kernel_rfl) rfl #[.slice A0 l0.length c0] rfl ag_ ?_; (with_reducible refine (impl_AreArticles.calls k _ _ l0 false _ ?side1 ?side2 A5.out).mono ?_); (case side1 => exact r2_ HR0.out HB.out); (case side2 => exact HC0.out); rintro e w23 ⟨rfl, hb⟩; refine ⟨_, rfl, ?_⟩; replace BK261 := Aside0.mk (blk_below (g := gb261) (o := .cells #[.int .i64 a1_0, .int .i64 a1_1, .slice A1_2 l1_2.length c1_2, .slice A1_3 l1_3.length c1_3] 67 (0, 0)) (r1_ BK261.out) hb); replace HB := Aside0.mk (below_step (r0_ HB.out GE261.out) hb); (try clear hb); (try clear hb2); (try clear hk); (try clear hi)))
   go_meet
   case rel => exact ⟨_, (true), (by first | rfl | (simp; done) | (simp [*]; done)), H', ⟨by first | omega | exact Nat.le_refl _⟩, ⟨r1_ BK261.out⟩, ⟨r0_ HB.out GE261.out⟩⟩
 case rest =>
  clear HC3
  try clear c1
  try clear p2
  try clear c6
  try clear c8
  try clear c9
  try clear c9b0
  try clear c9b1
  try clear c10
  try clear c12
  try clear c12b0
  try clear c12b1
  try clear c14
  try clear c15
  try clear c15b0
  try clear c15b1
  try clear c15b2
  try clear hcz11_0
  try clear hcz11_1
  try clear hcz11_2
  try clear hcz11_3
  try clear hcz14_0
  try clear hcz14_1
  try clear hcz14_2
  try clear hcz14_3
  try clear hcz18_0
  try clear hcz18_1
  try clear hcz18_2
  try clear hcz18_3
  try clear hcz20_0
  try clear hcz20_1
  try clear hcz20_2
  try clear hcz20_3
  try clear hcz22_0
  try clear hcz22_1
  try clear hcz22_2
  try clear hcz22_3
  try clear hfz11_0
  try clear hfz11_1
  try clear hfz11_2
  try clear hfz11_3
  try clear hfz14_0
  try clear hfz14_1
  try clear hfz14_2
  try clear hfz14_3
  try clear hfz18_0
  try clear hfz18_1
  try clear hfz18_2
  try clear hfz18_3
  try clear hfz20_0
  try clear hfz20_1
  try clear hfz20_2
  try clear hfz20_3
  try clear hfz22_0
  try clear hfz22_1
  try clear hfz22_2
  try clear hfz22_3
  obtain ⟨kq, x45_2, rfl, HA, HJ2, BK261, HB⟩ := hcut
  cases kq with
  | zero => exact absurd HA.out (by simp [impl_IsRack.j0])
  | succ kj2 =>
   have H := HA.out
   clear HA
   simp only [impl_IsRack.j0] at H
   by_cases c24 : x45_2 = true
   ·subst c24
    replace H : (some false) = some r := by rw [if_pos rfl] at H; exact H
    obtain rfl := Option.some.inj H
    go_wp2
    go_ret
    exact ⟨by first | rfl | (simp [errW_none, errW_some] <;> rfl) | (simp [*, errW_none, errW_some] <;> rfl), r0_ HB.out GE261.out⟩
   ·replace c24 := Bool.eq_false_iff.mpr c24
    subst c24
    replace H : (impl_IsRack.l0 kj2 l0 l1_3 (l1_3.length : Int) 0 a1_0 a1_1 l1_2 l1_3) = some r := by rw [if_neg (show ¬ (false = true) by decide)] at H; exact H
    have H' := Aside0.mk H
    clear H
    have hcz25_0 : wc.cell? ⟨gb261, 0, none⟩ = some (.int .i64 a1_0) := (blk_cell BK261.out 0).trans rfl
    have hcz25_1 : wc.cell? ⟨gb261, 1, none⟩ = some (.int .i64 a1_1) := (blk_cell BK261.out 1).trans rfl
    have hcz25_2 : wc.cell? ⟨gb261, 2, none⟩ = some (.slice A1_2 l1_2.length c1_2) := (blk_cell BK261.out 2).trans rfl
    have hcz25_3 : wc.cell? ⟨gb261, 3, none⟩ = some (.slice A1_3 l1_3.length c1_3) := (blk_cell BK261.out 3).trans rfl
    have hfz25_0 := blk_frozen BK261.out 0
    have hfz25_1 := blk_frozen BK261.out 1
    have hfz25_2 := blk_frozen BK261.out 2
    have hfz25_3 := blk_frozen BK261.out 3
    go_wp2
    go_loopg [49] kj2 (fun kq v49 w' => ∃ (x49_2 : Int), v49 = .int .i64 x49_2 ∧ Aside0 (impl_IsRack.l0 kq l0 l1_3 (l1_3.length : Int) x49_2 a1_0 a1_1 l1_2 l1_3 = some r) ∧ Aside0 (kq ≤ kj2) ∧ Aside0 (w'.heap[gb261]? = some (.cells #[.int .i64 a1_0, .int .i64 a1_1, (.slice A1_2 l1_2.length c1_2), (.slice A1_3 l1_3.length c1_3)] 67 (0, 0))) ∧ Aside0 (Below w.heap.size w w'))
    case atStart => exact ⟨(0), (by first | rfl | (simp; done) | (simp [*]; done)), H', ⟨Nat.le_refl _⟩, ⟨r1_ BK261.out⟩, ⟨r0_ HB.out GE261.out⟩⟩
    case round =>
     clear H'
     try clear c1
     try clear c2
     try clear p2
     try clear c6
     try clear c8
     try clear c9
     try clear c9b0
     try clear c9b1
     try clear c10
     try clear c12
     try clear c12b0
     try clear c12b1
     try clear c14
     try clear c15
     try clear c15b0
     try clear c15b1
     try clear c15b2
     try clear c24
     try clear hcz11_0
     try clear hcz11_1
     try clear hcz11_2
     try clear hcz11_3
     try clear hcz14_0
     try clear hcz14_1
     try clear hcz14_2
     try clear hcz14_3
     try clear hcz18_0
     try clear hcz18_1
     try clear hcz18_2
     try clear hcz18_3
     try clear hcz20_0
     try clear hcz20_1
     try clear hcz20_2
     try clear hcz20_3
     try clear hcz22_0
     try clear hcz22_1
     try clear hcz22_2
     try clear hcz22_3
     try clear hcz25_0
     try clear hcz25_1
     try clear hcz25_2
     try clear hcz25_3
     try clear hfz11_0
     try clear hfz11_1
     try clear hfz11_2
     try clear hfz11_3
     try clear hfz14_0
     try clear hfz14_1
     try clear hfz14_2
     try clear hfz14_3
     try clear hfz18_0
     try clear hfz18_1
     try clear hfz18_2
     try clear hfz18_3
     try clear hfz20_0
     try clear hfz20_1
     try clear hfz20_2
     try clear hfz20_3
     try clear hfz22_0
     try clear hfz22_1
     try clear hfz22_2
     try clear hfz22_3
     try clear hfz25_0
     try clear hfz25_1
     try clear hfz25_2
     try clear hfz25_3
     try clear p2
     obtain ⟨x49_2, rfl, HA, HK2, BK261, HB⟩ := hrel
     cases gk with
     | zero => exact absurd HA.out (by simp [impl_IsRack.l0])
     | succ k2 =>
      have H := HA.out
      clear HA
      simp only [impl_IsRack.l0] at H
      by_cases c26 : x49_2 < (l1_3.length : Int)
      ·rw [if_pos c26] at H
       have c26b0 : decide (x49_2 < (l1_3.length : Int)) = true := decide_eq_true c26
       clear c26
       by_cases c27 : 0 ≤ x49_2
       case neg =>
        rw [if_neg c27] at H
        exact absurd H (by simp)
       rw [if_pos c27] at H
       have c27b0 : decide (0 ≤ x49_2) = true := decide_eq_true c27
       clear c27
       by_cases c28 : x49_2 < (l1_3.length : Int)
       case neg =>
        rw [if_neg c28] at H
        exact absurd H (by simp)
       rw [if_pos c28] at H
       have c28b0 : decide (x49_2 < (l1_3.length : Int)) = true := decide_eq_true c28
       clear c28
       by_cases c29 : (rdOf ByteArray.empty l1_3 x49_2).toList = ([] : List UInt8)
       ·rw [if_pos c29] at H
        have c29b0 : ((rdOf ByteArray.empty l1_3 x49_2).toList == ([] : List UInt8)) = true := beq_iff_eq.mpr c29
        have c29b1 : ((rdOf ByteArray.empty l1_3 x49_2).toList != ([] : List UInt8)) = false := bne_eq_false_iff_eq.mpr c29
        clear c29
        have H' := Aside0.mk H
        clear H
        have p265 : 0 ≤ (x49_2 : Int) := od_
        have q265 : x49_2 < (l1_3.length : Int) := od_
        obtain ⟨ad265, e265, hx265_0⟩ := Kd.at_string HR1_3.out x49_2 p265 q265
        cases e265
        replace hx265_0 := bc_ HB.out hx265_0
        replace p265 := eq_true p265
        replace q265 := eq_true q265
        go_wp2
        go_roundg k2
        case measure => have := HJ2.out; have := HK2.out; omega
        case rel => exact ⟨(wrap64 (x49_2 + 1)), (by first | rfl | (simp; done) | (simp [*]; done)), H', ⟨by have := HJ2.out; have := HK2.out; omega⟩, ⟨r1_ BK261.out⟩, ⟨r0_ HB.out GE261.out⟩⟩
       ·rw [if_neg c29] at H
        have c29b0 : ((rdOf ByteArray.empty l1_3 x49_2).toList == ([] : List UInt8)) = false := beq_eq_false_iff_ne.mpr c29
        have c29b1 : ((rdOf ByteArray.empty l1_3 x49_2).toList != ([] : List UInt8)) = true := bne_iff_ne.mpr c29
        replace H := Option.bind_eq_some_iff.mp H
        obtain ⟨t266, A300, H⟩ := H
        replace H : (if t266 < 0 then (some false) else (if 0 ≤ t266 then (if t266 < (l0.length : Int) then (if x49_2 < (l1_2.length : Int) then ((impl_fits.f ((rd_T130 l0 t266).f0) ((rd_T130 l0 t266).f1) ((rd_T130 l0 t266).f2) ((rd_T130 l0 t266).f3) ((rd_T130 l0 t266).f4) ((rd_T130 l0 t266).f5) ((rd_T130 l0 t266).f6) ((rd_T130 l0 t266).f7) ((rd_T130 l0 t266).f8) (rd l1_2 x49_2)).bind fun t269 => (if t269 = true then (impl_IsRack.l0 k2 l0 l1_3 (l1_3.length : Int) (wrap64 (x49_2 + 1)) a1_0 a1_1 l1_2 l1_3) else (some false))) else (none)) else (none)) else (none))) = some r := H
        have A30 := Aside0.mk A300
        clear A300
        by_cases c31 : t266 < 0
        ·rw [if_pos c31] at H
         have c31b0 : decide (t266 < 0) = true := decide_eq_true c31
         clear c31
         obtain rfl := Option.some.inj H
         have p265 : 0 ≤ (x49_2 : Int) := od_
         have q265 : x49_2 < (l1_3.length : Int) := od_
         obtain ⟨ad265, e265, hx265_0⟩ := Kd.at_string HR1_3.out x49_2 p265 q265
         cases e265
         replace hx265_0 := bc_ HB.out hx265_0
         replace p265 := eq_true p265
         replace q265 := eq_true q265
         try go_wp2_with (first | ((with_reducible refine gate_callee (f := 145) rfl ?_); refine goesL_ (some 58) rfl rfl Try.func145 (by kernel_rfl) rfl #[.slice A0 l0.length c0, .string (rdOf ByteArray.empty l1_3 x49_2)] rfl ag_ ?_; (with_reducible refine (impl_articleOf.calls k2 _ _ l0 (rdOf ByteArray.empty l1_3 x49_2) t266 _ ?side1 ?side2 A30.out).mono ?_); (case side1 => exact r2_ HR0.out HB.out); (case side2 => exact HC0.out); rintro e w32 ⟨rfl, hb⟩; refine ⟨_, rfl, ?_⟩; replace BK261 := Aside0.mk (blk_below (g := gb261) (o := .cells #[.int .i64 a1_0, .int .i64 a1_1, .slice A1_2 l1_2.length c1_2, .slice (some ad265) l1_3.length c1_3] 67 (0, 0)) (r1_ BK261.out) hb); replace HB := Aside0.mk (below_step (r0_ HB.out GE261.out) hb); (try clear hb); (try clear hb2); (try clear hk); (try clear hi)))
         replace BK261 := Aside0.mk (blk_drew BK261.out)
         replace HB := Aside0.mk (below_drew1 HB.out)
         refine start_ (n := 15) (S := fun w' => True) (ds := []) #[f_,f_,f_,f_,f_,f_,f_,f_,f_,f_,f_,f_,f_,f_,f_] (by kernel_rfl) rfl rfl trivial (fun hHeld => ?_); refine with_tabW impl_IsRack.tab8 impl_IsRack.bits8 (fun HT_ HW_ => ?_)
         generalize w32.drew = w33 at BK261 HB hHeld ⊢
         refine pu_ 0 59 #[t_,f_,f_,f_,f_,f_,f_,f_,f_,f_,f_,f_,f_,f_,f_] HT_.out ?_
         refine pu_ 1 60 #[t_,t_,f_,f_,f_,f_,f_,f_,f_,f_,f_,f_,f_,f_,f_] HT_.out ?_
         refine pu_ 2 61 #[t_,t_,t_,f_,f_,f_,f_,f_,f_,f_,f_,f_,f_,f_,f_] HT_.out ?_
         refine un_ 3 62 #[t_,t_,t_,t_,f_,f_,f_,f_,f_,f_,f_,f_,f_,f_,f_] HT_.out ?_
         refine un_ 4 63 #[t_,t_,t_,t_,t_,f_,f_,f_,f_,f_,f_,f_,f_,f_,f_] HT_.out ?_
         refine un_ 5 64 #[t_,t_,t_,t_,t_,t_,f_,f_,f_,f_,f_,f_,f_,f_,f_] HT_.out ?_
         refine un_ 6 65 #[t_,t_,t_,t_,t_,t_,t_,f_,f_,f_,f_,f_,f_,f_,f_] HT_.out ?_
         refine un_ 7 66 #[t_,t_,t_,t_,t_,t_,t_,t_,f_,f_,f_,f_,f_,f_,f_] HT_.out ?_
         refine un_ 8 67 #[t_,t_,t_,t_,t_,t_,t_,t_,t_,f_,f_,f_,f_,f_,f_] HT_.out ?_
         refine un_ 9 68 #[t_,t_,t_,t_,t_,t_,t_,t_,t_,t_,f_,f_,f_,f_,f_] HT_.out ?_
         refine un_ 10 69 #[t_,t_,t_,t_,t_,t_,t_,t_,t_,t_,t_,f_,f_,f_,f_] HT_.out ?_
         refine un_ 11 70 #[t_,t_,t_,t_,t_,t_,t_,t_,t_,t_,t_,t_,f_,f_,f_] HT_.out ?_
         refine un_ 12 71 #[t_,t_,t_,t_,t_,t_,t_,t_,t_,t_,t_,t_,t_,f_,f_] HT_.out ?_
         refine un_ 13 72 #[t_,t_,t_,t_,t_,t_,t_,t_,t_,t_,t_,t_,t_,t_,f_] HT_.out ?_
         refine pu_ 14 73 #[t_,t_,t_,t_,t_,t_,t_,t_,t_,t_,t_,t_,t_,t_,t_] HT_.out ?_
         refine done_ (done_of HT_.out (by kernel_rfl)) ?_
         try go_wp2
         go_ret
         exact ⟨by first | rfl | (simp [errW_none, errW_some] <;> rfl) | (simp [*, errW_none, errW_some] <;> rfl), r0_ HB.out GE261.out⟩
        ·rw [if_neg c31] at H
         have c31b0 : decide (t266 < 0) = false := decide_eq_false c31
         clear c31
         by_cases c34 : 0 ≤ t266
         case neg =>
          rw [if_neg c34] at H
          exact absurd H (by simp)
         rw [if_pos c34] at H
         have c34b0 : decide (0 ≤ t266) = true := decide_eq_true c34
         clear c34
         by_cases c35 : t266 < (l0.length : Int)
         case neg =>
          rw [if_neg c35] at H
          exact absurd H (by simp)
         rw [if_pos c35] at H
         have c35b0 : decide (t266 < (l0.length : Int)) = true := decide_eq_true c35
         clear c35
         by_cases c36 : x49_2 < (l1_2.length : Int)
         case neg =>
          rw [if_neg c36] at H
          exact absurd H (by simp)
         rw [if_pos c36] at H
         have c36b0 : decide (x49_2 < (l1_2.length : Int)) = true := decide_eq_true c36
         clear c36
         replace H := Option.bind_eq_some_iff.mp H
         obtain ⟨t269, A370, H⟩ := H
         replace H : (if t269 = true then (impl_IsRack.l0 k2 l0 l1_3 (l1_3.length : Int) (wrap64 (x49_2 + 1)) a1_0 a1_1 l1_2 l1_3) else (some false)) = some r := H
         have A37 := Aside0.mk A370
         clear A370
         by_cases c38 : t269 = true
         ·subst c38
          replace H : (impl_IsRack.l0 k2 l0 l1_3 (l1_3.length : Int) (wrap64 (x49_2 + 1)) a1_0 a1_1 l1_2 l1_3) = some r := by rw [if_pos rfl] at H; exact H
          have H' := Aside0.mk H
          clear H
          have p265 : 0 ≤ (x49_2 : Int) := od_
          have q265 : x49_2 < (l1_3.length : Int) := od_
          obtain ⟨ad265, e265, hx265_0⟩ := Kd.at_string HR1_3.out x49_2 p265 q265
          cases e265
          replace hx265_0 := bc_ HB.out hx265_0
          replace p265 := eq_true p265
          replace q265 := eq_true q265
          try go_wp2_with (first | ((with_reducible refine gate_callee (f := 145) rfl ?_); refine goesL_ (some 58) rfl rfl Try.func145 (by kernel_rfl) rfl #[.slice A0 l0.length c0, .string (rdOf ByteArray.empty l1_3 x49_2)] rfl ag_ ?_; (with_reducible refine (impl_articleOf.calls k2 _ _ l0 (rdOf ByteArray.empty l1_3 x49_2) t266 _ ?side1 ?side2 A30.out).mono ?_); (case side1 => exact r2_ HR0.out HB.out); (case side2 => exact HC0.out); rintro e w39 ⟨rfl, hb⟩; refine ⟨_, rfl, ?_⟩; replace BK261 := Aside0.mk (blk_below (g := gb261) (o := .cells #[.int .i64 a1_0, .int .i64 a1_1, .slice A1_2 l1_2.length c1_2, .slice (some ad265) l1_3.length c1_3] 67 (0, 0)) (r1_ BK261.out) hb); replace HB := Aside0.mk (below_step (r0_ HB.out GE261.out) hb); (try clear hb); (try clear hb2); (try clear hk); (try clear hi)))
          replace BK261 := Aside0.mk (blk_drew BK261.out)
          replace HB := Aside0.mk (below_drew1 HB.out)
          have p267 : 0 ≤ (t266 : Int) := od_
          have q267 : t266 < (l0.length : Int) := od_
          obtain ⟨ad267, e267, hx267_0, hx267_1, hx267_2, hx267_3, hx267_4, hx267_5, hx267_6, hx267_7, hx267_8⟩ := at_T130 HR0.out t266 p267 q267
          have hw267_8 := hx267_8
          have hw267_7 := hx267_7
          have hw267_6 := hx267_6
          have hw267_5 := hx267_5
          have hw267_4 := hx267_4
          have hw267_3 := hx267_3
          have hw267_2 := hx267_2
          have hw267_1 := hx267_1
          have hw267_0 := hx267_0
          cases e267
          replace hx267_0 := bc_ HB.out hx267_0
          replace hx267_1 := bc_ HB.out hx267_1
          replace hx267_2 := bc_ HB.out hx267_2
          replace hx267_3 := bc_ HB.out hx267_3
          replace hx267_4 := bc_ HB.out hx267_4
          replace hx267_5 := bc_ HB.out hx267_5
          replace hx267_6 := bc_ HB.out hx267_6
          replace hx267_7 := bc_ HB.out hx267_7
          replace hx267_8 := bc_ HB.out hx267_8
          replace p267 := eq_true p267
          replace q267 := eq_true q267
          have p268 : 0 ≤ (x49_2 : Int) := od_
          have q268 : x49_2 < (l1_2.length : Int) := od_
          obtain ⟨ad268, e268, hx268_0⟩ := Kd.at_int HR1_2.out x49_2 p268 q268
          have hw268_0 := hx268_0
          cases e268
          replace hx268_0 := bc_ HB.out hx268_0
          replace p268 := eq_true p268
          replace q268 := eq_true q268
          refine start_ (n := 15) (S := fun w' => w'.cell? ⟨gb261, 0, none⟩ = some (.int .i64 a1_0) ∧ w'.cell? ⟨gb261, 1, none⟩ = some (.int .i64 a1_1) ∧ w'.cell? ⟨gb261, 2, none⟩ = some (.slice (some ad268) l1_2.length c1_2) ∧ w'.cell? ⟨gb261, 3, none⟩ = some (.slice (some ad265) l1_3.length c1_3) ∧ w'.cell? (ad267.add ((t266).toNat * 9)) = some (.string ((rd_T130 l0 t266).f0)) ∧ w'.cell? ⟨(ad267.add ((t266).toNat * 9)).block, (ad267.add ((t266).toNat * 9)).off + 1, none⟩ = some (.int .i64 ((rd_T130 l0 t266).f1)) ∧ w'.cell? ⟨(ad267.add ((t266).toNat * 9)).block, (ad267.add ((t266).toNat * 9)).off + 2, none⟩ = some (.int .i64 ((rd_T130 l0 t266).f2)) ∧ w'.cell? ⟨(ad267.add ((t266).toNat * 9)).block, (ad267.add ((t266).toNat * 9)).off + 3, none⟩ = some (.int .i64 ((rd_T130 l0 t266).f3)) ∧ w'.cell? ⟨(ad267.add ((t266).toNat * 9)).block, (ad267.add ((t266).toNat * 9)).off + 4, none⟩ = some (.int .i64 ((rd_T130 l0 t266).f4)) ∧ w'.cell? ⟨(ad267.add ((t266).toNat * 9)).block, (ad267.add ((t266).toNat * 9)).off + 5, none⟩ = some (.int .i64 ((rd_T130 l0 t266).f5)) ∧ w'.cell? ⟨(ad267.add ((t266).toNat * 9)).block, (ad267.add ((t266).toNat * 9)).off + 6, none⟩ = some (.int .i64 ((rd_T130 l0 t266).f6)) ∧ w'.cell? ⟨(ad267.add ((t266).toNat * 9)).block, (ad267.add ((t266).toNat * 9)).off + 7, none⟩ = some (.int .i64 ((rd_T130 l0 t266).f7)) ∧ w'.cell? ⟨(ad267.add ((t266).toNat * 9)).block, (ad267.add ((t266).toNat * 9)).off + 8, none⟩ = some (.int .i64 ((rd_T130 l0 t266).f8)) ∧ w'.cell? (ad268.add (x49_2).toNat) = some (.int .i64 (rd l1_2 x49_2))) (ds := []) #[f_,f_,f_,f_,f_,f_,f_,f_,f_,f_,f_,f_,f_,f_,f_] (by kernel_rfl) rfl rfl ⟨(blk_cell BK261.out 0).trans rfl, (blk_cell BK261.out 1).trans rfl, (blk_cell BK261.out 2).trans rfl, (blk_cell BK261.out 3).trans rfl, (bc_ HB.out hw267_0 :), (bc_ HB.out hw267_1 :), (bc_ HB.out hw267_2 :), (bc_ HB.out hw267_3 :), (bc_ HB.out hw267_4 :), (bc_ HB.out hw267_5 :), (bc_ HB.out hw267_6 :), (bc_ HB.out hw267_7 :), (bc_ HB.out hw267_8 :), (bc_ HB.out hw268_0 :)⟩ (fun hHeld => ?_); refine with_tabW impl_IsRack.tab8 impl_IsRack.bits8 (fun HT_ HW_ => ?_)
          generalize w39.drew = w40 at BK261 HB hx267_0 hx267_1 hx267_2 hx267_3 hx267_4 hx267_5 hx267_6 hx267_7 hx267_8 hx268_0 hHeld ⊢
          refine pu_ 0 59 #[t_,f_,f_,f_,f_,f_,f_,f_,f_,f_,f_,f_,f_,f_,f_] HT_.out ?_
          refine pu_ 1 60 #[t_,t_,f_,f_,f_,f_,f_,f_,f_,f_,f_,f_,f_,f_,f_] HT_.out ?_
          refine pu_ 2 61 #[t_,t_,t_,f_,f_,f_,f_,f_,f_,f_,f_,f_,f_,f_,f_] HT_.out ?_
          refine pu_ 3 62 #[t_,t_,t_,t_,f_,f_,f_,f_,f_,f_,f_,f_,f_,f_,f_] HT_.out ?_
          refine pu_ 4 63 #[t_,t_,t_,t_,t_,f_,f_,f_,f_,f_,f_,f_,f_,f_,f_] HT_.out ?_
          refine pu_ 5 64 #[t_,t_,t_,t_,t_,t_,f_,f_,f_,f_,f_,f_,f_,f_,f_] HT_.out ?_
          refine pu_ 7 66 #[t_,t_,t_,t_,t_,t_,f_,t_,f_,f_,f_,f_,f_,f_,f_] HT_.out ?_
          refine pu_ 9 68 #[t_,t_,t_,t_,t_,t_,f_,t_,f_,t_,f_,f_,f_,f_,f_] HT_.out ?_
          refine take_ (i := 6) (N := some 65) (v := ?_) (a' := ?_) #[t_,t_,t_,t_,t_,t_,t_,t_,f_,t_,f_,f_,f_,f_,f_] rfl rfl (take_ofW HT_.out HW_.out (by kernel_rfl)) (fun _ _ _ h => h) (Or.inl ⟨by rfl, ?_⟩) hHeld ?_ ?_
          rotate_left
          ·rintro w' ⟨s0, s1, s2, s3, s4, s5, s6, s7, s8, s9, s10, s11, s12, s13⟩
           go_simp
           with_reducible rfl
          rotate_left
          ·simp only [pz_]
           rfl
          refine take_ (i := 8) (N := some 67) (v := ?_) (a' := ?_) #[t_,t_,t_,t_,t_,t_,t_,t_,t_,t_,f_,f_,f_,f_,f_] rfl rfl (take_ofW HT_.out HW_.out (by kernel_rfl)) (fun _ _ _ h => h) (Or.inl ⟨by rfl, ?_⟩) hHeld ?_ ?_
          rotate_left
          ·rintro w' ⟨s0, s1, s2, s3, s4, s5, s6, s7, s8, s9, s10, s11, s12, s13⟩
           go_simp
           with_reducible rfl
          rotate_left
          ·simp only [pz_]
           rfl
          refine pu_ 10 69 #[t_,t_,t_,t_,t_,t_,t_,t_,t_,t_,t_,f_,f_,f_,f_] HT_.out ?_
          refine take_ (i := 11) (N := some 70) (v := ?_) (a' := ?_) #[t_,t_,t_,t_,t_,t_,t_,t_,t_,t_,t_,t_,f_,f_,f_] rfl rfl (take_ofW HT_.out HW_.out (by kernel_rfl)) (fun _ _ _ h => h) (Or.inl ⟨by rfl, ?_⟩) hHeld ?_ ?_
          rotate_left
          ·rintro w' ⟨s0, s1, s2, s3, s4, s5, s6, s7, s8, s9, s10, s11, s12, s13⟩
           go_simp
           with_reducible rfl
          rotate_left
          ·simp only [pz_]
           rfl
          refine one_ (i := 12) (N := some 71) #[t_,t_,t_,t_,t_,t_,t_,t_,t_,t_,t_,t_,t_,f_,f_] rfl rfl (one_of HT_.out (by kernel_rfl)) (by decide) (fun K hK => ?_)
          refine goes_ Try.func146 (by kernel_rfl) rfl #[.agg #[.string ((rd_T130 l0 t266).f0), .int .i64 ((rd_T130 l0 t266).f1), .int .i64 ((rd_T130 l0 t266).f2), .int .i64 ((rd_T130 l0 t266).f3), .int .i64 ((rd_T130 l0 t266).f4), .int .i64 ((rd_T130 l0 t266).f5), .int .i64 ((rd_T130 l0 t266).f6), .int .i64 ((rd_T130 l0 t266).f7), .int .i64 ((rd_T130 l0 t266).f8)], .int .i64 (rd l1_2 x49_2)] (by rfl) rfl rfl ag_ ?_
          with_reducible refine (impl_fits.calls ((rd_T130 l0 t266).f0) ((rd_T130 l0 t266).f1) ((rd_T130 l0 t266).f2) ((rd_T130 l0 t266).f3) ((rd_T130 l0 t266).f4) ((rd_T130 l0 t266).f5) ((rd_T130 l0 t266).f6) ((rd_T130 l0 t266).f7) ((rd_T130 l0 t266).f8) (rd l1_2 x49_2) true _ A37.out).mono ?_
          rintro e w41 ⟨rfl, hb⟩
          refine ⟨_, rfl, ?_⟩
          replace BK261 := Aside0.mk (blk_below (g := gb261) (o := .cells #[.int .i64 a1_0, .int .i64 a1_1, .slice (some ad268) l1_2.length c1_2, .slice (some ad265) l1_3.length c1_3] 67 (0, 0)) (r1_ BK261.out) hb)
          replace HB := Aside0.mk (below_step (r0_ HB.out GE261.out) hb)
          (try clear hb)
          (try clear hb2)
          (try clear hk)
          (try clear hi)
          refine hK.out _ _ ⟨(blk_cell BK261.out 0).trans rfl, (blk_cell BK261.out 1).trans rfl, (blk_cell BK261.out 2).trans rfl, (blk_cell BK261.out 3).trans rfl, (bc_ HB.out hw267_0 :), (bc_ HB.out hw267_1 :), (bc_ HB.out hw267_2 :), (bc_ HB.out hw267_3 :), (bc_ HB.out hw267_4 :), (bc_ HB.out hw267_5 :), (bc_ HB.out hw267_6 :), (bc_ HB.out hw267_7 :), (bc_ HB.out hw267_8 :), (bc_ HB.out hw268_0 :)⟩ (fun hHeld => ?_)
          clear hK K
          refine norm_ (a' := ?_) ?_ ?_
          rotate_left
          ·show Act.put _ (some 71) _ = _
           simp only [pz_]
           rfl
          refine pu_ 13 72 #[t_,t_,t_,t_,t_,t_,t_,t_,t_,t_,t_,t_,t_,t_,f_] HT_.out ?_
          refine pu_ 14 73 #[t_,t_,t_,t_,t_,t_,t_,t_,t_,t_,t_,t_,t_,t_,t_] HT_.out ?_
          refine done_ (done_of HT_.out (by kernel_rfl)) ?_
          try go_wp2
          go_roundg k2
          case measure => have := HJ2.out; have := HK2.out; omega
          case rel => exact ⟨(wrap64 (x49_2 + 1)), (by first | rfl | (simp; done) | (simp [*]; done)), H', ⟨by have := HJ2.out; have := HK2.out; omega⟩, ⟨r1_ BK261.out⟩, ⟨r0_ HB.out GE261.out⟩⟩
         ·replace c38 := Bool.eq_false_iff.mpr c38
          subst c38
          replace H : (some false) = some r := by rw [if_neg (show ¬ (false = true) by decide)] at H; exact H
          obtain rfl := Option.some.inj H
          have p265 : 0 ≤ (x49_2 : Int) := od_
          have q265 : x49_2 < (l1_3.length : Int) := od_
          obtain ⟨ad265, e265, hx265_0⟩ := Kd.at_string HR1_3.out x49_2 p265 q265
          cases e265
          replace hx265_0 := bc_ HB.out hx265_0
          replace p265 := eq_true p265
          replace q265 := eq_true q265
          try go_wp2_with (first | ((with_reducible refine gate_callee (f := 145) rfl ?_); refine goesL_ (some 58) rfl rfl Try.func145 (by kernel_rfl) rfl #[.slice A0 l0.length c0, .string (rdOf ByteArray.empty l1_3 x49_2)] rfl ag_ ?_; (with_reducible refine (impl_articleOf.calls k2 _ _ l0 (rdOf ByteArray.empty l1_3 x49_2) t266 _ ?side1 ?side2 A30.out).mono ?_); (case side1 => exact r2_ HR0.out HB.out); (case side2 => exact HC0.out); rintro e w42 ⟨rfl, hb⟩; refine ⟨_, rfl, ?_⟩; replace BK261 := Aside0.mk (blk_below (g := gb261) (o := .cells #[.int .i64 a1_0, .int .i64 a1_1, .slice A1_2 l1_2.length c1_2, .slice (some ad265) l1_3.length c1_3] 67 (0, 0)) (r1_ BK261.out) hb); replace HB := Aside0.mk (below_step (r0_ HB.out GE261.out) hb); (try clear hb); (try clear hb2); (try clear hk); (try clear hi)))
          replace BK261 := Aside0.mk (blk_drew BK261.out)
          replace HB := Aside0.mk (below_drew1 HB.out)
          have p267 : 0 ≤ (t266 : Int) := od_
          have q267 : t266 < (l0.length : Int) := od_
          obtain ⟨ad267, e267, hx267_0, hx267_1, hx267_2, hx267_3, hx267_4, hx267_5, hx267_6, hx267_7, hx267_8⟩ := at_T130 HR0.out t266 p267 q267
          have hw267_8 := hx267_8
          have hw267_7 := hx267_7
          have hw267_6 := hx267_6
          have hw267_5 := hx267_5
          have hw267_4 := hx267_4
          have hw267_3 := hx267_3
          have hw267_2 := hx267_2
          have hw267_1 := hx267_1
          have hw267_0 := hx267_0
          cases e267
          replace hx267_0 := bc_ HB.out hx267_0
          replace hx267_1 := bc_ HB.out hx267_1
          replace hx267_2 := bc_ HB.out hx267_2
          replace hx267_3 := bc_ HB.out hx267_3
          replace hx267_4 := bc_ HB.out hx267_4
          replace hx267_5 := bc_ HB.out hx267_5
          replace hx267_6 := bc_ HB.out hx267_6
          replace hx267_7 := bc_ HB.out hx267_7
          replace hx267_8 := bc_ HB.out hx267_8
          replace p267 := eq_true p267
          replace q267 := eq_true q267
          have p268 : 0 ≤ (x49_2 : Int) := od_
          have q268 : x49_2 < (l1_2.length : Int) := od_
          obtain ⟨ad268, e268, hx268_0⟩ := Kd.at_int HR1_2.out x49_2 p268 q268
          have hw268_0 := hx268_0
          cases e268
          replace hx268_0 := bc_ HB.out hx268_0
          replace p268 := eq_true p268
          replace q268 := eq_true q268
          refine start_ (n := 15) (S := fun w' => w'.cell? ⟨gb261, 0, none⟩ = some (.int .i64 a1_0) ∧ w'.cell? ⟨gb261, 1, none⟩ = some (.int .i64 a1_1) ∧ w'.cell? ⟨gb261, 2, none⟩ = some (.slice (some ad268) l1_2.length c1_2) ∧ w'.cell? ⟨gb261, 3, none⟩ = some (.slice (some ad265) l1_3.length c1_3) ∧ w'.cell? (ad267.add ((t266).toNat * 9)) = some (.string ((rd_T130 l0 t266).f0)) ∧ w'.cell? ⟨(ad267.add ((t266).toNat * 9)).block, (ad267.add ((t266).toNat * 9)).off + 1, none⟩ = some (.int .i64 ((rd_T130 l0 t266).f1)) ∧ w'.cell? ⟨(ad267.add ((t266).toNat * 9)).block, (ad267.add ((t266).toNat * 9)).off + 2, none⟩ = some (.int .i64 ((rd_T130 l0 t266).f2)) ∧ w'.cell? ⟨(ad267.add ((t266).toNat * 9)).block, (ad267.add ((t266).toNat * 9)).off + 3, none⟩ = some (.int .i64 ((rd_T130 l0 t266).f3)) ∧ w'.cell? ⟨(ad267.add ((t266).toNat * 9)).block, (ad267.add ((t266).toNat * 9)).off + 4, none⟩ = some (.int .i64 ((rd_T130 l0 t266).f4)) ∧ w'.cell? ⟨(ad267.add ((t266).toNat * 9)).block, (ad267.add ((t266).toNat * 9)).off + 5, none⟩ = some (.int .i64 ((rd_T130 l0 t266).f5)) ∧ w'.cell? ⟨(ad267.add ((t266).toNat * 9)).block, (ad267.add ((t266).toNat * 9)).off + 6, none⟩ = some (.int .i64 ((rd_T130 l0 t266).f6)) ∧ w'.cell? ⟨(ad267.add ((t266).toNat * 9)).block, (ad267.add ((t266).toNat * 9)).off + 7, none⟩ = some (.int .i64 ((rd_T130 l0 t266).f7)) ∧ w'.cell? ⟨(ad267.add ((t266).toNat * 9)).block, (ad267.add ((t266).toNat * 9)).off + 8, none⟩ = some (.int .i64 ((rd_T130 l0 t266).f8)) ∧ w'.cell? (ad268.add (x49_2).toNat) = some (.int .i64 (rd l1_2 x49_2))) (ds := []) #[f_,f_,f_,f_,f_,f_,f_,f_,f_,f_,f_,f_,f_,f_,f_] (by kernel_rfl) rfl rfl ⟨(blk_cell BK261.out 0).trans rfl, (blk_cell BK261.out 1).trans rfl, (blk_cell BK261.out 2).trans rfl, (blk_cell BK261.out 3).trans rfl, (bc_ HB.out hw267_0 :), (bc_ HB.out hw267_1 :), (bc_ HB.out hw267_2 :), (bc_ HB.out hw267_3 :), (bc_ HB.out hw267_4 :), (bc_ HB.out hw267_5 :), (bc_ HB.out hw267_6 :), (bc_ HB.out hw267_7 :), (bc_ HB.out hw267_8 :), (bc_ HB.out hw268_0 :)⟩ (fun hHeld => ?_); refine with_tabW impl_IsRack.tab8 impl_IsRack.bits8 (fun HT_ HW_ => ?_)
          generalize w42.drew = w43 at BK261 HB hx267_0 hx267_1 hx267_2 hx267_3 hx267_4 hx267_5 hx267_6 hx267_7 hx267_8 hx268_0 hHeld ⊢
          refine pu_ 0 59 #[t_,f_,f_,f_,f_,f_,f_,f_,f_,f_,f_,f_,f_,f_,f_] HT_.out ?_
          refine pu_ 1 60 #[t_,t_,f_,f_,f_,f_,f_,f_,f_,f_,f_,f_,f_,f_,f_] HT_.out ?_
          refine pu_ 2 61 #[t_,t_,t_,f_,f_,f_,f_,f_,f_,f_,f_,f_,f_,f_,f_] HT_.out ?_
          refine pu_ 3 62 #[t_,t_,t_,t_,f_,f_,f_,f_,f_,f_,f_,f_,f_,f_,f_] HT_.out ?_
          refine pu_ 4 63 #[t_,t_,t_,t_,t_,f_,f_,f_,f_,f_,f_,f_,f_,f_,f_] HT_.out ?_
          refine pu_ 5 64 #[t_,t_,t_,t_,t_,t_,f_,f_,f_,f_,f_,f_,f_,f_,f_] HT_.out ?_
          refine pu_ 7 66 #[t_,t_,t_,t_,t_,t_,f_,t_,f_,f_,f_,f_,f_,f_,f_] HT_.out ?_
          refine pu_ 9 68 #[t_,t_,t_,t_,t_,t_,f_,t_,f_,t_,f_,f_,f_,f_,f_] HT_.out ?_
          refine take_ (i := 6) (N := some 65) (v := ?_) (a' := ?_) #[t_,t_,t_,t_,t_,t_,t_,t_,f_,t_,f_,f_,f_,f_,f_] rfl rfl (take_ofW HT_.out HW_.out (by kernel_rfl)) (fun _ _ _ h => h) (Or.inl ⟨by rfl, ?_⟩) hHeld ?_ ?_
          rotate_left
          ·rintro w' ⟨s0, s1, s2, s3, s4, s5, s6, s7, s8, s9, s10, s11, s12, s13⟩
           go_simp
           with_reducible rfl
          rotate_left
          ·simp only [pz_]
           rfl
          refine take_ (i := 8) (N := some 67) (v := ?_) (a' := ?_) #[t_,t_,t_,t_,t_,t_,t_,t_,t_,t_,f_,f_,f_,f_,f_] rfl rfl (take_ofW HT_.out HW_.out (by kernel_rfl)) (fun _ _ _ h => h) (Or.inl ⟨by rfl, ?_⟩) hHeld ?_ ?_
          rotate_left
          ·rintro w' ⟨s0, s1, s2, s3, s4, s5, s6, s7, s8, s9, s10, s11, s12, s13⟩
           go_simp
           with_reducible rfl
          rotate_left
          ·simp only [pz_]
           rfl
          refine pu_ 10 69 #[t_,t_,t_,t_,t_,t_,t_,t_,t_,t_,t_,f_,f_,f_,f_] HT_.out ?_
          refine take_ (i := 11) (N := some 70) (v := ?_) (a' := ?_) #[t_,t_,t_,t_,t_,t_,t_,t_,t_,t_,t_,t_,f_,f_,f_] rfl rfl (take_ofW HT_.out HW_.out (by kernel_rfl)) (fun _ _ _ h => h) (Or.inl ⟨by rfl, ?_⟩) hHeld ?_ ?_
          rotate_left
          ·rintro w' ⟨s0, s1, s2, s3, s4, s5, s6, s7, s8, s9, s10, s11, s12, s13⟩
           go_simp
           with_reducible rfl
          rotate_left
          ·simp only [pz_]
           rfl
          refine one_ (i := 12) (N := some 71) #[t_,t_,t_,t_,t_,t_,t_,t_,t_,t_,t_,t_,t_,f_,f_] rfl rfl (one_of HT_.out (by kernel_rfl)) (by decide) (fun K hK => ?_)
          refine goes_ Try.func146 (by kernel_rfl) rfl #[.agg #[.string ((rd_T130 l0 t266).f0), .int .i64 ((rd_T130 l0 t266).f1), .int .i64 ((rd_T130 l0 t266).f2), .int .i64 ((rd_T130 l0 t266).f3), .int .i64 ((rd_T130 l0 t266).f4), .int .i64 ((rd_T130 l0 t266).f5), .int .i64 ((rd_T130 l0 t266).f6), .int .i64 ((rd_T130 l0 t266).f7), .int .i64 ((rd_T130 l0 t266).f8)], .int .i64 (rd l1_2 x49_2)] (by rfl) rfl rfl ag_ ?_
          with_reducible refine (impl_fits.calls ((rd_T130 l0 t266).f0) ((rd_T130 l0 t266).f1) ((rd_T130 l0 t266).f2) ((rd_T130 l0 t266).f3) ((rd_T130 l0 t266).f4) ((rd_T130 l0 t266).f5) ((rd_T130 l0 t266).f6) ((rd_T130 l0 t266).f7) ((rd_T130 l0 t266).f8) (rd l1_2 x49_2) false _ A37.out).mono ?_
          rintro e w44 ⟨rfl, hb⟩
          refine ⟨_, rfl, ?_⟩
          replace BK261 := Aside0.mk (blk_below (g := gb261) (o := .cells #[.int .i64 a1_0, .int .i64 a1_1, .slice (some ad268) l1_2.length c1_2, .slice (some ad265) l1_3.length c1_3] 67 (0, 0)) (r1_ BK261.out) hb)
          replace HB := Aside0.mk (below_step (r0_ HB.out GE261.out) hb)
          (try clear hb)
          (try clear hb2)
          (try clear hk)
          (try clear hi)
          refine hK.out _ _ ⟨(blk_cell BK261.out 0).trans rfl, (blk_cell BK261.out 1).trans rfl, (blk_cell BK261.out 2).trans rfl, (blk_cell BK261.out 3).trans rfl, (bc_ HB.out hw267_0 :), (bc_ HB.out hw267_1 :), (bc_ HB.out hw267_2 :), (bc_ HB.out hw267_3 :), (bc_ HB.out hw267_4 :), (bc_ HB.out hw267_5 :), (bc_ HB.out hw267_6 :), (bc_ HB.out hw267_7 :), (bc_ HB.out hw267_8 :), (bc_ HB.out hw268_0 :)⟩ (fun hHeld => ?_)
          clear hK K
          refine norm_ (a' := ?_) ?_ ?_
          rotate_left
          ·show Act.put _ (some 71) _ = _
           simp only [pz_]
           rfl
          refine pu_ 13 72 #[t_,t_,t_,t_,t_,t_,t_,t_,t_,t_,t_,t_,t_,t_,f_] HT_.out ?_
          refine pu_ 14 73 #[t_,t_,t_,t_,t_,t_,t_,t_,t_,t_,t_,t_,t_,t_,t_] HT_.out ?_
          refine done_ (done_of HT_.out (by kernel_rfl)) ?_
          try go_wp2
          go_ret
          exact ⟨by first | rfl | (simp [errW_none, errW_some] <;> rfl) | (simp [*, errW_none, errW_some] <;> rfl), r0_ HB.out GE261.out⟩
      ·rw [if_neg c26] at H
       have c26b0 : decide (x49_2 < (l1_3.length : Int)) = false := decide_eq_false c26
       clear c26
       obtain rfl := Option.some.inj H
       go_wp2
       go_ret
       exact ⟨by first | rfl | (simp [errW_none, errW_some] <;> rfl) | (simp [*, errW_none, errW_some] <;> rfl), r0_ HB.out GE261.out⟩
def impl_loaded.l0 : Nat → List (S130) → List (S130) → List ByteArray → Int → Int → Option ((List (S130)))
 | 0, _, _, _, _, _ => none
 | k + 1, x0, x5, x9, x10, x11 => if x11 < x10 then (if 0 ≤ x11 then (if x11 < (x9.length : Int) then (if (rdOf ByteArray.empty x9 x11).toList = ([] : List UInt8) then (impl_loaded.l0 k x0 x5 x9 x10 (wrap64 (x11 + 1))) else ((impl_articleOf.f k x0 (rdOf ByteArray.empty x9 x11)).bind fun t272 => (if 0 ≤ t272 then (if t272 < (x0.length : Int) then (if x5.length < 1759218604441 then (impl_loaded.l0 k x0 (x5 ++ [(⟨(rd_T130 x0 t272).f0, (rd_T130 x0 t272).f1, (rd_T130 x0 t272).f2, (rd_T130 x0 t272).f3, (rd_T130 x0 t272).f4, (rd_T130 x0 t272).f5, (rd_T130 x0 t272).f6, (rd_T130 x0 t272).f7, (rd_T130 x0 t272).f8⟩ : S130)]) x9 x10 (wrap64 (x11 + 1))) else (none)) else (none)) else (none)))) else (none)) else (none)) else (some x5)
def impl_loaded.f (k : Nat) (l0 : List (S130)) (a1_0 : Int) (a1_1 : Int) (l1_2 : List Int) (l1_3 : List ByteArray) : Option ((List (S130))) := impl_loaded.l0 k l0 ([] : List (S130)) l1_3 (l1_3.length : Int) 0
set_option maxHeartbeats 8000000 in
set_option maxRecDepth 100000 in
theorem impl_loaded.calls (k : Nat) (A0 : Option Addr) (c0 : Nat) (l0 : List (S130)) (a1_0 : Int) (a1_1 : Int) (A1_2 : Option Addr) (c1_2 : Nat) (l1_2 : List Int) (A1_3 : Option Addr) (c1_3 : Nat) (l1_3 : List ByteArray) (r : List (S130)) (w : World) (hr0 : Kd.C k130 w A0 l0.length l0) (hc0 : l0.length ≤ c0) (hr1_2 : Kd.C (Kd.int .i64) w A1_2 l1_2.length l1_2) (hc1_2 : l1_2.length ≤ c1_2) (hr1_3 : Kd.C Kd.string w A1_3 l1_3.length l1_3) (hc1_3 : l1_3.length ≤ c1_3) (h : impl_loaded.f k l0 a1_0 a1_1 l1_2 l1_3 = some r) :
  Calls Try.prog 109 #[.slice A0 l0.length c0, .agg #[.int .i64 a1_0, .int .i64 a1_1, .slice A1_2 l1_2.length c1_2, .slice A1_3 l1_3.length c1_3]] w fun e w' => ∃ v0_ : Value, e = .returned (v0_) ∧ Kd.R k130 130 w' w.heap.size (fun _ => True) v0_ r ∧ Below w.heap.size w w' := by
 have hu67 := Try.underlying67
 have hu130 := Try.underlying130
 have HR0 := Aside0.mk hr0
 have HC0 := Aside0.mk hc0
 clear hr0 hc0
 have HR1_2 := Aside0.mk hr1_2
 have HC1_2 := Aside0.mk hc1_2
 clear hr1_2 hc1_2
 have HR1_3 := Aside0.mk hr1_3
 have HC1_3 := Aside0.mk hc1_3
 clear hr1_3 hc1_3
 have HB := Aside0.mk (Below.refl w.heap.size w)
 have H : (impl_loaded.l0 k l0 ([] : List (S130)) l1_3 (l1_3.length : Int) 0) = some r := h
 clear h
 have H' := Aside0.mk H
 clear H
 go_enter Try.func109, Try.ntmps109
 go_wp2_with (first | ((with_reducible refine gate_dst (N := 3) rfl ?_); refine box_event ?hg (N := 3) ?hd (cs := #[.int .i64 a1_0, .int .i64 a1_1, .slice A1_2 l1_2.length c1_2, .slice A1_3 l1_3.length c1_3]) (t := 67) ?hr ?_; (case hd => rfl); (case hg => rfl); (case hr => first | (go_simp; done) | (go_simp; rfl)); intro gb270 hg w3 hbox hb; have BK270 := Aside0.mk (hbox); have GW270 := Aside0.mk ((by rw [hg]; exact (below_size (bl_ HB.out)) : w.heap.size ≤ gb270)); have GE270 := Aside0.mk ((by rw [hg]; exact (below_size (bl_ HB.out)) : w.heap.size ≤ gb270)); replace HB := Aside0.mk (below_step (bl_ HB.out) hb); clear hb hbox hg; have hcz4_0 : w3.cell? ⟨gb270, 0, none⟩ = some (.int .i64 a1_0) := (blk_cell BK270.out 0).trans rfl; have hcz4_1 : w3.cell? ⟨gb270, 1, none⟩ = some (.int .i64 a1_1) := (blk_cell BK270.out 1).trans rfl; have hcz4_2 : w3.cell? ⟨gb270, 2, none⟩ = some (.slice A1_2 l1_2.length c1_2) := (blk_cell BK270.out 2).trans rfl; have hcz4_3 : w3.cell? ⟨gb270, 3, none⟩ = some (.slice A1_3 l1_3.length c1_3) := (blk_cell BK270.out 3).trans rfl; have hfz4_0 := blk_frozen BK270.out 0; have hfz4_1 := blk_frozen BK270.out 1; have hfz4_2 := blk_frozen BK270.out 2; have hfz4_3 := blk_frozen BK270.out 3))
 go_loopg [5, 11] k (fun kq v5 v11 w' => ∃ (x5_1 : List (S130)) (x11_1 : Int), v11 = .int .i64 x11_1 ∧ Aside0 (impl_loaded.l0 kq l0 x5_1 l1_3 (l1_3.length : Int) x11_1 = some r) ∧ Aside0 (kq ≤ k) ∧ Aside0 (Kd.R k130 130 w' w.heap.size (fun _ => True) v5 x5_1) ∧ Aside0 (w'.heap[gb270]? = some (.cells #[.int .i64 a1_0, .int .i64 a1_1, (.slice A1_2 l1_2.length c1_2), (.slice A1_3 l1_3.length c1_3)] 67 (0, 0))) ∧ Aside0 (Below w.heap.size w w'))
 case atStart => exact ⟨(([] : List (S130))), (0), (by first | rfl | (simp; done) | (simp [*]; done)), H', ⟨Nat.le_refl _⟩, ⟨by first | exact Kd.R_nil _ _ _ _ _ | exact Kd.N_nil _ _ _ _ _ | exact Kd.V_nil _ _ _ _ _ | exact Kd.Q_nil _ _ _ _ _ | exact Kd.S_nil _ _ _ _ _⟩, ⟨r1_ BK270.out⟩, ⟨r0_ HB.out GE270.out⟩⟩
 case round =>
  clear H'
  try clear c1
  try clear p2
  try clear hcz4_0
  try clear hcz4_1
  try clear hcz4_2
  try clear hcz4_3
  try clear hfz4_0
  try clear hfz4_1
  try clear hfz4_2
  try clear hfz4_3
  obtain ⟨x5_1, x11_1, rfl, HA, HK1, HO_5, BK270, HB⟩ := hrel
  cases gk with
  | zero => exact absurd HA.out (by simp [impl_loaded.l0])
  | succ k1 =>
   have H := HA.out
   clear HA
   simp only [impl_loaded.l0] at H
   by_cases c5 : x11_1 < (l1_3.length : Int)
   ·rw [if_pos c5] at H
    have c5b0 : decide (x11_1 < (l1_3.length : Int)) = true := decide_eq_true c5
    clear c5
    by_cases c6 : 0 ≤ x11_1
    case neg =>
     rw [if_neg c6] at H
     exact absurd H (by simp)
    rw [if_pos c6] at H
    have c6b0 : decide (0 ≤ x11_1) = true := decide_eq_true c6
    clear c6
    by_cases c7 : x11_1 < (l1_3.length : Int)
    case neg =>
     rw [if_neg c7] at H
     exact absurd H (by simp)
    rw [if_pos c7] at H
    have c7b0 : decide (x11_1 < (l1_3.length : Int)) = true := decide_eq_true c7
    clear c7
    by_cases c8 : (rdOf ByteArray.empty l1_3 x11_1).toList = ([] : List UInt8)
    ·rw [if_pos c8] at H
     have c8b0 : ((rdOf ByteArray.empty l1_3 x11_1).toList == ([] : List UInt8)) = true := beq_iff_eq.mpr c8
     have c8b1 : ((rdOf ByteArray.empty l1_3 x11_1).toList != ([] : List UInt8)) = false := bne_eq_false_iff_eq.mpr c8
     clear c8
     have H' := Aside0.mk H
     clear H
     have p271 : 0 ≤ (x11_1 : Int) := od_
     have q271 : x11_1 < (l1_3.length : Int) := od_
     obtain ⟨ad271, e271, hx271_0⟩ := Kd.at_string HR1_3.out x11_1 p271 q271
     cases e271
     replace hx271_0 := bc_ HB.out hx271_0
     replace p271 := eq_true p271
     replace q271 := eq_true q271
     go_wp2
     go_roundg k1
     case measure => have := HK1.out; omega
     case rel => exact ⟨(x5_1), (wrap64 (x11_1 + 1)), (by first | rfl | (simp; done) | (simp [*]; done)), H', ⟨by have := HK1.out; omega⟩, ⟨rk_ HO_5.out⟩, ⟨r1_ BK270.out⟩, ⟨r0_ HB.out GE270.out⟩⟩
    ·rw [if_neg c8] at H
     have c8b0 : ((rdOf ByteArray.empty l1_3 x11_1).toList == ([] : List UInt8)) = false := beq_eq_false_iff_ne.mpr c8
     have c8b1 : ((rdOf ByteArray.empty l1_3 x11_1).toList != ([] : List UInt8)) = true := bne_iff_ne.mpr c8
     replace H := Option.bind_eq_some_iff.mp H
     obtain ⟨t272, A90, H⟩ := H
     replace H : (if 0 ≤ t272 then (if t272 < (l0.length : Int) then (if x5_1.length < 1759218604441 then (impl_loaded.l0 k1 l0 (x5_1 ++ [(⟨(rd_T130 l0 t272).f0, (rd_T130 l0 t272).f1, (rd_T130 l0 t272).f2, (rd_T130 l0 t272).f3, (rd_T130 l0 t272).f4, (rd_T130 l0 t272).f5, (rd_T130 l0 t272).f6, (rd_T130 l0 t272).f7, (rd_T130 l0 t272).f8⟩ : S130)]) l1_3 (l1_3.length : Int) (wrap64 (x11_1 + 1))) else (none)) else (none)) else (none)) = some r := H
     have A9 := Aside0.mk A90
     clear A90
     by_cases c10 : 0 ≤ t272
     case neg =>
      rw [if_neg c10] at H
      exact absurd H (by simp)
     rw [if_pos c10] at H
     have c10b0 : decide (0 ≤ t272) = true := decide_eq_true c10
     clear c10
     by_cases c11 : t272 < (l0.length : Int)
     case neg =>
      rw [if_neg c11] at H
      exact absurd H (by simp)
     rw [if_pos c11] at H
     have c11b0 : decide (t272 < (l0.length : Int)) = true := decide_eq_true c11
     clear c11
     by_cases c12 : x5_1.length < 1759218604441
     case neg =>
      rw [if_neg c12] at H
      exact absurd H (by simp)
     rw [if_pos c12] at H
     have LMc12 := Aside0.mk c12
     clear c12
     obtain ⟨y274, hy274⟩ : ∃ y_ : List (S130), y_ = (x5_1 ++ [(⟨(rd_T130 l0 t272).f0, (rd_T130 l0 t272).f1, (rd_T130 l0 t272).f2, (rd_T130 l0 t272).f3, (rd_T130 l0 t272).f4, (rd_T130 l0 t272).f5, (rd_T130 l0 t272).f6, (rd_T130 l0 t272).f7, (rd_T130 l0 t272).f8⟩ : S130)]) := ⟨_, rfl⟩
     replace H : (impl_loaded.l0 k1 l0 y274 l1_3 (l1_3.length : Int) (wrap64 (x11_1 + 1))) = some r := by first | (rw [hy274]; with_reducible exact H) | (have H2_ := (Option.bind_some _ _).symm.trans H; rw [hy274]; with_reducible exact H2_) | (have H2_ := (Option.bind_some _ _).symm.trans H; with_reducible exact H2_) | with_reducible exact H | (rw [hy274]; exact H) | exact H
     have Ny274 := Aside0.mk hy274
     clear hy274
     have H' := Aside0.mk H
     clear H
     have p271 : 0 ≤ (x11_1 : Int) := od_
     have q271 : x11_1 < (l1_3.length : Int) := od_
     obtain ⟨ad271, e271, hx271_0⟩ := Kd.at_string HR1_3.out x11_1 p271 q271
     cases e271
     replace hx271_0 := bc_ HB.out hx271_0
     replace p271 := eq_true p271
     replace q271 := eq_true q271
     go_wp2_with (first | ((with_reducible refine gate_callee (f := 145) rfl ?_); refine goesL_ (some 21) rfl rfl Try.func145 (by kernel_rfl) rfl #[.slice A0 l0.length c0, .string (rdOf ByteArray.empty l1_3 x11_1)] rfl ag_ ?_; (with_reducible refine (impl_articleOf.calls k1 _ _ l0 (rdOf ByteArray.empty l1_3 x11_1) t272 _ ?side1 ?side2 A9.out).mono ?_); (case side1 => exact r2_ HR0.out HB.out); (case side2 => exact HC0.out); rintro e w13 ⟨rfl, hb⟩; refine ⟨_, rfl, ?_⟩; replace HO_5 := Aside0.mk (Kd.R_below (rk_ HO_5.out) hb); replace BK270 := Aside0.mk (blk_below (g := gb270) (o := .cells #[.int .i64 a1_0, .int .i64 a1_1, .slice A1_2 l1_2.length c1_2, .slice (some ad271) l1_3.length c1_3] 67 (0, 0)) (r1_ BK270.out) hb); replace HB := Aside0.mk (below_step (r0_ HB.out GE270.out) hb); (try clear hb); (try clear hb2); (try clear hk); (try clear hi); have p273 : 0 ≤ (t272 : Int) := od_; have q273 : t272 < (l0.length : Int) := od_; obtain ⟨ad273, e273, hx273_0, hx273_1, hx273_2, hx273_3, hx273_4, hx273_5, hx273_6, hx273_7, hx273_8⟩ := at_T130 HR0.out t272 p273 q273; cases e273; replace hx273_0 := bc_ HB.out hx273_0; replace hx273_1 := bc_ HB.out hx273_1; replace hx273_2 := bc_ HB.out hx273_2; replace hx273_3 := bc_ HB.out hx273_3; replace hx273_4 := bc_ HB.out hx273_4; replace hx273_5 := bc_ HB.out hx273_5; replace hx273_6 := bc_ HB.out hx273_6; replace hx273_7 := bc_ HB.out hx273_7; replace hx273_8 := bc_ HB.out hx273_8; replace p273 := eq_true p273; replace q273 := eq_true q273) | ((with_reducible refine gate_builtin (b := .append) (xs := #[.tmp 17, .tmp 24]) rfl ?_); at_builtin; refine Kd.R_append k130 (w0 := w) w.heap.size rfl (.tmp 17) (.tmp 24) 65 130 (.agg #[(.string ⟨#[]⟩), (.int .i64 0), (.int .i64 0), (.int .i64 0), (.int .i64 0), (.int .i64 0), (.int .i64 0), (.int .i64 0), (.int .i64 0)]) 80 rfl Try.underlying65 info130 rfl (by decide) (by omega) u5 x5_1 (⟨(rd_T130 l0 t272).f0, (rd_T130 l0 t272).f1, (rd_T130 l0 t272).f2, (rd_T130 l0 t272).f3, (rd_T130 l0 t272).f4, (rd_T130 l0 t272).f5, (rd_T130 l0 t272).f6, (rd_T130 l0 t272).f7, (rd_T130 l0 t272).f8⟩ : S130) [.string ((rd_T130 l0 t272).f0), .int .i64 ((rd_T130 l0 t272).f1), .int .i64 ((rd_T130 l0 t272).f2), .int .i64 ((rd_T130 l0 t272).f3), .int .i64 ((rd_T130 l0 t272).f4), .int .i64 ((rd_T130 l0 t272).f5), .int .i64 ((rd_T130 l0 t272).f6), .int .i64 ((rd_T130 l0 t272).f7), .int .i64 ((rd_T130 l0 t272).f8)] (fun _ => True) (fun _ => False) rfl rfl ?aP (fun _ hk => hk.elim) ?aF ?aO ?aB ?aS ?aL ?_; (case aP => exact k130_mkM _ _ _ (⟨(rd_T130 l0 t272).f0, (rd_T130 l0 t272).f1, (rd_T130 l0 t272).f2, (rd_T130 l0 t272).f3, (rd_T130 l0 t272).f4, (rd_T130 l0 t272).f5, (rd_T130 l0 t272).f6, (rd_T130 l0 t272).f7, (rd_T130 l0 t272).f8⟩ : S130)); (case aB => exact (r0_ HB.out GE270.out)); (case aF => exact (fun _ _ => trivial)); (case aO => exact (rk_ HO_5.out)); (case aS => exact (below_size (r0_ HB.out GE270.out))); (case aL => have := LMc12.out; omega); intro v275 w14 ho hb hg hat; rw [← Ny274.out] at ho; have n0_ := Aside0.mk (blk_grown (g := gb270) (o := .cells #[.int .i64 a1_0, .int .i64 a1_1, .slice A1_2 l1_2.length c1_2, .slice (some ad271) l1_3.length c1_3] 67 (0, 0)) (r1_ BK270.out) hg (Kd.R_ne HO_5.out BK270.out (by decide))); have n1_ := Aside0.mk (hb); have n2_ := Aside0.mk (ho); clear BK270; clear HB; clear HO_5; have BK270 := n0_; have HB := n1_; have HO276 := n2_; clear n0_ n1_ n2_; clear ho hb hg hat))
     go_roundg k1
     case measure => have := HK1.out; omega
     case rel => exact ⟨(y274), (wrap64 (x11_1 + 1)), (by first | rfl | (simp; done) | (simp [*]; done)), H', ⟨by have := HK1.out; omega⟩, ⟨rk_ HO276.out⟩, ⟨r1_ BK270.out⟩, ⟨r0_ HB.out GE270.out⟩⟩
   ·rw [if_neg c5] at H
    have c5b0 : decide (x11_1 < (l1_3.length : Int)) = false := decide_eq_false c5
    clear c5
    obtain rfl := Option.some.inj H
    go_wp2
    go_ret
    exact ⟨_, by first | rfl | (simp [errW_none, errW_some] <;> rfl) | (simp [*, errW_none, errW_some] <;> rfl), rk_ HO_5.out, r0_ HB.out GE270.out⟩
def impl_RackNet.l0 : Nat → Int → List (S130) → Int → Int → Option (Int × Int)
 | 0, _, _, _, _ => none
 | k + 1, x6, x15, x16, x17 => if x17 < x16 then (if 0 ≤ x17 then (if x17 < (x15.length : Int) then (impl_RackNet.l0 k (wrap64 (x6 + ((rd_T130 x15 x17).f7))) x15 x16 (wrap64 (x17 + 1))) else (none)) else (none)) else (some (x6, 0))
def impl_RackNet.f (k : Nat) (l0 : List (S130)) (a1_0 : Int) (a1_1 : Int) (l1_2 : List Int) (l1_3 : List ByteArray) : Option (Int × Int) := (impl_IsRack.f k l0 a1_0 a1_1 l1_2 l1_3).bind fun t278 => (if t278 = true then ((impl_loaded.f k l0 a1_0 a1_1 l1_2 l1_3).bind fun t279 => (impl_RackNet.l0 k 0 t279 (t279.length : Int) 0)) else (some (0, 1)))
set_option maxHeartbeats 8000000 in
set_option maxRecDepth 100000 in
theorem impl_RackNet.calls (k : Nat) (A0 : Option Addr) (c0 : Nat) (l0 : List (S130)) (a1_0 : Int) (a1_1 : Int) (A1_2 : Option Addr) (c1_2 : Nat) (l1_2 : List Int) (A1_3 : Option Addr) (c1_3 : Nat) (l1_3 : List ByteArray) (r1 : Int) (r2 : Int) (w : World) (hr0 : Kd.C k130 w A0 l0.length l0) (hc0 : l0.length ≤ c0) (hr1_2 : Kd.C (Kd.int .i64) w A1_2 l1_2.length l1_2) (hc1_2 : l1_2.length ≤ c1_2) (hr1_3 : Kd.C Kd.string w A1_3 l1_3.length l1_3) (hc1_3 : l1_3.length ≤ c1_3) (h : impl_RackNet.f k l0 a1_0 a1_1 l1_2 l1_3 = some (r1, r2)) :
  Calls Try.prog 46 #[.slice A0 l0.length c0, .agg #[.int .i64 a1_0, .int .i64 a1_1, .slice A1_2 l1_2.length c1_2, .slice A1_3 l1_3.length c1_3]] w fun e w' => e = .returned (.tuple #[.int .i64 r1, .int .i64 r2]) ∧ Below w.heap.size w w' := by
 have hu67 := Try.underlying67
 have hu130 := Try.underlying130
 have HR0 := Aside0.mk hr0
 have HC0 := Aside0.mk hc0
 clear hr0 hc0
 have HR1_2 := Aside0.mk hr1_2
 have HC1_2 := Aside0.mk hc1_2
 clear hr1_2 hc1_2
 have HR1_3 := Aside0.mk hr1_3
 have HC1_3 := Aside0.mk hc1_3
 clear hr1_3 hc1_3
 have HB := Aside0.mk (Below.refl w.heap.size w)
 have H : ((impl_IsRack.f k l0 a1_0 a1_1 l1_2 l1_3).bind fun t278 => (if t278 = true then ((impl_loaded.f k l0 a1_0 a1_1 l1_2 l1_3).bind fun t279 => (impl_RackNet.l0 k 0 t279 (t279.length : Int) 0)) else (some (0, 1)))) = some (r1, r2) := h
 clear h
 replace H := Option.bind_eq_some_iff.mp H
 obtain ⟨t278, A30, H⟩ := H
 replace H : (if t278 = true then ((impl_loaded.f k l0 a1_0 a1_1 l1_2 l1_3).bind fun t279 => (impl_RackNet.l0 k 0 t279 (t279.length : Int) 0)) else (some (0, 1))) = some (r1, r2) := H
 have A3 := Aside0.mk A30
 clear A30
 by_cases c4 : t278 = true
 ·subst c4
  replace H : ((impl_loaded.f k l0 a1_0 a1_1 l1_2 l1_3).bind fun t279 => (impl_RackNet.l0 k 0 t279 (t279.length : Int) 0)) = some (r1, r2) := by rw [if_pos rfl] at H; exact H
  replace H := Option.bind_eq_some_iff.mp H
  obtain ⟨t279, A50, H⟩ := H
  replace H : (impl_RackNet.l0 k 0 t279 (t279.length : Int) 0) = some (r1, r2) := H
  have A5 := Aside0.mk A50
  clear A50
  have H' := Aside0.mk H
  clear H
  go_enter Try.func46, Try.ntmps46
  go_wp2_with (first | ((with_reducible refine gate_dst (N := 3) rfl ?_); refine box_event ?hg (N := 3) ?hd (cs := #[.int .i64 a1_0, .int .i64 a1_1, .slice A1_2 l1_2.length c1_2, .slice A1_3 l1_3.length c1_3]) (t := 67) ?hr ?_; (case hd => rfl); (case hg => rfl); (case hr => first | (go_simp; done) | (go_simp; rfl)); intro gb277 hg w6 hbox hb; have BK277 := Aside0.mk (hbox); have GW277 := Aside0.mk ((by rw [hg]; exact (below_size (bl_ HB.out)) : w.heap.size ≤ gb277)); have GE277 := Aside0.mk ((by rw [hg]; exact (below_size (bl_ HB.out)) : w.heap.size ≤ gb277)); replace HB := Aside0.mk (below_step (bl_ HB.out) hb); clear hb hbox hg; have hcz7_0 : w6.cell? ⟨gb277, 0, none⟩ = some (.int .i64 a1_0) := (blk_cell BK277.out 0).trans rfl; have hcz7_1 : w6.cell? ⟨gb277, 1, none⟩ = some (.int .i64 a1_1) := (blk_cell BK277.out 1).trans rfl; have hcz7_2 : w6.cell? ⟨gb277, 2, none⟩ = some (.slice A1_2 l1_2.length c1_2) := (blk_cell BK277.out 2).trans rfl; have hcz7_3 : w6.cell? ⟨gb277, 3, none⟩ = some (.slice A1_3 l1_3.length c1_3) := (blk_cell BK277.out 3).trans rfl; have hfz7_0 := blk_frozen BK277.out 0; have hfz7_1 := blk_frozen BK277.out 1; have hfz7_2 := blk_frozen BK277.out 2; have hfz7_3 := blk_frozen BK277.out 3) | ((with_reducible refine gate_callee (f := 108) rfl ?_); refine goesL_ (some 11) rfl rfl Try.func108 (by kernel_rfl) rfl #[.slice A0 l0.length c0, .agg #[.int .i64 a1_0, .int .i64 a1_1, .slice A1_2 l1_2.length c1_2, .slice A1_3 l1_3.length c1_3]] rfl ag_ ?_; (with_reducible refine (impl_IsRack.calls k _ _ l0 a1_0 a1_1 _ _ l1_2 _ _ l1_3 true _ ?side1 ?side2 ?side3 ?side4 ?side5 ?side6 A3.out).mono ?_); (case side1 => exact r2_ HR0.out HB.out); (case side2 => exact HC0.out); (case side3 => exact r2_ HR1_2.out HB.out); (case side4 => exact HC1_2.out); (case side5 => exact r2_ HR1_3.out HB.out); (case side6 => exact HC1_3.out); rintro e w8 ⟨rfl, hb⟩; refine ⟨_, rfl, ?_⟩; replace BK277 := Aside0.mk (blk_below (g := gb277) (o := .cells #[.int .i64 a1_0, .int .i64 a1_1, .slice A1_2 l1_2.length c1_2, .slice A1_3 l1_3.length c1_3] 67 (0, 0)) (r1_ BK277.out) hb); replace HB := Aside0.mk (below_step (r0_ HB.out GE277.out) hb); (try clear hb); (try clear hb2); (try clear hk); (try clear hi); have hcz9_0 : w8.cell? ⟨gb277, 0, none⟩ = some (.int .i64 a1_0) := (blk_cell BK277.out 0).trans rfl; have hcz9_1 : w8.cell? ⟨gb277, 1, none⟩ = some (.int .i64 a1_1) := (blk_cell BK277.out 1).trans rfl; have hcz9_2 : w8.cell? ⟨gb277, 2, none⟩ = some (.slice A1_2 l1_2.length c1_2) := (blk_cell BK277.out 2).trans rfl; have hcz9_3 : w8.cell? ⟨gb277, 3, none⟩ = some (.slice A1_3 l1_3.length c1_3) := (blk_cell BK277.out 3).trans rfl; have hfz9_0 := blk_frozen BK277.out 0; have hfz9_1 := blk_frozen BK277.out 1; have hfz9_2 := blk_frozen BK277.out 2; have hfz9_3 := blk_frozen BK277.out 3) | ((with_reducible refine gate_callee (f := 109) rfl ?_); refine goesL_ (some 15) rfl rfl Try.func109 (by kernel_rfl) rfl #[.slice A0 l0.length c0, .agg #[.int .i64 a1_0, .int .i64 a1_1, .slice A1_2 l1_2.length c1_2, .slice A1_3 l1_3.length c1_3]] rfl ag_ ?_; (with_reducible refine (impl_loaded.calls k _ _ l0 a1_0 a1_1 _ _ l1_2 _ _ l1_3 t279 _ ?side1 ?side2 ?side3 ?side4 ?side5 ?side6 A5.out).mono ?_); (case side1 => exact r2_ HR0.out HB.out); (case side2 => exact HC0.out); (case side3 => exact r2_ HR1_2.out HB.out); (case side4 => exact HC1_2.out); (case side5 => exact r2_ HR1_3.out HB.out); (case side6 => exact HC1_3.out); rintro e w10 ⟨v280, rfl, ho0, hb⟩; refine ⟨_, rfl, ?_⟩; have HO281 := Aside0.mk (Kd.R_lower ho0 (below_size (r0_ HB.out GE277.out))); replace BK277 := Aside0.mk (blk_below (g := gb277) (o := .cells #[.int .i64 a1_0, .int .i64 a1_1, .slice A1_2 l1_2.length c1_2, .slice A1_3 l1_3.length c1_3] 67 (0, 0)) (r1_ BK277.out) hb); replace HB := Aside0.mk (below_step (r0_ HB.out GE277.out) hb); (try clear hb); (try clear hb2); (try clear hk); (try clear hi); (try clear ho0); obtain ⟨Ao11, co11, eo11⟩ := Kd.R_slice HO281.out; subst eo11))
  go_loopg [6, 17] k (fun kq v6 v17 w' => ∃ (x6_1 : Int) (x17_1 : Int), v6 = .int .i64 x6_1 ∧ v17 = .int .i64 x17_1 ∧ Aside0 (impl_RackNet.l0 kq x6_1 t279 (t279.length : Int) x17_1 = some (r1, r2)) ∧ Aside0 (kq ≤ k) ∧ Aside0 (Kd.R k130 130 w' w.heap.size (fun _ => True) (.slice Ao11 t279.length co11) t279) ∧ Aside0 (w'.heap[gb277]? = some (.cells #[.int .i64 a1_0, .int .i64 a1_1, (.slice A1_2 l1_2.length c1_2), (.slice A1_3 l1_3.length c1_3)] 67 (0, 0))) ∧ Aside0 (Below w.heap.size w w'))
  case atStart => exact ⟨(0), (0), (by first | rfl | (simp; done) | (simp [*]; done)), (by first | rfl | (simp; done) | (simp [*]; done)), H', ⟨Nat.le_refl _⟩, ⟨rk_ HO281.out⟩, ⟨r1_ BK277.out⟩, ⟨r0_ HB.out GE277.out⟩⟩
  case round =>
   clear H'
   try clear c1
   try clear p2
   try clear c4
   try clear c10
   try clear hcz7_0
   try clear hcz7_1
   try clear hcz7_2
   try clear hcz7_3
   try clear hcz9_0
   try clear hcz9_1
   try clear hcz9_2
   try clear hcz9_3
   try clear hfz7_0
   try clear hfz7_1
   try clear hfz7_2
   try clear hfz7_3
   try clear hfz9_0
   try clear hfz9_1
   try clear hfz9_2
   try clear hfz9_3
   obtain ⟨x6_1, x17_1, rfl, rfl, HA, HK1, HO_15, BK277, HB⟩ := hrel
   cases gk with
   | zero => exact absurd HA.out (by simp [impl_RackNet.l0])
   | succ k1 =>
    have H := HA.out
    clear HA
    simp only [impl_RackNet.l0] at H
    by_cases c12 : x17_1 < (t279.length : Int)
    ·rw [if_pos c12] at H
     have c12b0 : decide (x17_1 < (t279.length : Int)) = true := decide_eq_true c12
     clear c12
     by_cases c13 : 0 ≤ x17_1
     case neg =>
      rw [if_neg c13] at H
      exact absurd H (by simp)
     rw [if_pos c13] at H
     have c13b0 : decide (0 ≤ x17_1) = true := decide_eq_true c13
     clear c13
     by_cases c14 : x17_1 < (t279.length : Int)
     case neg =>
      rw [if_neg c14] at H
      exact absurd H (by simp)
     rw [if_pos c14] at H
     have c14b0 : decide (x17_1 < (t279.length : Int)) = true := decide_eq_true c14
     clear c14
     have H' := Aside0.mk H
     clear H
     have p282 : 0 ≤ (x17_1 : Int) := od_
     have q282 : x17_1 < (t279.length : Int) := od_
     obtain ⟨ad282, e282, hx282_0, hx282_1, hx282_2, hx282_3, hx282_4, hx282_5, hx282_6, hx282_7, hx282_8⟩ := at_T130 (Kd.R_reads' HO_15.out).2.2 x17_1 p282 q282
     cases e282
     replace p282 := eq_true p282
     replace q282 := eq_true q282
     go_wp2_with (first | ((with_reducible refine gate_dst (N := 8) rfl ?_); refine box_event ?hg (N := 8) ?hd (cs := #[.string (⟨#[]⟩ : ByteArray), .int .i64 0, .int .i64 0, .int .i64 0, .int .i64 0, .int .i64 0, .int .i64 0, .int .i64 0, .int .i64 0]) (t := 130) ?hr ?_; (case hd => rfl); (case hg => rfl); (case hr => first | (go_simp; done) | (go_simp; rfl)); intro gb283 hg w15 hbox hb; replace HO_15 := Aside0.mk (Kd.R_below (Kd.R_elderB (rk_ HO_15.out) gb283 (Nat.le_of_eq hg.symm)) hb); have BK283 := Aside0.mk (hbox); have GW283 := Aside0.mk ((by rw [hg]; exact (below_size (r0_ HB.out GE277.out)) : w.heap.size ≤ gb283)); have GE283 := Aside0.mk ((by rw [hg]; exact (below_size (r0_ HB.out GE277.out)) : w.heap.size ≤ gb283)); replace HB := Aside0.mk (below_step (r0_ HB.out GE277.out) hb); have NB277_283 := Aside0.mk ((by rw [hg]; exact Nat.ne_of_lt (blk_lt (g := gb277) (o := .cells #[.int .i64 a1_0, .int .i64 a1_1, .slice A1_2 l1_2.length c1_2, .slice A1_3 l1_3.length c1_3] 67 (0, 0)) (r1_ BK277.out)) : gb277 ≠ gb283)); have NB283_277 := Aside0.mk ((by rw [hg]; exact Nat.ne_of_gt (blk_lt (g := gb277) (o := .cells #[.int .i64 a1_0, .int .i64 a1_1, .slice A1_2 l1_2.length c1_2, .slice A1_3 l1_3.length c1_3] 67 (0, 0)) (r1_ BK277.out)) : gb283 ≠ gb277)); replace BK277 := Aside0.mk (blk_below (g := gb277) (o := .cells #[.int .i64 a1_0, .int .i64 a1_1, .slice A1_2 l1_2.length c1_2, .slice A1_3 l1_3.length c1_3] 67 (0, 0)) (r1_ BK277.out) hb); clear hb hbox hg; have hnb16 := NB283_277.out; have hnc16 := NB277_283.out; have hcz17_0 : w15.cell? ⟨gb283, 0, none⟩ = some (.string (⟨#[]⟩ : ByteArray)) := (blk_cell BK283.out 0).trans rfl; have hcz17_1 : w15.cell? ⟨gb283, 1, none⟩ = some (.int .i64 0) := (blk_cell BK283.out 1).trans rfl; have hcz17_2 : w15.cell? ⟨gb283, 2, none⟩ = some (.int .i64 0) := (blk_cell BK283.out 2).trans rfl; have hcz17_3 : w15.cell? ⟨gb283, 3, none⟩ = some (.int .i64 0) := (blk_cell BK283.out 3).trans rfl; have hcz17_4 : w15.cell? ⟨gb283, 4, none⟩ = some (.int .i64 0) := (blk_cell BK283.out 4).trans rfl; have hcz17_5 : w15.cell? ⟨gb283, 5, none⟩ = some (.int .i64 0) := (blk_cell BK283.out 5).trans rfl; have hcz17_6 : w15.cell? ⟨gb283, 6, none⟩ = some (.int .i64 0) := (blk_cell BK283.out 6).trans rfl; have hcz17_7 : w15.cell? ⟨gb283, 7, none⟩ = some (.int .i64 0) := (blk_cell BK283.out 7).trans rfl; have hcz17_8 : w15.cell? ⟨gb283, 8, none⟩ = some (.int .i64 0) := (blk_cell BK283.out 8).trans rfl; have hfz17_0 := blk_frozen BK283.out 0; have hfz17_1 := blk_frozen BK283.out 1; have hfz17_2 := blk_frozen BK283.out 2; have hfz17_3 := blk_frozen BK283.out 3; have hfz17_4 := blk_frozen BK283.out 4; have hfz17_5 := blk_frozen BK283.out 5; have hfz17_6 := blk_frozen BK283.out 6; have hfz17_7 := blk_frozen BK283.out 7; have hfz17_8 := blk_frozen BK283.out 8))
     go_roundg k1
     case measure => have := HK1.out; omega
     case rel => exact ⟨(wrap64 (x6_1 + ((rd_T130 t279 x17_1).f7))), (wrap64 (x17_1 + 1)), (by first | rfl | (simp; done) | (simp [*]; done)), (by first | rfl | (simp; done) | (simp [*]; done)), H', ⟨by have := HK1.out; omega⟩, ⟨rk_ (Kd.R_mono (Kd.R_far (p := ⟨gb283, 8, none⟩) (Kd.R_far (p := ⟨gb283, 7, none⟩) (Kd.R_far (p := ⟨gb283, 6, none⟩) (Kd.R_far (p := ⟨gb283, 5, none⟩) (Kd.R_far (p := ⟨gb283, 4, none⟩) (Kd.R_far (p := ⟨gb283, 3, none⟩) (Kd.R_far (p := ⟨gb283, 2, none⟩) (Kd.R_far (p := ⟨gb283, 1, none⟩) (Kd.R_far (p := ⟨gb283, 0, none⟩) (Kd.R_mono HO_15.out (fun k_ hk => (⟨hk, hk.2⟩ : _ ∧ k_ ≠ gb283))) (fun _ hk => hk.2) (.string ((rd_T130 t279 x17_1).f0))) (fun _ hk => hk.2) (.int .i64 ((rd_T130 t279 x17_1).f1))) (fun _ hk => hk.2) (.int .i64 ((rd_T130 t279 x17_1).f2))) (fun _ hk => hk.2) (.int .i64 ((rd_T130 t279 x17_1).f3))) (fun _ hk => hk.2) (.int .i64 ((rd_T130 t279 x17_1).f4))) (fun _ hk => hk.2) (.int .i64 ((rd_T130 t279 x17_1).f5))) (fun _ hk => hk.2) (.int .i64 ((rd_T130 t279 x17_1).f6))) (fun _ hk => hk.2) (.int .i64 ((rd_T130 t279 x17_1).f7))) (fun _ hk => hk.2) (.int .i64 ((rd_T130 t279 x17_1).f8))) (fun _ hk => trivial))⟩, ⟨by (with_reducible repeat (first | refine blk_drewN ?_ _ | refine blk_drew ?_ | refine blk_alloc ?_ _)); refine blk_far ?_ NB277_283.out _; (with_reducible repeat (first | refine blk_drewN ?_ _ | refine blk_drew ?_ | refine blk_alloc ?_ _)); refine blk_far ?_ NB277_283.out _; (with_reducible repeat (first | refine blk_drewN ?_ _ | refine blk_drew ?_ | refine blk_alloc ?_ _)); refine blk_far ?_ NB277_283.out _; (with_reducible repeat (first | refine blk_drewN ?_ _ | refine blk_drew ?_ | refine blk_alloc ?_ _)); refine blk_far ?_ NB277_283.out _; (with_reducible repeat (first | refine blk_drewN ?_ _ | refine blk_drew ?_ | refine blk_alloc ?_ _)); refine blk_far ?_ NB277_283.out _; (with_reducible repeat (first | refine blk_drewN ?_ _ | refine blk_drew ?_ | refine blk_alloc ?_ _)); refine blk_far ?_ NB277_283.out _; (with_reducible repeat (first | refine blk_drewN ?_ _ | refine blk_drew ?_ | refine blk_alloc ?_ _)); refine blk_far ?_ NB277_283.out _; (with_reducible repeat (first | refine blk_drewN ?_ _ | refine blk_drew ?_ | refine blk_alloc ?_ _)); refine blk_far ?_ NB277_283.out _; (with_reducible repeat (first | refine blk_drewN ?_ _ | refine blk_drew ?_ | refine blk_alloc ?_ _)); refine blk_far ?_ NB277_283.out _; (with_reducible repeat (first | refine blk_drewN ?_ _ | refine blk_drew ?_ | refine blk_alloc ?_ _)); exact BK277.out⟩, ⟨r3_ HB.out GE277.out GE283.out⟩⟩
    ·rw [if_neg c12] at H
     have c12b0 : decide (x17_1 < (t279.length : Int)) = false := decide_eq_false c12
     clear c12
     simp only [Option.some.injEq, Prod.mk.injEq] at H
     obtain ⟨rfl, rfl⟩ := H
     go_wp2
     go_ret2
     exact ⟨by first | rfl | (simp [errW_none, errW_some] <;> rfl) | (simp [*, errW_none, errW_some] <;> rfl), r0_ HB.out GE277.out⟩
 ·replace c4 := Bool.eq_false_iff.mpr c4
  subst c4
  replace H : (some (0, 1)) = some (r1, r2) := by rw [if_neg (show ¬ (false = true) by decide)] at H; exact H
  simp only [Option.some.injEq, Prod.mk.injEq] at H
  obtain ⟨rfl, rfl⟩ := H
  go_enter Try.func46, Try.ntmps46
  go_wp2_with (first | ((with_reducible refine gate_dst (N := 3) rfl ?_); refine box_event ?hg (N := 3) ?hd (cs := #[.int .i64 a1_0, .int .i64 a1_1, .slice A1_2 l1_2.length c1_2, .slice A1_3 l1_3.length c1_3]) (t := 67) ?hr ?_; (case hd => rfl); (case hg => rfl); (case hr => first | (go_simp; done) | (go_simp; rfl)); intro gb277 hg w18 hbox hb; have BK277 := Aside0.mk (hbox); have GW277 := Aside0.mk ((by rw [hg]; exact (below_size (bl_ HB.out)) : w.heap.size ≤ gb277)); have GE277 := Aside0.mk ((by rw [hg]; exact (below_size (bl_ HB.out)) : w.heap.size ≤ gb277)); replace HB := Aside0.mk (below_step (bl_ HB.out) hb); clear hb hbox hg; have hcz19_0 : w18.cell? ⟨gb277, 0, none⟩ = some (.int .i64 a1_0) := (blk_cell BK277.out 0).trans rfl; have hcz19_1 : w18.cell? ⟨gb277, 1, none⟩ = some (.int .i64 a1_1) := (blk_cell BK277.out 1).trans rfl; have hcz19_2 : w18.cell? ⟨gb277, 2, none⟩ = some (.slice A1_2 l1_2.length c1_2) := (blk_cell BK277.out 2).trans rfl; have hcz19_3 : w18.cell? ⟨gb277, 3, none⟩ = some (.slice A1_3 l1_3.length c1_3) := (blk_cell BK277.out 3).trans rfl; have hfz19_0 := blk_frozen BK277.out 0; have hfz19_1 := blk_frozen BK277.out 1; have hfz19_2 := blk_frozen BK277.out 2; have hfz19_3 := blk_frozen BK277.out 3) | ((with_reducible refine gate_callee (f := 108) rfl ?_); refine goesL_ (some 11) rfl rfl Try.func108 (by kernel_rfl) rfl #[.slice A0 l0.length c0, .agg #[.int .i64 a1_0, .int .i64 a1_1, .slice A1_2 l1_2.length c1_2, .slice A1_3 l1_3.length c1_3]] rfl ag_ ?_; (with_reducible refine (impl_IsRack.calls k _ _ l0 a1_0 a1_1 _ _ l1_2 _ _ l1_3 false _ ?side1 ?side2 ?side3 ?side4 ?side5 ?side6 A3.out).mono ?_); (case side1 => exact r2_ HR0.out HB.out); (case side2 => exact HC0.out); (case side3 => exact r2_ HR1_2.out HB.out); (case side4 => exact HC1_2.out); (case side5 => exact r2_ HR1_3.out HB.out); (case side6 => exact HC1_3.out); rintro e w20 ⟨rfl, hb⟩; refine ⟨_, rfl, ?_⟩; replace BK277 := Aside0.mk (blk_below (g := gb277) (o := .cells #[.int .i64 a1_0, .int .i64 a1_1, .slice A1_2 l1_2.length c1_2, .slice A1_3 l1_3.length c1_3] 67 (0, 0)) (r1_ BK277.out) hb); replace HB := Aside0.mk (below_step (r0_ HB.out GE277.out) hb); (try clear hb); (try clear hb2); (try clear hk); (try clear hi)))
  go_ret2
  exact ⟨by first | rfl | (simp [errW_none, errW_some] <;> rfl) | (simp [*, errW_none, errW_some] <;> rfl), r0_ HB.out GE277.out⟩
end Go.Proofs.Ytalcbcelalbhiaa.PFnExactRackNet
