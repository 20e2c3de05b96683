/- QFnExactGreatestLoadg of the law FnExactGreatestLoad: taken over, declaration by declaration, as far as the law leans on it (the words and the printed functions are the kit's own print). No condition but what each says. -/
import Derived.Test.YtalcbcelalbhiaaZFnExactGreatestLoadav
import Derived.Test.YtalcbcelalbhiaaZFnExactGreatestLoadaw
import Derived.Test.YtalcbcelalbhiaaZFnExactGreatestLoadbc
namespace Go.Proofs.Ytalcbcelalbhiaa.PFnExactGreatestLoad
open Go.RowKit Go.Proofs.YtalcbcelalbhiaaW.PrintWords Go.Proofs.YtalcbcelalbhiaaW.PrintLast Go.Proofs.YtalcbcelalbhiaaW.PrintMore
attribute [local go_sem] max2_int min2_int max_two min_two max_three min_three max_four min_four   -- for this text's walks alone
set_option linter.unusedVariables false
set_option linter.unusedSimpArgs false
open Bool renaming true → t_, false → f_
def impl_GreatestLoad.l0 : Nat → Int → List (S130) → Int → Int → Option (Int × Int)
 | 0, _, _, _, _ => none
 | k + 1, x6, x15, x16, x17 => if x17 < x16 then (if 0 ≤ x17 then (if x17 < (x15.length : Int) then (impl_GreatestLoad.l0 k (mx x6 ((rd_T130 x15 x17).f2)) x15 x16 (wrap64 (x17 + 1))) else (none)) else (none)) else (some (x6, 0))
def impl_GreatestLoad.f (k : Nat) (l0 : List (S130)) (a1_0 : Int) (a1_1 : Int) (l1_2 : List Int) (l1_3 : List ByteArray) : Option (Int × Int) := (impl_IsRack.f k l0 a1_0 a1_1 l1_2 l1_3).bind fun t247 => (if t247 = true then ((impl_loaded.f k l0 a1_0 a1_1 l1_2 l1_3).bind fun t248 => (impl_GreatestLoad.l0 k 0 t248 (t248.length : Int) 0)) else (some (0, 1)))
set_option maxHeartbeats 8000000 in
set_option maxRecDepth 100000 in
theorem impl_GreatestLoad.calls (k : Nat) (A0 : Option Addr) (c0 : Nat) (l0 : List (S130)) (a1_0 : Int) (a1_1 : Int) (A1_2 : Option Addr) (c1_2 : Nat) (l1_2 : List Int) (A1_3 : Option Addr) (c1_3 : Nat) (l1_3 : List ByteArray) (r1 : Int) (r2 : Int) (w : World) (hr0 : Kd.C k130 w A0 l0.length l0) (hc0 : l0.length ≤ c0) (hr1_2 : Kd.C (Kd.int .i64) w A1_2 l1_2.length l1_2) (hc1_2 : l1_2.length ≤ c1_2) (hr1_3 : Kd.C Kd.string w A1_3 l1_3.length l1_3) (hc1_3 : l1_3.length ≤ c1_3) (h : impl_GreatestLoad.f k l0 a1_0 a1_1 l1_2 l1_3 = some (r1, r2)) :
  Calls Try.prog 42 #[.slice A0 l0.length c0, .agg #[.int .i64 a1_0, .int .i64 a1_1, .slice A1_2 l1_2.length c1_2, .slice A1_3 l1_3.length c1_3]] w fun e w' => e = .returned (.tuple #[.int .i64 r1, .int .i64 r2]) ∧ Below w.heap.size w w' := by
 have hu67 := Try.underlying67
 have hu130 := Try.underlying130
 have HR0 := Aside0.mk hr0
 have HC0 := Aside0.mk hc0
 clear hr0 hc0
 have HR1_2 := Aside0.mk hr1_2
 have HC1_2 := Aside0.mk hc1_2
 clear hr1_2 hc1_2
 have HR1_3 := Aside0.mk hr1_3
 have HC1_3 := Aside0.mk hc1_3
 clear hr1_3 hc1_3
 have HB := Aside0.mk (Below.refl w.heap.size w)
 have H : ((impl_IsRack.f k l0 a1_0 a1_1 l1_2 l1_3).bind fun t247 => (if t247 = true then ((impl_loaded.f k l0 a1_0 a1_1 l1_2 l1_3).bind fun t248 => (impl_GreatestLoad.l0 k 0 t248 (t248.length : Int) 0)) else (some (0, 1)))) = some (r1, r2) := h
 clear h
 replace H := Option.bind_eq_some_iff.mp H
 obtain ⟨t247, A30, H⟩ := H
 replace H : (if t247 = true then ((impl_loaded.f k l0 a1_0 a1_1 l1_2 l1_3).bind fun t248 => (impl_GreatestLoad.l0 k 0 t248 (t248.length : Int) 0)) else (some (0, 1))) = some (r1, r2) := H
 have A3 := Aside0.mk A30
 clear A30
 by_cases c4 : t247 = true
 ·subst c4
  replace H : ((impl_loaded.f k l0 a1_0 a1_1 l1_2 l1_3).bind fun t248 => (impl_GreatestLoad.l0 k 0 t248 (t248.length : Int) 0)) = some (r1, r2) := by rw [if_pos rfl] at H; exact H
  replace H := Option.bind_eq_some_iff.mp H
  obtain ⟨t248, A50, H⟩ := H
  replace H : (impl_GreatestLoad.l0 k 0 t248 (t248.length : Int) 0) = some (r1, r2) := H
  have A5 := Aside0.mk A50
  clear A50
  have H' := Aside0.mk H
  clear H
  go_enter Try.func42, Try.ntmps42
  go_wp2_with (first | ((with_reducible refine gate_dst (N := 3) rfl ?_); refine box_event ?hg (N := 3) ?hd (cs := #[.int .i64 a1_0, .int .i64 a1_1, .slice A1_2 l1_2.length c1_2, .slice A1_3 l1_3.length c1_3]) (t := 67) ?hr ?_; (case hd => rfl); (case hg => rfl); (case hr => first | (go_simp; done) | (go_simp; rfl)); intro gb246 hg w6 hbox hb; have BK246 := Aside0.mk (hbox); have GW246 := Aside0.mk ((by rw [hg]; exact (below_size (bl_ HB.out)) : w.heap.size ≤ gb246)); have GE246 := Aside0.mk ((by rw [hg]; exact (below_size (bl_ HB.out)) : w.heap.size ≤ gb246)); replace HB := Aside0.mk (below_step (bl_ HB.out) hb); clear hb hbox hg; have hcz7_0 : w6.cell? ⟨gb246, 0, none⟩ = some (.int .i64 a1_0) := (blk_cell BK246.out 0).trans rfl; have hcz7_1 : w6.cell? ⟨gb246, 1, none⟩ = some (.int .i64 a1_1) := (blk_cell BK246.out 1).trans rfl; have hcz7_2 : w6.cell? ⟨gb246, 2, none⟩ = some (.slice A1_2 l1_2.length c1_2) := (blk_cell BK246.out 2).trans rfl; have hcz7_3 : w6.cell? ⟨gb246, 3, none⟩ = some (.slice A1_3 l1_3.length c1_3) := (blk_cell BK246.out 3).trans rfl; have hfz7_0 := blk_frozen BK246.out 0; have hfz7_1 := blk_frozen BK246.out 1; have hfz7_2 := blk_frozen BK246.out 2; have hfz7_3 := blk_frozen BK246.out 3) | ((with_reducible refine gate_callee (f := 108) rfl ?_); refine goesL_ (some 11) rfl rfl Try.func108 (by kernel_rfl) rfl #[.slice A0 l0.length c0, .agg #[.int .i64 a1_0, .int .i64 a1_1, .slice A1_2 l1_2.length c1_2, .slice A1_3 l1_3.length c1_3]] rfl ag_ ?_; (with_reducible refine (impl_IsRack.calls k _ _ l0 a1_0 a1_1 _ _ l1_2 _ _ l1_3 true _ ?side1 ?side2 ?side3 ?side4 ?side5 ?side6 A3.out).mono ?_); (case side1 => exact r2_ HR0.out HB.out); (case side2 => exact HC0.out); (case side3 => exact r2_ HR1_2.out HB.out); (case side4 => exact HC1_2.out); (case side5 => exact r2_ HR1_3.out HB.out); (case side6 => exact HC1_3.out); rintro e w8 ⟨rfl, hb⟩; refine ⟨_, rfl, ?_⟩; replace BK246 := Aside0.mk (blk_below (g := gb246) (o := .cells #[.int .i64 a1_0, .int .i64 a1_1, .slice A1_2 l1_2.length c1_2, .slice A1_3 l1_3.length c1_3] 67 (0, 0)) (r1_ BK246.out) hb); replace HB := Aside0.mk (below_step (r0_ HB.out GE246.out) hb); (try clear hb); (try clear hb2); (try clear hk); (try clear hi); have hcz9_0 : w8.cell? ⟨gb246, 0, none⟩ = some (.int .i64 a1_0) := (blk_cell BK246.out 0).trans rfl; have hcz9_1 : w8.cell? ⟨gb246, 1, none⟩ = some (.int .i64 a1_1) := (blk_cell BK246.out 1).trans rfl; have hcz9_2 : w8.cell? ⟨gb246, 2, none⟩ = some (.slice A1_2 l1_2.length c1_2) := (blk_cell BK246.out 2).trans rfl; have hcz9_3 : w8.cell? ⟨gb246, 3, none⟩ = some (.slice A1_3 l1_3.length c1_3) := (blk_cell BK246.out 3).trans rfl; have hfz9_0 := blk_frozen BK246.out 0; have hfz9_1 := blk_frozen BK246.out 1; have hfz9_2 := blk_frozen BK246.out 2; have hfz9_3 := blk_frozen BK246.out 3) | ((with_reducible refine gate_callee (f := 109) rfl ?_); refine goesL_ (some 15) rfl rfl Try.func109 (by kernel_rfl) rfl #[.slice A0 l0.length c0, .agg #[.int .i64 a1_0, .int .i64 a1_1, .slice A1_2 l1_2.length c1_2, .slice A1_3 l1_3.length c1_3]] rfl ag_ ?_; (with_reducible refine (impl_loaded.calls k _ _ l0 a1_0 a1_1 _ _ l1_2 _ _ l1_3 t248 _ ?side1 ?side2 ?side3 ?side4 ?side5 ?side6 A5.out).mono ?_); (case side1 => exact r2_ HR0.out HB.out); (case side2 => exact HC0.out); (case side3 => exact r2_ HR1_2.out HB.out); (case side4 => exact HC1_2.out); (case side5 => exact r2_ HR1_3.out HB.out); (case side6 => exact HC1_3.out); rintro e w10 ⟨v249, rfl, ho0, hb⟩; refine ⟨_, rfl, ?_⟩; have HO250 := Aside0.mk (Kd.R_lower ho0 (below_size (r0_ HB.out GE246.out))); replace BK246 := Aside0.mk (blk_below (g := gb246) (o := .cells #[.int .i64 a1_0, .int .i64 a1_1, .slice A1_2 l1_2.length c1_2, .slice A1_3 l1_3.length c1_3] 67 (0, 0)) (r1_ BK246.out) hb); replace HB := Aside0.mk (below_step (r0_ HB.out GE246.out) hb); (try clear hb); (try clear hb2); (try clear hk); (try clear hi); (try clear ho0); obtain ⟨Ao11, co11, eo11⟩ := Kd.R_slice HO250.out; subst eo11))
  go_loopg [6, 17] k (fun kq v6 v17 w' => ∃ (x6_1 : Int) (x17_1 : Int), v6 = .int .i64 x6_1 ∧ v17 = .int .i64 x17_1 ∧ Aside0 (impl_GreatestLoad.l0 kq x6_1 t248 (t248.length : Int) x17_1 = some (r1, r2)) ∧ Aside0 (kq ≤ k) ∧ Aside0 (Kd.R k130 130 w' w.heap.size (fun _ => True) (.slice Ao11 t248.length co11) t248) ∧ Aside0 (w'.heap[gb246]? = some (.cells #[.int .i64 a1_0, .int .i64 a1_1, (.slice A1_2 l1_2.length c1_2), (.slice A1_3 l1_3.length c1_3)] 67 (0, 0))) ∧ Aside0 (Below w.heap.size w w'))
  case atStart => exact ⟨(0), (0), (by first | rfl | (simp; done) | (simp [*]; done)), (by first | rfl | (simp; done) | (simp [*]; done)), H', ⟨Nat.le_refl _⟩, ⟨rk_ HO250.out⟩, ⟨r1_ BK246.out⟩, ⟨r0_ HB.out GE246.out⟩⟩
  case round =>
   clear H'
   try clear c1
   try clear p2
   try clear c4
   try clear c10
   try clear hcz7_0
   try clear hcz7_1
   try clear hcz7_2
   try clear hcz7_3
   try clear hcz9_0
   try clear hcz9_1
   try clear hcz9_2
   try clear hcz9_3
   try clear hfz7_0
   try clear hfz7_1
   try clear hfz7_2
   try clear hfz7_3
   try clear hfz9_0
   try clear hfz9_1
   try clear hfz9_2
   try clear hfz9_3
   obtain ⟨x6_1, x17_1, rfl, rfl, HA, HK1, HO_15, BK246, HB⟩ := hrel
   cases gk with
   | zero => exact absurd HA.out (by simp [impl_GreatestLoad.l0])
   | succ k1 =>
    have H := HA.out
    clear HA
    simp only [impl_GreatestLoad.l0] at H
    by_cases c12 : x17_1 < (t248.length : Int)
    ·rw [if_pos c12] at H
     have c12b0 : decide (x17_1 < (t248.length : Int)) = true := decide_eq_true c12
     clear c12
     by_cases c13 : 0 ≤ x17_1
     case neg =>
      rw [if_neg c13] at H
      exact absurd H (by simp)
     rw [if_pos c13] at H
     have c13b0 : decide (0 ≤ x17_1) = true := decide_eq_true c13
     clear c13
     by_cases c14 : x17_1 < (t248.length : Int)
     case neg =>
      rw [if_neg c14] at H
      exact absurd H (by simp)
     rw [if_pos c14] at H
     have c14b0 : decide (x17_1 < (t248.length : Int)) = true := decide_eq_true c14
     clear c14
     obtain ⟨ji15, hji15⟩ : ∃ j_ : Int, (mx x6_1 ((rd_T130 t248 x17_1).f2)) = j_ := ⟨_, rfl⟩
     replace H : (impl_GreatestLoad.l0 k1 ji15 t248 (t248.length : Int) (wrap64 (x17_1 + 1))) = some (r1, r2) := by first | (rw [hji15] at H; exact H) | (simp only [hji15] at H ⊢; exact H)
     have hji15_ : (if x6_1 < ((rd_T130 t248 x17_1).f2) then ((rd_T130 t248 x17_1).f2) else x6_1) = ji15 := hji15
     have H' := Aside0.mk H
     clear H
     have p251 : 0 ≤ (x17_1 : Int) := od_
     have q251 : x17_1 < (t248.length : Int) := od_
     obtain ⟨ad251, e251, hx251_0, hx251_1, hx251_2, hx251_3, hx251_4, hx251_5, hx251_6, hx251_7, hx251_8⟩ := at_T130 (Kd.R_reads' HO_15.out).2.2 x17_1 p251 q251
     cases e251
     replace p251 := eq_true p251
     replace q251 := eq_true q251
     go_wp2_with (first | ((with_reducible refine gate_dst (N := 8) rfl ?_); refine box_event ?hg (N := 8) ?hd (cs := #[.string (⟨#[]⟩ : ByteArray), .int .i64 0, .int .i64 0, .int .i64 0, .int .i64 0, .int .i64 0, .int .i64 0, .int .i64 0, .int .i64 0]) (t := 130) ?hr ?_; (case hd => rfl); (case hg => rfl); (case hr => first | (go_simp; done) | (go_simp; rfl)); intro gb252 hg w16 hbox hb; replace HO_15 := Aside0.mk (Kd.R_below (Kd.R_elderB (rk_ HO_15.out) gb252 (Nat.le_of_eq hg.symm)) hb); have BK252 := Aside0.mk (hbox); have GW252 := Aside0.mk ((by rw [hg]; exact (below_size (r0_ HB.out GE246.out)) : w.heap.size ≤ gb252)); have GE252 := Aside0.mk ((by rw [hg]; exact (below_size (r0_ HB.out GE246.out)) : w.heap.size ≤ gb252)); replace HB := Aside0.mk (below_step (r0_ HB.out GE246.out) hb); have NB246_252 := Aside0.mk ((by rw [hg]; exact Nat.ne_of_lt (blk_lt (g := gb246) (o := .cells #[.int .i64 a1_0, .int .i64 a1_1, .slice A1_2 l1_2.length c1_2, .slice A1_3 l1_3.length c1_3] 67 (0, 0)) (r1_ BK246.out)) : gb246 ≠ gb252)); have NB252_246 := Aside0.mk ((by rw [hg]; exact Nat.ne_of_gt (blk_lt (g := gb246) (o := .cells #[.int .i64 a1_0, .int .i64 a1_1, .slice A1_2 l1_2.length c1_2, .slice A1_3 l1_3.length c1_3] 67 (0, 0)) (r1_ BK246.out)) : gb252 ≠ gb246)); replace BK246 := Aside0.mk (blk_below (g := gb246) (o := .cells #[.int .i64 a1_0, .int .i64 a1_1, .slice A1_2 l1_2.length c1_2, .slice A1_3 l1_3.length c1_3] 67 (0, 0)) (r1_ BK246.out) hb); clear hb hbox hg; have hnb17 := NB252_246.out; have hnc17 := NB246_252.out; have hcz18_0 : w16.cell? ⟨gb252, 0, none⟩ = some (.string (⟨#[]⟩ : ByteArray)) := (blk_cell BK252.out 0).trans rfl; have hcz18_1 : w16.cell? ⟨gb252, 1, none⟩ = some (.int .i64 0) := (blk_cell BK252.out 1).trans rfl; have hcz18_2 : w16.cell? ⟨gb252, 2, none⟩ = some (.int .i64 0) := (blk_cell BK252.out 2).trans rfl; have hcz18_3 : w16.cell? ⟨gb252, 3, none⟩ = some (.int .i64 0) := (blk_cell BK252.out 3).trans rfl; have hcz18_4 : w16.cell? ⟨gb252, 4, none⟩ = some (.int .i64 0) := (blk_cell BK252.out 4).trans rfl; have hcz18_5 : w16.cell? ⟨gb252, 5, none⟩ = some (.int .i64 0) := (blk_cell BK252.out 5).trans rfl; have hcz18_6 : w16.cell? ⟨gb252, 6, none⟩ = some (.int .i64 0) := (blk_cell BK252.out 6).trans rfl; have hcz18_7 : w16.cell? ⟨gb252, 7, none⟩ = some (.int .i64 0) := (blk_cell BK252.out 7).trans rfl; have hcz18_8 : w16.cell? ⟨gb252, 8, none⟩ = some (.int .i64 0) := (blk_cell BK252.out 8).trans rfl; have hfz18_0 := blk_frozen BK252.out 0; have hfz18_1 := blk_frozen BK252.out 1; have hfz18_2 := blk_frozen BK252.out 2; have hfz18_3 := blk_frozen BK252.out 3; have hfz18_4 := blk_frozen BK252.out 4; have hfz18_5 := blk_frozen BK252.out 5; have hfz18_6 := blk_frozen BK252.out 6; have hfz18_7 := blk_frozen BK252.out 7; have hfz18_8 := blk_frozen BK252.out 8))
     go_roundg k1
     case measure => have := HK1.out; omega
     case rel => exact ⟨(ji15), (wrap64 (x17_1 + 1)), (by first | rfl | (simp; done) | (simp only [← hji15] <;> (first | rfl | simp)) | (simp [*]; done)), (by first | rfl | (simp; done) | (simp [*]; done)), H', ⟨by have := HK1.out; omega⟩, ⟨rk_ (Kd.R_mono (Kd.R_far (p := ⟨gb252, 8, none⟩) (Kd.R_far (p := ⟨gb252, 7, none⟩) (Kd.R_far (p := ⟨gb252, 6, none⟩) (Kd.R_far (p := ⟨gb252, 5, none⟩) (Kd.R_far (p := ⟨gb252, 4, none⟩) (Kd.R_far (p := ⟨gb252, 3, none⟩) (Kd.R_far (p := ⟨gb252, 2, none⟩) (Kd.R_far (p := ⟨gb252, 1, none⟩) (Kd.R_far (p := ⟨gb252, 0, none⟩) (Kd.R_mono HO_15.out (fun k_ hk => (⟨hk, hk.2⟩ : _ ∧ k_ ≠ gb252))) (fun _ hk => hk.2) (.string ((rd_T130 t248 x17_1).f0))) (fun _ hk => hk.2) (.int .i64 ((rd_T130 t248 x17_1).f1))) (fun _ hk => hk.2) (.int .i64 ((rd_T130 t248 x17_1).f2))) (fun _ hk => hk.2) (.int .i64 ((rd_T130 t248 x17_1).f3))) (fun _ hk => hk.2) (.int .i64 ((rd_T130 t248 x17_1).f4))) (fun _ hk => hk.2) (.int .i64 ((rd_T130 t248 x17_1).f5))) (fun _ hk => hk.2) (.int .i64 ((rd_T130 t248 x17_1).f6))) (fun _ hk => hk.2) (.int .i64 ((rd_T130 t248 x17_1).f7))) (fun _ hk => hk.2) (.int .i64 ((rd_T130 t248 x17_1).f8))) (fun _ hk => trivial))⟩, ⟨by (with_reducible repeat (first | refine blk_drewN ?_ _ | refine blk_drew ?_ | refine blk_alloc ?_ _)); refine blk_far ?_ NB246_252.out _; (with_reducible repeat (first | refine blk_drewN ?_ _ | refine blk_drew ?_ | refine blk_alloc ?_ _)); refine blk_far ?_ NB246_252.out _; (with_reducible repeat (first | refine blk_drewN ?_ _ | refine blk_drew ?_ | refine blk_alloc ?_ _)); refine blk_far ?_ NB246_252.out _; (with_reducible repeat (first | refine blk_drewN ?_ _ | refine blk_drew ?_ | refine blk_alloc ?_ _)); refine blk_far ?_ NB246_252.out _; (with_reducible repeat (first | refine blk_drewN ?_ _ | refine blk_drew ?_ | refine blk_alloc ?_ _)); refine blk_far ?_ NB246_252.out _; (with_reducible repeat (first | refine blk_drewN ?_ _ | refine blk_drew ?_ | refine blk_alloc ?_ _)); refine blk_far ?_ NB246_252.out _; (with_reducible repeat (first | refine blk_drewN ?_ _ | refine blk_drew ?_ | refine blk_alloc ?_ _)); refine blk_far ?_ NB246_252.out _; (with_reducible repeat (first | refine blk_drewN ?_ _ | refine blk_drew ?_ | refine blk_alloc ?_ _)); refine blk_far ?_ NB246_252.out _; (with_reducible repeat (first | refine blk_drewN ?_ _ | refine blk_drew ?_ | refine blk_alloc ?_ _)); refine blk_far ?_ NB246_252.out _; (with_reducible repeat (first | refine blk_drewN ?_ _ | refine blk_drew ?_ | refine blk_alloc ?_ _)); exact BK246.out⟩, ⟨r3_ HB.out GE246.out GE252.out⟩⟩
    ·rw [if_neg c12] at H
     have c12b0 : decide (x17_1 < (t248.length : Int)) = false := decide_eq_false c12
     clear c12
     simp only [Option.some.injEq, Prod.mk.injEq] at H
     obtain ⟨rfl, rfl⟩ := H
     go_wp2
     go_ret2
     exact ⟨by first | rfl | (simp [errW_none, errW_some] <;> rfl) | (simp [*, errW_none, errW_some] <;> rfl), r0_ HB.out GE246.out⟩
 ·replace c4 := Bool.eq_false_iff.mpr c4
  subst c4
  replace H : (some (0, 1)) = some (r1, r2) := by rw [if_neg (show ¬ (false = true) by decide)] at H; exact H
  simp only [Option.some.injEq, Prod.mk.injEq] at H
  obtain ⟨rfl, rfl⟩ := H
  go_enter Try.func42, Try.ntmps42
  go_wp2_with (first | ((with_reducible refine gate_dst (N := 3) rfl ?_); refine box_event ?hg (N := 3) ?hd (cs := #[.int .i64 a1_0, .int .i64 a1_1, .slice A1_2 l1_2.length c1_2, .slice A1_3 l1_3.length c1_3]) (t := 67) ?hr ?_; (case hd => rfl); (case hg => rfl); (case hr => first | (go_simp; done) | (go_simp; rfl)); intro gb246 hg w19 hbox hb; have BK246 := Aside0.mk (hbox); have GW246 := Aside0.mk ((by rw [hg]; exact (below_size (bl_ HB.out)) : w.heap.size ≤ gb246)); have GE246 := Aside0.mk ((by rw [hg]; exact (below_size (bl_ HB.out)) : w.heap.size ≤ gb246)); replace HB := Aside0.mk (below_step (bl_ HB.out) hb); clear hb hbox hg; have hcz20_0 : w19.cell? ⟨gb246, 0, none⟩ = some (.int .i64 a1_0) := (blk_cell BK246.out 0).trans rfl; have hcz20_1 : w19.cell? ⟨gb246, 1, none⟩ = some (.int .i64 a1_1) := (blk_cell BK246.out 1).trans rfl; have hcz20_2 : w19.cell? ⟨gb246, 2, none⟩ = some (.slice A1_2 l1_2.length c1_2) := (blk_cell BK246.out 2).trans rfl; have hcz20_3 : w19.cell? ⟨gb246, 3, none⟩ = some (.slice A1_3 l1_3.length c1_3) := (blk_cell BK246.out 3).trans rfl; have hfz20_0 := blk_frozen BK246.out 0; have hfz20_1 := blk_frozen BK246.out 1; have hfz20_2 := blk_frozen BK246.out 2; have hfz20_3 := blk_frozen BK246.out 3) | ((with_reducible refine gate_callee (f := 108) rfl ?_); refine goesL_ (some 11) rfl rfl Try.func108 (by kernel_rfl) rfl #[.slice A0 l0.length c0, .agg #[.int .i64 a1_0, .int .i64 a1_1, .slice A1_2 l1_2.length c1_2, .slice A1_3 l1_3.length c1_3]] rfl ag_ ?_; (with_reducible refine (impl_IsRack.calls k _ _ l0 a1_0 a1_1 _ _ l1_2 _ _ l1_3 false _ ?side1 ?side2 ?side3 ?side4 ?side5 ?side6 A3.out).mono ?_); (case side1 => exact r2_ HR0.out HB.out); (case side2 => exact HC0.out); (case side3 => exact r2_ HR1_2.out HB.out); (case side4 => exact HC1_2.out); (case side5 => exact r2_ HR1_3.out HB.out); (case side6 => exact HC1_3.out); rintro e w21 ⟨rfl, hb⟩; refine ⟨_, rfl, ?_⟩; replace BK246 := Aside0.mk (blk_below (g := gb246) (o := .cells #[.int .i64 a1_0, .int .i64 a1_1, .slice A1_2 l1_2.length c1_2, .slice A1_3 l1_3.length c1_3] 67 (0, 0)) (r1_ BK246.out) hb); replace HB := Aside0.mk (below_step (r0_ HB.out GE246.out) hb); (try clear hb); (try clear hb2); (try clear hk); (try clear hi)))
  go_ret2
  exact ⟨by first | rfl | (simp [errW_none, errW_some] <;> rfl) | (simp [*, errW_none, errW_some] <;> rfl), r0_ HB.out GE246.out⟩
def laws_eqArticle.f (a0_0 : ByteArray) (a0_1 : Int) (a0_2 : Int) (a0_3 : Int) (a0_4 : Int) (a0_5 : Int) (a0_6 : Int) (a0_7 : Int) (a0_8 : Int) (a1_0 : ByteArray) (a1_1 : Int) (a1_2 : Int) (a1_3 : Int) (a1_4 : Int) (a1_5 : Int) (a1_6 : Int) (a1_7 : Int) (a1_8 : Int) : Option (Bool) := if a0_0.toList = a1_0.toList then (if a0_1 = a1_1 then (if a0_2 = a1_2 then (if a0_3 = a1_3 then (if a0_4 = a1_4 then (if a0_5 = a1_5 then (if a0_6 = a1_6 then (if a0_7 = a1_7 then (if a0_8 = a1_8 then (some true) else (some false)) else (some false)) else (some false)) else (some false)) else (some false)) else (some false)) else (some false)) else (some false)) else (some false)
set_option maxHeartbeats 8000000 in
set_option maxRecDepth 100000 in
theorem laws_eqArticle.calls (a0_0 : ByteArray) (a0_1 : Int) (a0_2 : Int) (a0_3 : Int) (a0_4 : Int) (a0_5 : Int) (a0_6 : Int) (a0_7 : Int) (a0_8 : Int) (a1_0 : ByteArray) (a1_1 : Int) (a1_2 : Int) (a1_3 : Int) (a1_4 : Int) (a1_5 : Int) (a1_6 : Int) (a1_7 : Int) (a1_8 : Int) (r : Bool) (w : World) (h : laws_eqArticle.f a0_0 a0_1 a0_2 a0_3 a0_4 a0_5 a0_6 a0_7 a0_8 a1_0 a1_1 a1_2 a1_3 a1_4 a1_5 a1_6 a1_7 a1_8 = some r) :
  Calls Try.prog 147 #[.agg #[.string a0_0, .int .i64 a0_1, .int .i64 a0_2, .int .i64 a0_3, .int .i64 a0_4, .int .i64 a0_5, .int .i64 a0_6, .int .i64 a0_7, .int .i64 a0_8], .agg #[.string a1_0, .int .i64 a1_1, .int .i64 a1_2, .int .i64 a1_3, .int .i64 a1_4, .int .i64 a1_5, .int .i64 a1_6, .int .i64 a1_7, .int .i64 a1_8]] w fun e w' => e = .returned (.bool r) ∧ Below w.heap.size w w' := by
 have hu130 := Try.underlying130
 have HB := Aside0.mk (Below.refl w.heap.size w)
 have H : (if a0_0.toList = a1_0.toList then (if a0_1 = a1_1 then (if a0_2 = a1_2 then (if a0_3 = a1_3 then (if a0_4 = a1_4 then (if a0_5 = a1_5 then (if a0_6 = a1_6 then (if a0_7 = a1_7 then (if a0_8 = a1_8 then (some true) else (some false)) else (some false)) else (some false)) else (some false)) else (some false)) else (some false)) else (some false)) else (some false)) else (some false)) = some r := h
 clear h
 by_cases c3 : a0_0.toList = a1_0.toList
 ·rw [if_pos c3] at H
  have c3b0 : (a0_0.toList == a1_0.toList) = true := beq_iff_eq.mpr c3
  have c3b1 : (a0_0.toList != a1_0.toList) = false := bne_eq_false_iff_eq.mpr c3
  clear c3
  by_cases c4 : a0_1 = a1_1
  ·rw [if_pos c4] at H
   have c4b0 : (a0_1 == a1_1) = true := beq_iff_eq.mpr c4
   have c4b1 : (a0_1 != a1_1) = false := bne_eq_false_iff_eq.mpr c4
   clear c4
   by_cases c5 : a0_2 = a1_2
   ·rw [if_pos c5] at H
    have c5b0 : (a0_2 == a1_2) = true := beq_iff_eq.mpr c5
    have c5b1 : (a0_2 != a1_2) = false := bne_eq_false_iff_eq.mpr c5
    clear c5
    by_cases c6 : a0_3 = a1_3
    ·rw [if_pos c6] at H
     have c6b0 : (a0_3 == a1_3) = true := beq_iff_eq.mpr c6
     have c6b1 : (a0_3 != a1_3) = false := bne_eq_false_iff_eq.mpr c6
     clear c6
     by_cases c7 : a0_4 = a1_4
     ·rw [if_pos c7] at H
      have c7b0 : (a0_4 == a1_4) = true := beq_iff_eq.mpr c7
      have c7b1 : (a0_4 != a1_4) = false := bne_eq_false_iff_eq.mpr c7
      clear c7
      by_cases c8 : a0_5 = a1_5
      ·rw [if_pos c8] at H
       have c8b0 : (a0_5 == a1_5) = true := beq_iff_eq.mpr c8
       have c8b1 : (a0_5 != a1_5) = false := bne_eq_false_iff_eq.mpr c8
       clear c8
       by_cases c9 : a0_6 = a1_6
       ·rw [if_pos c9] at H
        have c9b0 : (a0_6 == a1_6) = true := beq_iff_eq.mpr c9
        have c9b1 : (a0_6 != a1_6) = false := bne_eq_false_iff_eq.mpr c9
        clear c9
        by_cases c10 : a0_7 = a1_7
        ·rw [if_pos c10] at H
         have c10b0 : (a0_7 == a1_7) = true := beq_iff_eq.mpr c10
         have c10b1 : (a0_7 != a1_7) = false := bne_eq_false_iff_eq.mpr c10
         clear c10
         by_cases c11 : a0_8 = a1_8
         ·rw [if_pos c11] at H
          have c11b0 : (a0_8 == a1_8) = true := beq_iff_eq.mpr c11
          have c11b1 : (a0_8 != a1_8) = false := bne_eq_false_iff_eq.mpr c11
          clear c11
          obtain rfl := Option.some.inj H
          go_enter Try.func147, Try.ntmps147
          go_wp2_with (first | ((with_reducible refine gate_dst (N := 2) rfl ?_); refine box_event ?hg (N := 2) ?hd (cs := #[.string a0_0, .int .i64 a0_1, .int .i64 a0_2, .int .i64 a0_3, .int .i64 a0_4, .int .i64 a0_5, .int .i64 a0_6, .int .i64 a0_7, .int .i64 a0_8]) (t := 130) ?hr ?_; (case hd => rfl); (case hg => rfl); (case hr => first | (go_simp; done) | (go_simp; rfl)); intro gb253 hg w12 hbox hb; have BK253 := Aside0.mk (hbox); have GW253 := Aside0.mk ((by rw [hg]; exact (below_size (bl_ HB.out)) : w.heap.size ≤ gb253)); have GE253 := Aside0.mk ((by rw [hg]; exact (below_size (bl_ HB.out)) : w.heap.size ≤ gb253)); replace HB := Aside0.mk (below_step (bl_ HB.out) hb); clear hb hbox hg) | ((with_reducible refine gate_dst (N := 3) rfl ?_); refine box_event ?hg (N := 3) ?hd (cs := #[.string a1_0, .int .i64 a1_1, .int .i64 a1_2, .int .i64 a1_3, .int .i64 a1_4, .int .i64 a1_5, .int .i64 a1_6, .int .i64 a1_7, .int .i64 a1_8]) (t := 130) ?hr ?_; (case hd => rfl); (case hg => rfl); (case hr => first | (go_simp; done) | (go_simp; rfl)); intro gb254 hg w13 hbox hb; have BK254 := Aside0.mk (hbox); have GW254 := Aside0.mk ((by rw [hg]; exact (below_size (r0_ HB.out GE253.out)) : w.heap.size ≤ gb254)); have GE254 := Aside0.mk ((by rw [hg]; exact (below_size (r0_ HB.out GE253.out)) : w.heap.size ≤ gb254)); replace HB := Aside0.mk (below_step (r0_ HB.out GE253.out) hb); have NB253_254 := Aside0.mk ((by rw [hg]; exact Nat.ne_of_lt (blk_lt (g := gb253) (o := .cells #[.string a0_0, .int .i64 a0_1, .int .i64 a0_2, .int .i64 a0_3, .int .i64 a0_4, .int .i64 a0_5, .int .i64 a0_6, .int .i64 a0_7, .int .i64 a0_8] 130 (0, 0)) (r1_ BK253.out)) : gb253 ≠ gb254)); have NB254_253 := Aside0.mk ((by rw [hg]; exact Nat.ne_of_gt (blk_lt (g := gb253) (o := .cells #[.string a0_0, .int .i64 a0_1, .int .i64 a0_2, .int .i64 a0_3, .int .i64 a0_4, .int .i64 a0_5, .int .i64 a0_6, .int .i64 a0_7, .int .i64 a0_8] 130 (0, 0)) (r1_ BK253.out)) : gb254 ≠ gb253)); replace BK253 := Aside0.mk (blk_below (g := gb253) (o := .cells #[.string a0_0, .int .i64 a0_1, .int .i64 a0_2, .int .i64 a0_3, .int .i64 a0_4, .int .i64 a0_5, .int .i64 a0_6, .int .i64 a0_7, .int .i64 a0_8] 130 (0, 0)) (r1_ BK253.out) hb); clear hb hbox hg; have hnb14 := NB253_254.out; have hnc14 := NB254_253.out; have hcz15_0 : w13.cell? ⟨gb253, 0, none⟩ = some (.string a0_0) := (blk_cell BK253.out 0).trans rfl; have hcz15_1 : w13.cell? ⟨gb253, 1, none⟩ = some (.int .i64 a0_1) := (blk_cell BK253.out 1).trans rfl; have hcz15_2 : w13.cell? ⟨gb253, 2, none⟩ = some (.int .i64 a0_2) := (blk_cell BK253.out 2).trans rfl; have hcz15_3 : w13.cell? ⟨gb253, 3, none⟩ = some (.int .i64 a0_3) := (blk_cell BK253.out 3).trans rfl; have hcz15_4 : w13.cell? ⟨gb253, 4, none⟩ = some (.int .i64 a0_4) := (blk_cell BK253.out 4).trans rfl; have hcz15_5 : w13.cell? ⟨gb253, 5, none⟩ = some (.int .i64 a0_5) := (blk_cell BK253.out 5).trans rfl; have hcz15_6 : w13.cell? ⟨gb253, 6, none⟩ = some (.int .i64 a0_6) := (blk_cell BK253.out 6).trans rfl; have hcz15_7 : w13.cell? ⟨gb253, 7, none⟩ = some (.int .i64 a0_7) := (blk_cell BK253.out 7).trans rfl; have hcz15_8 : w13.cell? ⟨gb253, 8, none⟩ = some (.int .i64 a0_8) := (blk_cell BK253.out 8).trans rfl; have hfz15_0 := blk_frozen BK253.out 0; have hfz15_1 := blk_frozen BK253.out 1; have hfz15_2 := blk_frozen BK253.out 2; have hfz15_3 := blk_frozen BK253.out 3; have hfz15_4 := blk_frozen BK253.out 4; have hfz15_5 := blk_frozen BK253.out 5; have hfz15_6 := blk_frozen BK253.out 6; have hfz15_7 := blk_frozen BK253.out 7; have hfz15_8 := blk_frozen BK253.out 8; have hcz16_0 : w13.cell? ⟨gb254, 0, none⟩ = some (.string a1_0) := (blk_cell BK254.out 0).trans rfl; have hcz16_1 : w13.cell? ⟨gb254, 1, none⟩ = some (.int .i64 a1_1) := (blk_cell BK254.out 1).trans rfl; have hcz16_2 : w13.cell? ⟨gb254, 2, none⟩ = some (.int .i64 a1_2) := (blk_cell BK254.out 2).trans rfl; have hcz16_3 : w13.cell? ⟨gb254, 3, none⟩ = some (.int .i64 a1_3) := (blk_cell BK254.out 3).trans rfl; have hcz16_4 : w13.cell? ⟨gb254, 4, none⟩ = some (.int .i64 a1_4) := (blk_cell BK254.out 4).trans rfl; have hcz16_5 : w13.cell? ⟨gb254, 5, none⟩ = some (.int .i64 a1_5) := (blk_cell BK254.out 5).trans rfl; have hcz16_6 : w13.cell? ⟨gb254, 6, none⟩ = some (.int .i64 a1_6) := (blk_cell BK254.out 6).trans rfl; have hcz16_7 : w13.cell? ⟨gb254, 7, none⟩ = some (.int .i64 a1_7) := (blk_cell BK254.out 7).trans rfl; have hcz16_8 : w13.cell? ⟨gb254, 8, none⟩ = some (.int .i64 a1_8) := (blk_cell BK254.out 8).trans rfl; have hfz16_0 := blk_frozen BK254.out 0; have hfz16_1 := blk_frozen BK254.out 1; have hfz16_2 := blk_frozen BK254.out 2; have hfz16_3 := blk_frozen BK254.out 3; have hfz16_4 := blk_frozen BK254.out 4; have hfz16_5 := blk_frozen BK254.out 5; have hfz16_6 := blk_frozen BK254.out 6; have hfz16_7 := blk_frozen BK254.out 7; have hfz16_8 := blk_frozen BK254.out 8))
          go_ret
          exact ⟨by first | rfl | (simp [errW_none, errW_some] <;> rfl) | (simp [*, errW_none, errW_some] <;> rfl), r3_ HB.out GE253.out GE254.out⟩
         ·rw [if_neg c11] at H
          have c11b0 : (a0_8 == a1_8) = false := beq_eq_false_iff_ne.mpr c11
          have c11b1 : (a0_8 != a1_8) = true := bne_iff_ne.mpr c11
          obtain rfl := Option.some.inj H
          go_enter Try.func147, Try.ntmps147
          go_wp2_with (first | ((with_reducible refine gate_dst (N := 2) rfl ?_); refine box_event ?hg (N := 2) ?hd (cs := #[.string a0_0, .int .i64 a0_1, .int .i64 a0_2, .int .i64 a0_3, .int .i64 a0_4, .int .i64 a0_5, .int .i64 a0_6, .int .i64 a0_7, .int .i64 a0_8]) (t := 130) ?hr ?_; (case hd => rfl); (case hg => rfl); (case hr => first | (go_simp; done) | (go_simp; rfl)); intro gb253 hg w17 hbox hb; have BK253 := Aside0.mk (hbox); have GW253 := Aside0.mk ((by rw [hg]; exact (below_size (bl_ HB.out)) : w.heap.size ≤ gb253)); have GE253 := Aside0.mk ((by rw [hg]; exact (below_size (bl_ HB.out)) : w.heap.size ≤ gb253)); replace HB := Aside0.mk (below_step (bl_ HB.out) hb); clear hb hbox hg) | ((with_reducible refine gate_dst (N := 3) rfl ?_); refine box_event ?hg (N := 3) ?hd (cs := #[.string a1_0, .int .i64 a1_1, .int .i64 a1_2, .int .i64 a1_3, .int .i64 a1_4, .int .i64 a1_5, .int .i64 a1_6, .int .i64 a1_7, .int .i64 a1_8]) (t := 130) ?hr ?_; (case hd => rfl); (case hg => rfl); (case hr => first | (go_simp; done) | (go_simp; rfl)); intro gb254 hg w18 hbox hb; have BK254 := Aside0.mk (hbox); have GW254 := Aside0.mk ((by rw [hg]; exact (below_size (r0_ HB.out GE253.out)) : w.heap.size ≤ gb254)); have GE254 := Aside0.mk ((by rw [hg]; exact (below_size (r0_ HB.out GE253.out)) : w.heap.size ≤ gb254)); replace HB := Aside0.mk (below_step (r0_ HB.out GE253.out) hb); have NB253_254 := Aside0.mk ((by rw [hg]; exact Nat.ne_of_lt (blk_lt (g := gb253) (o := .cells #[.string a0_0, .int .i64 a0_1, .int .i64 a0_2, .int .i64 a0_3, .int .i64 a0_4, .int .i64 a0_5, .int .i64 a0_6, .int .i64 a0_7, .int .i64 a0_8] 130 (0, 0)) (r1_ BK253.out)) : gb253 ≠ gb254)); have NB254_253 := Aside0.mk ((by rw [hg]; exact Nat.ne_of_gt (blk_lt (g := gb253) (o := .cells #[.string a0_0, .int .i64 a0_1, .int .i64 a0_2, .int .i64 a0_3, .int .i64 a0_4, .int .i64 a0_5, .int .i64 a0_6, .int .i64 a0_7, .int .i64 a0_8] 130 (0, 0)) (r1_ BK253.out)) : gb254 ≠ gb253)); replace BK253 := Aside0.mk (blk_below (g := gb253) (o := .cells #[.string a0_0, .int .i64 a0_1, .int .i64 a0_2, .int .i64 a0_3, .int .i64 a0_4, .int .i64 a0_5, .int .i64 a0_6, .int .i64 a0_7, .int .i64 a0_8] 130 (0, 0)) (r1_ BK253.out) hb); clear hb hbox hg; have hnb19 := NB253_254.out; have hnc19 := NB254_253.out; have hcz20_0 : w18.cell? ⟨gb253, 0, none⟩ = some (.string a0_0) := (blk_cell BK253.out 0).trans rfl; have hcz20_1 : w18.cell? ⟨gb253, 1, none⟩ = some (.int .i64 a0_1) := (blk_cell BK253.out 1).trans rfl; have hcz20_2 : w18.cell? ⟨gb253, 2, none⟩ = some (.int .i64 a0_2) := (blk_cell BK253.out 2).trans rfl; have hcz20_3 : w18.cell? ⟨gb253, 3, none⟩ = some (.int .i64 a0_3) := (blk_cell BK253.out 3).trans rfl; have hcz20_4 : w18.cell? ⟨gb253, 4, none⟩ = some (.int .i64 a0_4) := (blk_cell BK253.out 4).trans rfl; have hcz20_5 : w18.cell? ⟨gb253, 5, none⟩ = some (.int .i64 a0_5) := (blk_cell BK253.out 5).trans rfl; have hcz20_6 : w18.cell? ⟨gb253, 6, none⟩ = some (.int .i64 a0_6) := (blk_cell BK253.out 6).trans rfl; have hcz20_7 : w18.cell? ⟨gb253, 7, none⟩ = some (.int .i64 a0_7) := (blk_cell BK253.out 7).trans rfl; have hcz20_8 : w18.cell? ⟨gb253, 8, none⟩ = some (.int .i64 a0_8) := (blk_cell BK253.out 8).trans rfl; have hfz20_0 := blk_frozen BK253.out 0; have hfz20_1 := blk_frozen BK253.out 1; have hfz20_2 := blk_frozen BK253.out 2; have hfz20_3 := blk_frozen BK253.out 3; have hfz20_4 := blk_frozen BK253.out 4; have hfz20_5 := blk_frozen BK253.out 5; have hfz20_6 := blk_frozen BK253.out 6; have hfz20_7 := blk_frozen BK253.out 7; have hfz20_8 := blk_frozen BK253.out 8; have hcz21_0 : w18.cell? ⟨gb254, 0, none⟩ = some (.string a1_0) := (blk_cell BK254.out 0).trans rfl; have hcz21_1 : w18.cell? ⟨gb254, 1, none⟩ = some (.int .i64 a1_1) := (blk_cell BK254.out 1).trans rfl; have hcz21_2 : w18.cell? ⟨gb254, 2, none⟩ = some (.int .i64 a1_2) := (blk_cell BK254.out 2).trans rfl; have hcz21_3 : w18.cell? ⟨gb254, 3, none⟩ = some (.int .i64 a1_3) := (blk_cell BK254.out 3).trans rfl; have hcz21_4 : w18.cell? ⟨gb254, 4, none⟩ = some (.int .i64 a1_4) := (blk_cell BK254.out 4).trans rfl; have hcz21_5 : w18.cell? ⟨gb254, 5, none⟩ = some (.int .i64 a1_5) := (blk_cell BK254.out 5).trans rfl; have hcz21_6 : w18.cell? ⟨gb254, 6, none⟩ = some (.int .i64 a1_6) := (blk_cell BK254.out 6).trans rfl; have hcz21_7 : w18.cell? ⟨gb254, 7, none⟩ = some (.int .i64 a1_7) := (blk_cell BK254.out 7).trans rfl; have hcz21_8 : w18.cell? ⟨gb254, 8, none⟩ = some (.int .i64 a1_8) := (blk_cell BK254.out 8).trans rfl; have hfz21_0 := blk_frozen BK254.out 0; have hfz21_1 := blk_frozen BK254.out 1; have hfz21_2 := blk_frozen BK254.out 2; have hfz21_3 := blk_frozen BK254.out 3; have hfz21_4 := blk_frozen BK254.out 4; have hfz21_5 := blk_frozen BK254.out 5; have hfz21_6 := blk_frozen BK254.out 6; have hfz21_7 := blk_frozen BK254.out 7; have hfz21_8 := blk_frozen BK254.out 8))
          go_ret
          exact ⟨by first | rfl | (simp [errW_none, errW_some] <;> rfl) | (simp [*, errW_none, errW_some] <;> rfl), r3_ HB.out GE253.out GE254.out⟩
        ·rw [if_neg c10] at H
         have c10b0 : (a0_7 == a1_7) = false := beq_eq_false_iff_ne.mpr c10
         have c10b1 : (a0_7 != a1_7) = true := bne_iff_ne.mpr c10
         obtain rfl := Option.some.inj H
         go_enter Try.func147, Try.ntmps147
         go_wp2_with (first | ((with_reducible refine gate_dst (N := 2) rfl ?_); refine box_event ?hg (N := 2) ?hd (cs := #[.string a0_0, .int .i64 a0_1, .int .i64 a0_2, .int .i64 a0_3, .int .i64 a0_4, .int .i64 a0_5, .int .i64 a0_6, .int .i64 a0_7, .int .i64 a0_8]) (t := 130) ?hr ?_; (case hd => rfl); (case hg => rfl); (case hr => first | (go_simp; done) | (go_simp; rfl)); intro gb253 hg w22 hbox hb; have BK253 := Aside0.mk (hbox); have GW253 := Aside0.mk ((by rw [hg]; exact (below_size (bl_ HB.out)) : w.heap.size ≤ gb253)); have GE253 := Aside0.mk ((by rw [hg]; exact (below_size (bl_ HB.out)) : w.heap.size ≤ gb253)); replace HB := Aside0.mk (below_step (bl_ HB.out) hb); clear hb hbox hg) | ((with_reducible refine gate_dst (N := 3) rfl ?_); refine box_event ?hg (N := 3) ?hd (cs := #[.string a1_0, .int .i64 a1_1, .int .i64 a1_2, .int .i64 a1_3, .int .i64 a1_4, .int .i64 a1_5, .int .i64 a1_6, .int .i64 a1_7, .int .i64 a1_8]) (t := 130) ?hr ?_; (case hd => rfl); (case hg => rfl); (case hr => first | (go_simp; done) | (go_simp; rfl)); intro gb254 hg w23 hbox hb; have BK254 := Aside0.mk (hbox); have GW254 := Aside0.mk ((by rw [hg]; exact (below_size (r0_ HB.out GE253.out)) : w.heap.size ≤ gb254)); have GE254 := Aside0.mk ((by rw [hg]; exact (below_size (r0_ HB.out GE253.out)) : w.heap.size ≤ gb254)); replace HB := Aside0.mk (below_step (r0_ HB.out GE253.out) hb); have NB253_254 := Aside0.mk ((by rw [hg]; exact Nat.ne_of_lt (blk_lt (g := gb253) (o := .cells #[.string a0_0, .int .i64 a0_1, .int .i64 a0_2, .int .i64 a0_3, .int .i64 a0_4, .int .i64 a0_5, .int .i64 a0_6, .int .i64 a0_7, .int .i64 a0_8] 130 (0, 0)) (r1_ BK253.out)) : gb253 ≠ gb254)); have NB254_253 := Aside0.mk ((by rw [hg]; exact Nat.ne_of_gt (blk_lt (g := gb253) (o := .cells #[.string a0_0, .int .i64 a0_1, .int .i64 a0_2, .int .i64 a0_3, .int .i64 a0_4, .int .i64 a0_5, .int .i64 a0_6, .int .i64 a0_7, .int .i64 a0_8] 130 (0, 0)) (r1_ BK253.out)) : gb254 ≠ gb253)); replace BK253 := Aside0.mk (blk_below (g := gb253) (o := .cells #[.string a0_0, .int .i64 a0_1, .int .i64 a0_2, .int .i64 a0_3, .int .i64 a0_4, .int .i64 a0_5, .int .i64 a0_6, .int .i64 a0_7, .int .i64 a0_8] 130 (0, 0)) (r1_ BK253.out) hb); clear hb hbox hg; have hnb24 := NB253_254.out; have hnc24 := NB254_253.out; have hcz25_0 : w23.cell? ⟨gb253, 0, none⟩ = some (.string a0_0) := (blk_cell BK253.out 0).trans rfl; have hcz25_1 : w23.cell? ⟨gb253, 1, none⟩ = some (.int .i64 a0_1) := (blk_cell BK253.out 1).trans rfl; have hcz25_2 : w23.cell? ⟨gb253, 2, none⟩ = some (.int .i64 a0_2) := (blk_cell BK253.out 2).trans rfl; have hcz25_3 : w23.cell? ⟨gb253, 3, none⟩ = some (.int .i64 a0_3) := (blk_cell BK253.out 3).trans rfl; have hcz25_4 : w23.cell? ⟨gb253, 4, none⟩ = some (.int .i64 a0_4) := (blk_cell BK253.out 4).trans rfl; have hcz25_5 : w23.cell? ⟨gb253, 5, none⟩ = some (.int .i64 a0_5) := (blk_cell BK253.out 5).trans rfl; have hcz25_6 : w23.cell? ⟨gb253, 6, none⟩ = some (.int .i64 a0_6) := (blk_cell BK253.out 6).trans rfl; have hcz25_7 : w23.cell? ⟨gb253, 7, none⟩ = some (.int .i64 a0_7) := (blk_cell BK253.out 7).trans rfl; have hcz25_8 : w23.cell? ⟨gb253, 8, none⟩ = some (.int .i64 a0_8) := (blk_cell BK253.out 8).trans rfl; have hfz25_0 := blk_frozen BK253.out 0; have hfz25_1 := blk_frozen BK253.out 1; have hfz25_2 := blk_frozen BK253.out 2; have hfz25_3 := blk_frozen BK253.out 3; have hfz25_4 := blk_frozen BK253.out 4; have hfz25_5 := blk_frozen BK253.out 5; have hfz25_6 := blk_frozen BK253.out 6; have hfz25_7 := blk_frozen BK253.out 7; have hfz25_8 := blk_frozen BK253.out 8; have hcz26_0 : w23.cell? ⟨gb254, 0, none⟩ = some (.string a1_0) := (blk_cell BK254.out 0).trans rfl; have hcz26_1 : w23.cell? ⟨gb254, 1, none⟩ = some (.int .i64 a1_1) := (blk_cell BK254.out 1).trans rfl; have hcz26_2 : w23.cell? ⟨gb254, 2, none⟩ = some (.int .i64 a1_2) := (blk_cell BK254.out 2).trans rfl; have hcz26_3 : w23.cell? ⟨gb254, 3, none⟩ = some (.int .i64 a1_3) := (blk_cell BK254.out 3).trans rfl; have hcz26_4 : w23.cell? ⟨gb254, 4, none⟩ = some (.int .i64 a1_4) := (blk_cell BK254.out 4).trans rfl; have hcz26_5 : w23.cell? ⟨gb254, 5, none⟩ = some (.int .i64 a1_5) := (blk_cell BK254.out 5).trans rfl; have hcz26_6 : w23.cell? ⟨gb254, 6, none⟩ = some (.int .i64 a1_6) := (blk_cell BK254.out 6).trans rfl; have hcz26_7 : w23.cell? ⟨gb254, 7, none⟩ = some (.int .i64 a1_7) := (blk_cell BK254.out 7).trans rfl; have hcz26_8 : w23.cell? ⟨gb254, 8, none⟩ = some (.int .i64 a1_8) := (blk_cell BK254.out 8).trans rfl; have hfz26_0 := blk_frozen BK254.out 0; have hfz26_1 := blk_frozen BK254.out 1; have hfz26_2 := blk_frozen BK254.out 2; have hfz26_3 := blk_frozen BK254.out 3; have hfz26_4 := blk_frozen BK254.out 4; have hfz26_5 := blk_frozen BK254.out 5; have hfz26_6 := blk_frozen BK254.out 6; have hfz26_7 := blk_frozen BK254.out 7; have hfz26_8 := blk_frozen BK254.out 8))
         go_ret
         exact ⟨by first | rfl | (simp [errW_none, errW_some] <;> rfl) | (simp [*, errW_none, errW_some] <;> rfl), r3_ HB.out GE253.out GE254.out⟩
       ·rw [if_neg c9] at H
        have c9b0 : (a0_6 == a1_6) = false := beq_eq_false_iff_ne.mpr c9
        have c9b1 : (a0_6 != a1_6) = true := bne_iff_ne.mpr c9
        obtain rfl := Option.some.inj H
        go_enter Try.func147, Try.ntmps147
        go_wp2_with (first | ((with_reducible refine gate_dst (N := 2) rfl ?_); refine box_event ?hg (N := 2) ?hd (cs := #[.string a0_0, .int .i64 a0_1, .int .i64 a0_2, .int .i64 a0_3, .int .i64 a0_4, .int .i64 a0_5, .int .i64 a0_6, .int .i64 a0_7, .int .i64 a0_8]) (t := 130) ?hr ?_; (case hd => rfl); (case hg => rfl); (case hr => first | (go_simp; done) | (go_simp; rfl)); intro gb253 hg w27 hbox hb; have BK253 := Aside0.mk (hbox); have GW253 := Aside0.mk ((by rw [hg]; exact (below_size (bl_ HB.out)) : w.heap.size ≤ gb253)); have GE253 := Aside0.mk ((by rw [hg]; exact (below_size (bl_ HB.out)) : w.heap.size ≤ gb253)); replace HB := Aside0.mk (below_step (bl_ HB.out) hb); clear hb hbox hg) | ((with_reducible refine gate_dst (N := 3) rfl ?_); refine box_event ?hg (N := 3) ?hd (cs := #[.string a1_0, .int .i64 a1_1, .int .i64 a1_2, .int .i64 a1_3, .int .i64 a1_4, .int .i64 a1_5, .int .i64 a1_6, .int .i64 a1_7, .int .i64 a1_8]) (t := 130) ?hr ?_; (case hd => rfl); (case hg => rfl); (case hr => first | (go_simp; done) | (go_simp; rfl)); intro gb254 hg w28 hbox hb; have BK254 := Aside0.mk (hbox); have GW254 := Aside0.mk ((by rw [hg]; exact (below_size (r0_ HB.out GE253.out)) : w.heap.size ≤ gb254)); have GE254 := Aside0.mk ((by rw [hg]; exact (below_size (r0_ HB.out GE253.out)) : w.heap.size ≤ gb254)); replace HB := Aside0.mk (below_step (r0_ HB.out GE253.out) hb); have NB253_254 := Aside0.mk ((by rw [hg]; exact Nat.ne_of_lt (blk_lt (g := gb253) (o := .cells #[.string a0_0, .int .i64 a0_1, .int .i64 a0_2, .int .i64 a0_3, .int .i64 a0_4, .int .i64 a0_5, .int .i64 a0_6, .int .i64 a0_7, .int .i64 a0_8] 130 (0, 0)) (r1_ BK253.out)) : gb253 ≠ gb254)); have NB254_253 := Aside0.mk ((by rw [hg]; exact Nat.ne_of_gt (blk_lt (g := gb253) (o := .cells #[.string a0_0, .int .i64 a0_1, .int .i64 a0_2, .int .i64 a0_3, .int .i64 a0_4, .int .i64 a0_5, .int .i64 a0_6, .int .i64 a0_7, .int .i64 a0_8] 130 (0, 0)) (r1_ BK253.out)) : gb254 ≠ gb253)); replace BK253 := Aside0.mk (blk_below (g := gb253) (o := .cells #[.string a0_0, .int .i64 a0_1, .int .i64 a0_2, .int .i64 a0_3, .int .i64 a0_4, .int .i64 a0_5, .int .i64 a0_6, .int .i64 a0_7, .int .i64 a0_8] 130 (0, 0)) (r1_ BK253.out) hb); clear hb hbox hg; have hnb29 := NB253_254.out; have hnc29 := NB254_253.out; have hcz30_0 : w28.cell? ⟨gb253, 0, none⟩ = some (.string a0_0) := (blk_cell BK253.out 0).trans rfl; have hcz30_1 : w28.cell? ⟨gb253, 1, none⟩ = some (.int .i64 a0_1) := (blk_cell BK253.out 1).trans rfl; have hcz30_2 : w28.cell? ⟨gb253, 2, none⟩ = some (.int .i64 a0_2) := (blk_cell BK253.out 2).trans rfl; have hcz30_3 : w28.cell? ⟨gb253, 3, none⟩ = some (.int .i64 a0_3) := (blk_cell BK253.out 3).trans rfl; have hcz30_4 : w28.cell? ⟨gb253, 4, none⟩ = some (.int .i64 a0_4) := (blk_cell BK253.out 4).trans rfl; have hcz30_5 : w28.cell? ⟨gb253, 5, none⟩ = some (.int .i64 a0_5) := (blk_cell BK253.out 5).trans rfl; have hcz30_6 : w28.cell? ⟨gb253, 6, none⟩ = some (.int .i64 a0_6) := (blk_cell BK253.out 6).trans rfl; have hcz30_7 : w28.cell? ⟨gb253, 7, none⟩ = some (.int .i64 a0_7) := (blk_cell BK253.out 7).trans rfl; have hcz30_8 : w28.cell? ⟨gb253, 8, none⟩ = some (.int .i64 a0_8) := (blk_cell BK253.out 8).trans rfl; have hfz30_0 := blk_frozen BK253.out 0; have hfz30_1 := blk_frozen BK253.out 1; have hfz30_2 := blk_frozen BK253.out 2; have hfz30_3 := blk_frozen BK253.out 3; have hfz30_4 := blk_frozen BK253.out 4; have hfz30_5 := blk_frozen BK253.out 5; have hfz30_6 := blk_frozen BK253.out 6; have hfz30_7 := blk_frozen BK253.out 7; have hfz30_8 := blk_frozen BK253.out 8; have hcz31_0 : w28.cell? ⟨gb254, 0, none⟩ = some (.string a1_0) := (blk_cell BK254.out 0).trans rfl; have hcz31_1 : w28.cell? ⟨gb254, 1, none⟩ = some (.int .i64 a1_1) := (blk_cell BK254.out 1).trans rfl; have hcz31_2 : w28.cell? ⟨gb254, 2, none⟩ = some (.int .i64 a1_2) := (blk_cell BK254.out 2).trans rfl; have hcz31_3 : w28.cell? ⟨gb254, 3, none⟩ = some (.int .i64 a1_3) := (blk_cell BK254.out 3).trans rfl; have hcz31_4 : w28.cell? ⟨gb254, 4, none⟩ = some (.int .i64 a1_4) := (blk_cell BK254.out 4).trans rfl; have hcz31_5 : w28.cell? ⟨gb254, 5, none⟩ = some (.int .i64 a1_5) := (blk_cell BK254.out 5).trans rfl; have hcz31_6 : w28.cell? ⟨gb254, 6, none⟩ = some (.int .i64 a1_6) := (blk_cell BK254.out 6).trans rfl; have hcz31_7 : w28.cell? ⟨gb254, 7, none⟩ = some (.int .i64 a1_7) := (blk_cell BK254.out 7).trans rfl; have hcz31_8 : w28.cell? ⟨gb254, 8, none⟩ = some (.int .i64 a1_8) := (blk_cell BK254.out 8).trans rfl; have hfz31_0 := blk_frozen BK254.out 0; have hfz31_1 := blk_frozen BK254.out 1; have hfz31_2 := blk_frozen BK254.out 2; have hfz31_3 := blk_frozen BK254.out 3; have hfz31_4 := blk_frozen BK254.out 4; have hfz31_5 := blk_frozen BK254.out 5; have hfz31_6 := blk_frozen BK254.out 6; have hfz31_7 := blk_frozen BK254.out 7; have hfz31_8 := blk_frozen BK254.out 8))
        go_ret
        exact ⟨by first | rfl | (simp [errW_none, errW_some] <;> rfl) | (simp [*, errW_none, errW_some] <;> rfl), r3_ HB.out GE253.out GE254.out⟩
      ·rw [if_neg c8] at H
       have c8b0 : (a0_5 == a1_5) = false := beq_eq_false_iff_ne.mpr c8
       have c8b1 : (a0_5 != a1_5) = true := bne_iff_ne.mpr c8
       obtain rfl := Option.some.inj H
       go_enter Try.func147, Try.ntmps147
       go_wp2_with (first | ((with_reducible refine gate_dst (N := 2) rfl ?_); refine box_event ?hg (N := 2) ?hd (cs := #[.string a0_0, .int .i64 a0_1, .int .i64 a0_2, .int .i64 a0_3, .int .i64 a0_4, .int .i64 a0_5, .int .i64 a0_6, .int .i64 a0_7, .int .i64 a0_8]) (t := 130) ?hr ?_; (case hd => rfl); (case hg => rfl); (case hr => first | (go_simp; done) | (go_simp; rfl)); intro gb253 hg w32 hbox hb; have BK253 := Aside0.mk (hbox); have GW253 := Aside0.mk ((by rw [hg]; exact (below_size (bl_ HB.out)) : w.heap.size ≤ gb253)); have GE253 := Aside0.mk ((by rw [hg]; exact (below_size (bl_ HB.out)) : w.heap.size ≤ gb253)); replace HB := Aside0.mk (below_step (bl_ HB.out) hb); clear hb hbox hg) | ((with_reducible refine gate_dst (N := 3) rfl ?_); refine box_event ?hg (N := 3) ?hd (cs := #[.string a1_0, .int .i64 a1_1, .int .i64 a1_2, .int .i64 a1_3, .int .i64 a1_4, .int .i64 a1_5, .int .i64 a1_6, .int .i64 a1_7, .int .i64 a1_8]) (t := 130) ?hr ?_; (case hd => rfl); (case hg => rfl); (case hr => first | (go_simp; done) | (go_simp; rfl)); intro gb254 hg w33 hbox hb; have BK254 := Aside0.mk (hbox); have GW254 := Aside0.mk ((by rw [hg]; exact (below_size (r0_ HB.out GE253.out)) : w.heap.size ≤ gb254)); have GE254 := Aside0.mk ((by rw [hg]; exact (below_size (r0_ HB.out GE253.out)) : w.heap.size ≤ gb254)); replace HB := Aside0.mk (below_step (r0_ HB.out GE253.out) hb); have NB253_254 := Aside0.mk ((by rw [hg]; exact Nat.ne_of_lt (blk_lt (g := gb253) (o := .cells #[.string a0_0, .int .i64 a0_1, .int .i64 a0_2, .int .i64 a0_3, .int .i64 a0_4, .int .i64 a0_5, .int .i64 a0_6, .int .i64 a0_7, .int .i64 a0_8] 130 (0, 0)) (r1_ BK253.out)) : gb253 ≠ gb254)); have NB254_253 := Aside0.mk ((by rw [hg]; exact Nat.ne_of_gt (blk_lt (g := gb253) (o := .cells #[.string a0_0, .int .i64 a0_1, .int .i64 a0_2, .int .i64 a0_3, .int .i64 a0_4, .int .i64 a0_5, .int .i64 a0_6, .int .i64 a0_7, .int .i64 a0_8] 130 (0, 0)) (r1_ BK253.out)) : gb254 ≠ gb253)); replace BK253 := Aside0.mk (blk_below (g := gb253) (o := .cells #[.string a0_0, .int .i64 a0_1, .int .i64 a0_2, .int .i64 a0_3, .int .i64 a0_4, .int .i64 a0_5, .int .i64 a0_6, .int .i64 a0_7, .int .i64 a0_8] 130 (0, 0)) (r1_ BK253.out) hb); clear hb hbox hg; have hnb34 := NB253_254.out; have hnc34 := NB254_253.out; have hcz35_0 : w33.cell? ⟨gb253, 0, none⟩ = some (.string a0_0) := (blk_cell BK253.out 0).trans rfl; have hcz35_1 : w33.cell? ⟨gb253, 1, none⟩ = some (.int .i64 a0_1) := (blk_cell BK253.out 1).trans rfl; have hcz35_2 : w33.cell? ⟨gb253, 2, none⟩ = some (.int .i64 a0_2) := (blk_cell BK253.out 2).trans rfl; have hcz35_3 : w33.cell? ⟨gb253, 3, none⟩ = some (.int .i64 a0_3) := (blk_cell BK253.out 3).trans rfl; have hcz35_4 : w33.cell? ⟨gb253, 4, none⟩ = some (.int .i64 a0_4) := (blk_cell BK253.out 4).trans rfl; have hcz35_5 : w33.cell? ⟨gb253, 5, none⟩ = some (.int .i64 a0_5) := (blk_cell BK253.out 5).trans rfl; have hcz35_6 : w33.cell? ⟨gb253, 6, none⟩ = some (.int .i64 a0_6) := (blk_cell BK253.out 6).trans rfl; have hcz35_7 : w33.cell? ⟨gb253, 7, none⟩ = some (.int .i64 a0_7) := (blk_cell BK253.out 7).trans rfl; have hcz35_8 : w33.cell? ⟨gb253, 8, none⟩ = some (.int .i64 a0_8) := (blk_cell BK253.out 8).trans rfl; have hfz35_0 := blk_frozen BK253.out 0; have hfz35_1 := blk_frozen BK253.out 1; have hfz35_2 := blk_frozen BK253.out 2; have hfz35_3 := blk_frozen BK253.out 3; have hfz35_4 := blk_frozen BK253.out 4; have hfz35_5 := blk_frozen BK253.out 5; have hfz35_6 := blk_frozen BK253.out 6; have hfz35_7 := blk_frozen BK253.out 7; have hfz35_8 := blk_frozen BK253.out 8; have hcz36_0 : w33.cell? ⟨gb254, 0, none⟩ = some (.string a1_0) := (blk_cell BK254.out 0).trans rfl; have hcz36_1 : w33.cell? ⟨gb254, 1, none⟩ = some (.int .i64 a1_1) := (blk_cell BK254.out 1).trans rfl; have hcz36_2 : w33.cell? ⟨gb254, 2, none⟩ = some (.int .i64 a1_2) := (blk_cell BK254.out 2).trans rfl; have hcz36_3 : w33.cell? ⟨gb254, 3, none⟩ = some (.int .i64 a1_3) := (blk_cell BK254.out 3).trans rfl; have hcz36_4 : w33.cell? ⟨gb254, 4, none⟩ = some (.int .i64 a1_4) := (blk_cell BK254.out 4).trans rfl; have hcz36_5 : w33.cell? ⟨gb254, 5, none⟩ = some (.int .i64 a1_5) := (blk_cell BK254.out 5).trans rfl; have hcz36_6 : w33.cell? ⟨gb254, 6, none⟩ = some (.int .i64 a1_6) := (blk_cell BK254.out 6).trans rfl; have hcz36_7 : w33.cell? ⟨gb254, 7, none⟩ = some (.int .i64 a1_7) := (blk_cell BK254.out 7).trans rfl; have hcz36_8 : w33.cell? ⟨gb254, 8, none⟩ = some (.int .i64 a1_8) := (blk_cell BK254.out 8).trans rfl; have hfz36_0 := blk_frozen BK254.out 0; have hfz36_1 := blk_frozen BK254.out 1; have hfz36_2 := blk_frozen BK254.out 2; have hfz36_3 := blk_frozen BK254.out 3; have hfz36_4 := blk_frozen BK254.out 4; have hfz36_5 := blk_frozen BK254.out 5; have hfz36_6 := blk_frozen BK254.out 6; have hfz36_7 := blk_frozen BK254.out 7; have hfz36_8 := blk_frozen BK254.out 8))
       go_ret
       exact ⟨by first | rfl | (simp [errW_none, errW_some] <;> rfl) | (simp [*, errW_none, errW_some] <;> rfl), r3_ HB.out GE253.out GE254.out⟩
     ·rw [if_neg c7] at H
      have c7b0 : (a0_4 == a1_4) = false := beq_eq_false_iff_ne.mpr c7
      have c7b1 : (a0_4 != a1_4) = true := bne_iff_ne.mpr c7
      obtain rfl := Option.some.inj H
      go_enter Try.func147, Try.ntmps147
      go_wp2_with (first | ((with_reducible refine gate_dst (N := 2) rfl ?_); refine box_event ?hg (N := 2) ?hd (cs := #[.string a0_0, .int .i64 a0_1, .int .i64 a0_2, .int .i64 a0_3, .int .i64 a0_4, .int .i64 a0_5, .int .i64 a0_6, .int .i64 a0_7, .int .i64 a0_8]) (t := 130) ?hr ?_; (case hd => rfl); (case hg => rfl); (case hr => first | (go_simp; done) | (go_simp; rfl)); intro gb253 hg w37 hbox hb; have BK253 := Aside0.mk (hbox); have GW253 := Aside0.mk ((by rw [hg]; exact (below_size (bl_ HB.out)) : w.heap.size ≤ gb253)); have GE253 := Aside0.mk ((by rw [hg]; exact (below_size (bl_ HB.out)) : w.heap.size ≤ gb253)); replace HB := Aside0.mk (below_step (bl_ HB.out) hb); clear hb hbox hg) | ((with_reducible refine gate_dst (N := 3) rfl ?_); refine box_event ?hg (N := 3) ?hd (cs := #[.string a1_0, .int .i64 a1_1, .int .i64 a1_2, .int .i64 a1_3, .int .i64 a1_4, .int .i64 a1_5, .int .i64 a1_6, .int .i64 a1_7, .int .i64 a1_8]) (t := 130) ?hr ?_; (case hd => rfl); (case hg => rfl); (case hr => first | (go_simp; done) | (go_simp; rfl)); intro gb254 hg w38 hbox hb; have BK254 := Aside0.mk (hbox); have GW254 := Aside0.mk ((by rw [hg]; exact (below_size (r0_ HB.out GE253.out)) : w.heap.size ≤ gb254)); have GE254 := Aside0.mk ((by rw [hg]; exact (below_size (r0_ HB.out GE253.out)) : w.heap.size ≤ gb254)); replace HB := Aside0.mk (below_step (r0_ HB.out GE253.out) hb); have NB253_254 := Aside0.mk ((by rw [hg]; exact Nat.ne_of_lt (blk_lt (g := gb253) (o := .cells #[.string a0_0, .int .i64 a0_1, .int .i64 a0_2, .int .i64 a0_3, .int .i64 a0_4, .int .i64 a0_5, .int .i64 a0_6, .int .i64 a0_7, .int .i64 a0_8] 130 (0, 0)) (r1_ BK253.out)) : gb253 ≠ gb254)); have NB254_253 := Aside0.mk ((by rw [hg]; exact Nat.ne_of_gt (blk_lt (g := gb253) (o := .cells #[.string a0_0, .int .i64 a0_1, .int .i64 a0_2, .int .i64 a0_3, .int .i64 a0_4, .int .i64 a0_5, .int .i64 a0_6, .int .i64 a0_7, .int .i64 a0_8] 130 (0, 0)) (r1_ BK253.out)) : gb254 ≠ gb253)); replace BK253 := Aside0.mk (blk_below (g := gb253) (o := .cells #[.string a0_0, .int .i64 a0_1, .int .i64 a0_2, .int .i64 a0_3, .int .i64 a0_4, .int .i64 a0_5, .int .i64 a0_6, .int .i64 a0_7, .int .i64 a0_8] 130 (0, 0)) (r1_ BK253.out) hb); clear hb hbox hg; have hnb39 := NB253_254.out; have hnc39 := NB254_253.out; have hcz40_0 : w38.cell? ⟨gb253, 0, none⟩ = some (.string a0_0) := (blk_cell BK253.out 0).trans rfl; have hcz40_1 : w38.cell? ⟨gb253, 1, none⟩ = some (.int .i64 a0_1) := (blk_cell BK253.out 1).trans rfl; have hcz40_2 : w38.cell? ⟨gb253, 2, none⟩ = some (.int .i64 a0_2) := (blk_cell BK253.out 2).trans rfl; have hcz40_3 : w38.cell? ⟨gb253, 3, none⟩ = some (.int .i64 a0_3) := (blk_cell BK253.out 3).trans rfl; have hcz40_4 : w38.cell? ⟨gb253, 4, none⟩ = some (.int .i64 a0_4) := (blk_cell BK253.out 4).trans rfl; have hcz40_5 : w38.cell? ⟨gb253, 5, none⟩ = some (.int .i64 a0_5) := (blk_cell BK253.out 5).trans rfl; have hcz40_6 : w38.cell? ⟨gb253, 6, none⟩ = some (.int .i64 a0_6) := (blk_cell BK253.out 6).trans rfl; have hcz40_7 : w38.cell? ⟨gb253, 7, none⟩ = some (.int .i64 a0_7) := (blk_cell BK253.out 7).trans rfl; have hcz40_8 : w38.cell? ⟨gb253, 8, none⟩ = some (.int .i64 a0_8) := (blk_cell BK253.out 8).trans rfl; have hfz40_0 := blk_frozen BK253.out 0; have hfz40_1 := blk_frozen BK253.out 1; have hfz40_2 := blk_frozen BK253.out 2; have hfz40_3 := blk_frozen BK253.out 3; have hfz40_4 := blk_frozen BK253.out 4; have hfz40_5 := blk_frozen BK253.out 5; have hfz40_6 := blk_frozen BK253.out 6; have hfz40_7 := blk_frozen BK253.out 7; have hfz40_8 := blk_frozen BK253.out 8; have hcz41_0 : w38.cell? ⟨gb254, 0, none⟩ = some (.string a1_0) := (blk_cell BK254.out 0).trans rfl; have hcz41_1 : w38.cell? ⟨gb254, 1, none⟩ = some (.int .i64 a1_1) := (blk_cell BK254.out 1).trans rfl; have hcz41_2 : w38.cell? ⟨gb254, 2, none⟩ = some (.int .i64 a1_2) := (blk_cell BK254.out 2).trans rfl; have hcz41_3 : w38.cell? ⟨gb254, 3, none⟩ = some (.int .i64 a1_3) := (blk_cell BK254.out 3).trans rfl; have hcz41_4 : w38.cell? ⟨gb254, 4, none⟩ = some (.int .i64 a1_4) := (blk_cell BK254.out 4).trans rfl; have hcz41_5 : w38.cell? ⟨gb254, 5, none⟩ = some (.int .i64 a1_5) := (blk_cell BK254.out 5).trans rfl; have hcz41_6 : w38.cell? ⟨gb254, 6, none⟩ = some (.int .i64 a1_6) := (blk_cell BK254.out 6).trans rfl; have hcz41_7 : w38.cell? ⟨gb254, 7, none⟩ = some (.int .i64 a1_7) := (blk_cell BK254.out 7).trans rfl; have hcz41_8 : w38.cell? ⟨gb254, 8, none⟩ = some (.int .i64 a1_8) := (blk_cell BK254.out 8).trans rfl; have hfz41_0 := blk_frozen BK254.out 0; have hfz41_1 := blk_frozen BK254.out 1; have hfz41_2 := blk_frozen BK254.out 2; have hfz41_3 := blk_frozen BK254.out 3; have hfz41_4 := blk_frozen BK254.out 4; have hfz41_5 := blk_frozen BK254.out 5; have hfz41_6 := blk_frozen BK254.out 6; have hfz41_7 := blk_frozen BK254.out 7; have hfz41_8 := blk_frozen BK254.out 8))
      go_ret
      exact ⟨by first | rfl | (simp [errW_none, errW_some] <;> rfl) | (simp [*, errW_none, errW_some] <;> rfl), r3_ HB.out GE253.out GE254.out⟩
    ·rw [if_neg c6] at H
     have c6b0 : (a0_3 == a1_3) = false := beq_eq_false_iff_ne.mpr c6
     have c6b1 : (a0_3 != a1_3) = true := bne_iff_ne.mpr c6
     obtain rfl := Option.some.inj H
     go_enter Try.func147, Try.ntmps147
     go_wp2_with (first | ((with_reducible refine gate_dst (N := 2) rfl ?_); refine box_event ?hg (N := 2) ?hd (cs := #[.string a0_0, .int .i64 a0_1, .int .i64 a0_2, .int .i64 a0_3, .int .i64 a0_4, .int .i64 a0_5, .int .i64 a0_6, .int .i64 a0_7, .int .i64 a0_8]) (t := 130) ?hr ?_; (case hd => rfl); (case hg => rfl); (case hr => first | (go_simp; done) | (go_simp; rfl)); intro gb253 hg w42 hbox hb; have BK253 := Aside0.mk (hbox); have GW253 := Aside0.mk ((by rw [hg]; exact (below_size (bl_ HB.out)) : w.heap.size ≤ gb253)); have GE253 := Aside0.mk ((by rw [hg]; exact (below_size (bl_ HB.out)) : w.heap.size ≤ gb253)); replace HB := Aside0.mk (below_step (bl_ HB.out) hb); clear hb hbox hg) | ((with_reducible refine gate_dst (N := 3) rfl ?_); refine box_event ?hg (N := 3) ?hd (cs := #[.string a1_0, .int .i64 a1_1, .int .i64 a1_2, .int .i64 a1_3, .int .i64 a1_4, .int .i64 a1_5, .int .i64 a1_6, .int .i64 a1_7, .int .i64 a1_8]) (t := 130) ?hr ?_; (case hd => rfl); (case hg => rfl); (case hr => first | (go_simp; done) | (go_simp; rfl)); intro gb254 hg w43 hbox hb; have BK254 := Aside0.mk (hbox); have GW254 := Aside0.mk ((by rw [hg]; exact (below_size (r0_ HB.out GE253.out)) : w.heap.size ≤ gb254)); have GE254 := Aside0.mk ((by rw [hg]; exact (below_size (r0_ HB.out GE253.out)) : w.heap.size ≤ gb254)); replace HB := Aside0.mk (below_step (r0_ HB.out GE253.out) hb); have NB253_254 := Aside0.mk ((by rw [hg]; exact Nat.ne_of_lt (blk_lt (g := gb253) (o := .cells #[.string a0_0, .int .i64 a0_1, .int .i64 a0_2, .int .i64 a0_3, .int .i64 a0_4, .int .i64 a0_5, .int .i64 a0_6, .int .i64 a0_7, .int .i64 a0_8] 130 (0, 0)) (r1_ BK253.out)) : gb253 ≠ gb254)); have NB254_253 := Aside0.mk ((by rw [hg]; exact Nat.ne_of_gt (blk_lt (g := gb253) (o := .cells #[.string a0_0, .int .i64 a0_1, .int .i64 a0_2, .int .i64 a0_3, .int .i64 a0_4, .int .i64 a0_5, .int .i64 a0_6, .int .i64 a0_7, .int .i64 a0_8] 130 (0, 0)) (r1_ BK253.out)) : gb254 ≠ gb253)); replace BK253 := Aside0.mk (blk_below (g := gb253) (o := .cells #[.string a0_0, .int .i64 a0_1, .int .i64 a0_2, .int .i64 a0_3, .int .i64 a0_4, .int .i64 a0_5, .int .i64 a0_6, .int .i64 a0_7, .int .i64 a0_8] 130 (0, 0)) (r1_ BK253.out) hb); clear hb hbox hg; have hnb44 := NB253_254.out; have hnc44 := NB254_253.out; have hcz45_0 : w43.cell? ⟨gb253, 0, none⟩ = some (.string a0_0) := (blk_cell BK253.out 0).trans rfl; have hcz45_1 : w43.cell? ⟨gb253, 1, none⟩ = some (.int .i64 a0_1) := (blk_cell BK253.out 1).trans rfl; have hcz45_2 : w43.cell? ⟨gb253, 2, none⟩ = some (.int .i64 a0_2) := (blk_cell BK253.out 2).trans rfl; have hcz45_3 : w43.cell? ⟨gb253, 3, none⟩ = some (.int .i64 a0_3) := (blk_cell BK253.out 3).trans rfl; have hcz45_4 : w43.cell? ⟨gb253, 4, none⟩ = some (.int .i64 a0_4) := (blk_cell BK253.out 4).trans rfl; have hcz45_5 : w43.cell? ⟨gb253, 5, none⟩ = some (.int .i64 a0_5) := (blk_cell BK253.out 5).trans rfl; have hcz45_6 : w43.cell? ⟨gb253, 6, none⟩ = some (.int .i64 a0_6) := (blk_cell BK253.out 6).trans rfl; have hcz45_7 : w43.cell? ⟨gb253, 7, none⟩ = some (.int .i64 a0_7) := (blk_cell BK253.out 7).trans rfl; have hcz45_8 : w43.cell? ⟨gb253, 8, none⟩ = some (.int .i64 a0_8) := (blk_cell BK253.out 8).trans rfl; have hfz45_0 := blk_frozen BK253.out 0; have hfz45_1 := blk_frozen BK253.out 1; have hfz45_2 := blk_frozen BK253.out 2; have hfz45_3 := blk_frozen BK253.out 3; have hfz45_4 := blk_frozen BK253.out 4; have hfz45_5 := blk_frozen BK253.out 5; have hfz45_6 := blk_frozen BK253.out 6; have hfz45_7 := blk_frozen BK253.out 7; have hfz45_8 := blk_frozen BK253.out 8; have hcz46_0 : w43.cell? ⟨gb254, 0, none⟩ = some (.string a1_0) := (blk_cell BK254.out 0).trans rfl; have hcz46_1 : w43.cell? ⟨gb254, 1, none⟩ = some (.int .i64 a1_1) := (blk_cell BK254.out 1).trans rfl; have hcz46_2 : w43.cell? ⟨gb254, 2, none⟩ = some (.int .i64 a1_2) := (blk_cell BK254.out 2).trans rfl; have hcz46_3 : w43.cell? ⟨gb254, 3, none⟩ = some (.int .i64 a1_3) := (blk_cell BK254.out 3).trans rfl; have hcz46_4 : w43.cell? ⟨gb254, 4, none⟩ = some (.int .i64 a1_4) := (blk_cell BK254.out 4).trans rfl; have hcz46_5 : w43.cell? ⟨gb254, 5, none⟩ = some (.int .i64 a1_5) := (blk_cell BK254.out 5).trans rfl; have hcz46_6 : w43.cell? ⟨gb254, 6, none⟩ = some (.int .i64 a1_6) := (blk_cell BK254.out 6).trans rfl; have hcz46_7 : w43.cell? ⟨gb254, 7, none⟩ = some (.int .i64 a1_7) := (blk_cell BK254.out 7).trans rfl; have hcz46_8 : w43.cell? ⟨gb254, 8, none⟩ = some (.int .i64 a1_8) := (blk_cell BK254.out 8).trans rfl; have hfz46_0 := blk_frozen BK254.out 0; have hfz46_1 := blk_frozen BK254.out 1; have hfz46_2 := blk_frozen BK254.out 2; have hfz46_3 := blk_frozen BK254.out 3; have hfz46_4 := blk_frozen BK254.out 4; have hfz46_5 := blk_frozen BK254.out 5; have hfz46_6 := blk_frozen BK254.out 6; have hfz46_7 := blk_frozen BK254.out 7; have hfz46_8 := blk_frozen BK254.out 8))
     go_ret
     exact ⟨by first | rfl | (simp [errW_none, errW_some] <;> rfl) | (simp [*, errW_none, errW_some] <;> rfl), r3_ HB.out GE253.out GE254.out⟩
   ·rw [if_neg c5] at H
    have c5b0 : (a0_2 == a1_2) = false := beq_eq_false_iff_ne.mpr c5
    have c5b1 : (a0_2 != a1_2) = true := bne_iff_ne.mpr c5
    obtain rfl := Option.some.inj H
    go_enter Try.func147, Try.ntmps147
    go_wp2_with (first | ((with_reducible refine gate_dst (N := 2) rfl ?_); refine box_event ?hg (N := 2) ?hd (cs := #[.string a0_0, .int .i64 a0_1, .int .i64 a0_2, .int .i64 a0_3, .int .i64 a0_4, .int .i64 a0_5, .int .i64 a0_6, .int .i64 a0_7, .int .i64 a0_8]) (t := 130) ?hr ?_; (case hd => rfl); (case hg => rfl); (case hr => first | (go_simp; done) | (go_simp; rfl)); intro gb253 hg w47 hbox hb; have BK253 := Aside0.mk (hbox); have GW253 := Aside0.mk ((by rw [hg]; exact (below_size (bl_ HB.out)) : w.heap.size ≤ gb253)); have GE253 := Aside0.mk ((by rw [hg]; exact (below_size (bl_ HB.out)) : w.heap.size ≤ gb253)); replace HB := Aside0.mk (below_step (bl_ HB.out) hb); clear hb hbox hg) | ((with_reducible refine gate_dst (N := 3) rfl ?_); refine box_event ?hg (N := 3) ?hd (cs := #[.string a1_0, .int .i64 a1_1, .int .i64 a1_2, .int .i64 a1_3, .int .i64 a1_4, .int .i64 a1_5, .int .i64 a1_6, .int .i64 a1_7, .int .i64 a1_8]) (t := 130) ?hr ?_; (case hd => rfl); (case hg => rfl); (case hr => first | (go_simp; done) | (go_simp; rfl)); intro gb254 hg w48 hbox hb; have BK254 := Aside0.mk (hbox); have GW254 := Aside0.mk ((by rw [hg]; exact (below_size (r0_ HB.out GE253.out)) : w.heap.size ≤ gb254)); have GE254 := Aside0.mk ((by rw [hg]; exact (below_size (r0_ HB.out GE253.out)) : w.heap.size ≤ gb254)); replace HB := Aside0.mk (below_step (r0_ HB.out GE253.out) hb); have NB253_254 := Aside0.mk ((by rw [hg]; exact Nat.ne_of_lt (blk_lt (g := gb253) (o := .cells #[.string a0_0, .int .i64 a0_1, .int .i64 a0_2, .int .i64 a0_3, .int .i64 a0_4, .int .i64 a0_5, .int .i64 a0_6, .int .i64 a0_7, .int .i64 a0_8] 130 (0, 0)) (r1_ BK253.out)) : gb253 ≠ gb254)); have NB254_253 := Aside0.mk ((by rw [hg]; exact Nat.ne_of_gt (blk_lt (g := gb253) (o := .cells #[.string a0_0, .int .i64 a0_1, .int .i64 a0_2, .int .i64 a0_3, .int .i64 a0_4, .int .i64 a0_5, .int .i64 a0_6, .int .i64 a0_7, .int .i64 a0_8] 130 (0, 0)) (r1_ BK253.out)) : gb254 ≠ gb253)); replace BK253 := Aside0.mk (blk_below (g := gb253) (o := .cells #[.string a0_0, .int .i64 a0_1, .int .i64 a0_2, .int .i64 a0_3, .int .i64 a0_4, .int .i64 a0_5, .int .i64 a0_6, .int .i64 a0_7, .int .i64 a0_8] 130 (0, 0)) (r1_ BK253.out) hb); clear hb hbox hg; have hnb49 := NB253_254.out; have hnc49 := NB254_253.out; have hcz50_0 : w48.cell? ⟨gb253, 0, none⟩ = some (.string a0_0) := (blk_cell BK253.out 0).trans rfl; have hcz50_1 : w48.cell? ⟨gb253, 1, none⟩ = some (.int .i64 a0_1) := (blk_cell BK253.out 1).trans rfl; have hcz50_2 : w48.cell? ⟨gb253, 2, none⟩ = some (.int .i64 a0_2) := (blk_cell BK253.out 2).trans rfl; have hcz50_3 : w48.cell? ⟨gb253, 3, none⟩ = some (.int .i64 a0_3) := (blk_cell BK253.out 3).trans rfl; have hcz50_4 : w48.cell? ⟨gb253, 4, none⟩ = some (.int .i64 a0_4) := (blk_cell BK253.out 4).trans rfl; have hcz50_5 : w48.cell? ⟨gb253, 5, none⟩ = some (.int .i64 a0_5) := (blk_cell BK253.out 5).trans rfl; have hcz50_6 : w48.cell? ⟨gb253, 6, none⟩ = some (.int .i64 a0_6) := (blk_cell BK253.out 6).trans rfl; have hcz50_7 : w48.cell? ⟨gb253, 7, none⟩ = some (.int .i64 a0_7) := (blk_cell BK253.out 7).trans rfl; have hcz50_8 : w48.cell? ⟨gb253, 8, none⟩ = some (.int .i64 a0_8) := (blk_cell BK253.out 8).trans rfl; have hfz50_0 := blk_frozen BK253.out 0; have hfz50_1 := blk_frozen BK253.out 1; have hfz50_2 := blk_frozen BK253.out 2; have hfz50_3 := blk_frozen BK253.out 3; have hfz50_4 := blk_frozen BK253.out 4; have hfz50_5 := blk_frozen BK253.out 5; have hfz50_6 := blk_frozen BK253.out 6; have hfz50_7 := blk_frozen BK253.out 7; have hfz50_8 := blk_frozen BK253.out 8; have hcz51_0 : w48.cell? ⟨gb254, 0, none⟩ = some (.string a1_0) := (blk_cell BK254.out 0).trans rfl; have hcz51_1 : w48.cell? ⟨gb254, 1, none⟩ = some (.int .i64 a1_1) := (blk_cell BK254.out 1).trans rfl; have hcz51_2 : w48.cell? ⟨gb254, 2, none⟩ = some (.int .i64 a1_2) := (blk_cell BK254.out 2).trans rfl; have hcz51_3 : w48.cell? ⟨gb254, 3, none⟩ = some (.int .i64 a1_3) := (blk_cell BK254.out 3).trans rfl; have hcz51_4 : w48.cell? ⟨gb254, 4, none⟩ = some (.int .i64 a1_4) := (blk_cell BK254.out 4).trans rfl; have hcz51_5 : w48.cell? ⟨gb254, 5, none⟩ = some (.int .i64 a1_5) := (blk_cell BK254.out 5).trans rfl; have hcz51_6 : w48.cell? ⟨gb254, 6, none⟩ = some (.int .i64 a1_6) := (blk_cell BK254.out 6).trans rfl; have hcz51_7 : w48.cell? ⟨gb254, 7, none⟩ = some (.int .i64 a1_7) := (blk_cell BK254.out 7).trans rfl; have hcz51_8 : w48.cell? ⟨gb254, 8, none⟩ = some (.int .i64 a1_8) := (blk_cell BK254.out 8).trans rfl; have hfz51_0 := blk_frozen BK254.out 0; have hfz51_1 := blk_frozen BK254.out 1; have hfz51_2 := blk_frozen BK254.out 2; have hfz51_3 := blk_frozen BK254.out 3; have hfz51_4 := blk_frozen BK254.out 4; have hfz51_5 := blk_frozen BK254.out 5; have hfz51_6 := blk_frozen BK254.out 6; have hfz51_7 := blk_frozen BK254.out 7; have hfz51_8 := blk_frozen BK254.out 8))
    go_ret
    exact ⟨by first | rfl | (simp [errW_none, errW_some] <;> rfl) | (simp [*, errW_none, errW_some] <;> rfl), r3_ HB.out GE253.out GE254.out⟩
  ·rw [if_neg c4] at H
   have c4b0 : (a0_1 == a1_1) = false := beq_eq_false_iff_ne.mpr c4
   have c4b1 : (a0_1 != a1_1) = true := bne_iff_ne.mpr c4
   obtain rfl := Option.some.inj H
   go_enter Try.func147, Try.ntmps147
   go_wp2_with (first | ((with_reducible refine gate_dst (N := 2) rfl ?_); refine box_event ?hg (N := 2) ?hd (cs := #[.string a0_0, .int .i64 a0_1, .int .i64 a0_2, .int .i64 a0_3, .int .i64 a0_4, .int .i64 a0_5, .int .i64 a0_6, .int .i64 a0_7, .int .i64 a0_8]) (t := 130) ?hr ?_; (case hd => rfl); (case hg => rfl); (case hr => first | (go_simp; done) | (go_simp; rfl)); intro gb253 hg w52 hbox hb; have BK253 := Aside0.mk (hbox); have GW253 := Aside0.mk ((by rw [hg]; exact (below_size (bl_ HB.out)) : w.heap.size ≤ gb253)); have GE253 := Aside0.mk ((by rw [hg]; exact (below_size (bl_ HB.out)) : w.heap.size ≤ gb253)); replace HB := Aside0.mk (below_step (bl_ HB.out) hb); clear hb hbox hg) | ((with_reducible refine gate_dst (N := 3) rfl ?_); refine box_event ?hg (N := 3) ?hd (cs := #[.string a1_0, .int .i64 a1_1, .int .i64 a1_2, .int .i64 a1_3, .int .i64 a1_4, .int .i64 a1_5, .int .i64 a1_6, .int .i64 a1_7, .int .i64 a1_8]) (t := 130) ?hr ?_; (case hd => rfl); (case hg => rfl); (case hr => first | (go_simp; done) | (go_simp; rfl)); intro gb254 hg w53 hbox hb; have BK254 := Aside0.mk (hbox); have GW254 := Aside0.mk ((by rw [hg]; exact (below_size (r0_ HB.out GE253.out)) : w.heap.size ≤ gb254)); have GE254 := Aside0.mk ((by rw [hg]; exact (below_size (r0_ HB.out GE253.out)) : w.heap.size ≤ gb254)); replace HB := Aside0.mk (below_step (r0_ HB.out GE253.out) hb); have NB253_254 := Aside0.mk ((by rw [hg]; exact Nat.ne_of_lt (blk_lt (g := gb253) (o := .cells #[.string a0_0, .int .i64 a0_1, .int .i64 a0_2, .int .i64 a0_3, .int .i64 a0_4, .int .i64 a0_5, .int .i64 a0_6, .int .i64 a0_7, .int .i64 a0_8] 130 (0, 0)) (r1_ BK253.out)) : gb253 ≠ gb254)); have NB254_253 := Aside0.mk ((by rw [hg]; exact Nat.ne_of_gt (blk_lt (g := gb253) (o := .cells #[.string a0_0, .int .i64 a0_1, .int .i64 a0_2, .int .i64 a0_3, .int .i64 a0_4, .int .i64 a0_5, .int .i64 a0_6, .int .i64 a0_7, .int .i64 a0_8] 130 (0, 0)) (r1_ BK253.out)) : gb254 ≠ gb253)); replace BK253 := Aside0.mk (blk_below (g := gb253) (o := .cells #[.string a0_0, .int .i64 a0_1, .int .i64 a0_2, .int .i64 a0_3, .int .i64 a0_4, .int .i64 a0_5, .int .i64 a0_6, .int .i64 a0_7, .int .i64 a0_8] 130 (0, 0)) (r1_ BK253.out) hb); clear hb hbox hg; have hnb54 := NB253_254.out; have hnc54 := NB254_253.out; have hcz55_0 : w53.cell? ⟨gb253, 0, none⟩ = some (.string a0_0) := (blk_cell BK253.out 0).trans rfl; have hcz55_1 : w53.cell? ⟨gb253, 1, none⟩ = some (.int .i64 a0_1) := (blk_cell BK253.out 1).trans rfl; have hcz55_2 : w53.cell? ⟨gb253, 2, none⟩ = some (.int .i64 a0_2) := (blk_cell BK253.out 2).trans rfl; have hcz55_3 : w53.cell? ⟨gb253, 3, none⟩ = some (.int .i64 a0_3) := (blk_cell BK253.out 3).trans rfl; have hcz55_4 : w53.cell? ⟨gb253, 4, none⟩ = some (.int .i64 a0_4) := (blk_cell BK253.out 4).trans rfl; have hcz55_5 : w53.cell? ⟨gb253, 5, none⟩ = some (.int .i64 a0_5) := (blk_cell BK253.out 5).trans rfl; have hcz55_6 : w53.cell? ⟨gb253, 6, none⟩ = some (.int .i64 a0_6) := (blk_cell BK253.out 6).trans rfl; have hcz55_7 : w53.cell? ⟨gb253, 7, none⟩ = some (.int .i64 a0_7) := (blk_cell BK253.out 7).trans rfl; have hcz55_8 : w53.cell? ⟨gb253, 8, none⟩ = some (.int .i64 a0_8) := (blk_cell BK253.out 8).trans rfl; have hfz55_0 := blk_frozen BK253.out 0; have hfz55_1 := blk_frozen BK253.out 1; have hfz55_2 := blk_frozen BK253.out 2; have hfz55_3 := blk_frozen BK253.out 3; have hfz55_4 := blk_frozen BK253.out 4; have hfz55_5 := blk_frozen BK253.out 5; have hfz55_6 := blk_frozen BK253.out 6; have hfz55_7 := blk_frozen BK253.out 7; have hfz55_8 := blk_frozen BK253.out 8; have hcz56_0 : w53.cell? ⟨gb254, 0, none⟩ = some (.string a1_0) := (blk_cell BK254.out 0).trans rfl; have hcz56_1 : w53.cell? ⟨gb254, 1, none⟩ = some (.int .i64 a1_1) := (blk_cell BK254.out 1).trans rfl; have hcz56_2 : w53.cell? ⟨gb254, 2, none⟩ = some (.int .i64 a1_2) := (blk_cell BK254.out 2).trans rfl; have hcz56_3 : w53.cell? ⟨gb254, 3, none⟩ = some (.int .i64 a1_3) := (blk_cell BK254.out 3).trans rfl; have hcz56_4 : w53.cell? ⟨gb254, 4, none⟩ = some (.int .i64 a1_4) := (blk_cell BK254.out 4).trans rfl; have hcz56_5 : w53.cell? ⟨gb254, 5, none⟩ = some (.int .i64 a1_5) := (blk_cell BK254.out 5).trans rfl; have hcz56_6 : w53.cell? ⟨gb254, 6, none⟩ = some (.int .i64 a1_6) := (blk_cell BK254.out 6).trans rfl; have hcz56_7 : w53.cell? ⟨gb254, 7, none⟩ = some (.int .i64 a1_7) := (blk_cell BK254.out 7).trans rfl; have hcz56_8 : w53.cell? ⟨gb254, 8, none⟩ = some (.int .i64 a1_8) := (blk_cell BK254.out 8).trans rfl; have hfz56_0 := blk_frozen BK254.out 0; have hfz56_1 := blk_frozen BK254.out 1; have hfz56_2 := blk_frozen BK254.out 2; have hfz56_3 := blk_frozen BK254.out 3; have hfz56_4 := blk_frozen BK254.out 4; have hfz56_5 := blk_frozen BK254.out 5; have hfz56_6 := blk_frozen BK254.out 6; have hfz56_7 := blk_frozen BK254.out 7; have hfz56_8 := blk_frozen BK254.out 8))
   go_ret
   exact ⟨by first | rfl | (simp [errW_none, errW_some] <;> rfl) | (simp [*, errW_none, errW_some] <;> rfl), r3_ HB.out GE253.out GE254.out⟩
 ·rw [if_neg c3] at H
  have c3b0 : (a0_0.toList == a1_0.toList) = false := beq_eq_false_iff_ne.mpr c3
  have c3b1 : (a0_0.toList != a1_0.toList) = true := bne_iff_ne.mpr c3
  obtain rfl := Option.some.inj H
  go_enter Try.func147, Try.ntmps147
  go_wp2_with (first | ((with_reducible refine gate_dst (N := 2) rfl ?_); refine box_event ?hg (N := 2) ?hd (cs := #[.string a0_0, .int .i64 a0_1, .int .i64 a0_2, .int .i64 a0_3, .int .i64 a0_4, .int .i64 a0_5, .int .i64 a0_6, .int .i64 a0_7, .int .i64 a0_8]) (t := 130) ?hr ?_; (case hd => rfl); (case hg => rfl); (case hr => first | (go_simp; done) | (go_simp; rfl)); intro gb253 hg w57 hbox hb; have BK253 := Aside0.mk (hbox); have GW253 := Aside0.mk ((by rw [hg]; exact (below_size (bl_ HB.out)) : w.heap.size ≤ gb253)); have GE253 := Aside0.mk ((by rw [hg]; exact (below_size (bl_ HB.out)) : w.heap.size ≤ gb253)); replace HB := Aside0.mk (below_step (bl_ HB.out) hb); clear hb hbox hg) | ((with_reducible refine gate_dst (N := 3) rfl ?_); refine box_event ?hg (N := 3) ?hd (cs := #[.string a1_0, .int .i64 a1_1, .int .i64 a1_2, .int .i64 a1_3, .int .i64 a1_4, .int .i64 a1_5, .int .i64 a1_6, .int .i64 a1_7, .int .i64 a1_8]) (t := 130) ?hr ?_; (case hd => rfl); (case hg => rfl); (case hr => first | (go_simp; done) | (go_simp; rfl)); intro gb254 hg w58 hbox hb; have BK254 := Aside0.mk (hbox); have GW254 := Aside0.mk ((by rw [hg]; exact (below_size (r0_ HB.out GE253.out)) : w.heap.size ≤ gb254)); have GE254 := Aside0.mk ((by rw [hg]; exact (below_size (r0_ HB.out GE253.out)) : w.heap.size ≤ gb254)); replace HB := Aside0.mk (below_step (r0_ HB.out GE253.out) hb); have NB253_254 := Aside0.mk ((by rw [hg]; exact Nat.ne_of_lt (blk_lt (g := gb253) (o := .cells #[.string a0_0, .int .i64 a0_1, .int .i64 a0_2, .int .i64 a0_3, .int .i64 a0_4, .int .i64 a0_5, .int .i64 a0_6, .int .i64 a0_7, .int .i64 a0_8] 130 (0, 0)) (r1_ BK253.out)) : gb253 ≠ gb254)); have NB254_253 := Aside0.mk ((by rw [hg]; exact Nat.ne_of_gt (blk_lt (g := gb253) (o := .cells #[.string a0_0, .int .i64 a0_1, .int .i64 a0_2, .int .i64 a0_3, .int .i64 a0_4, .int .i64 a0_5, .int .i64 a0_6, .int .i64 a0_7, .int .i64 a0_8] 130 (0, 0)) (r1_ BK253.out)) : gb254 ≠ gb253)); replace BK253 := Aside0.mk (blk_below (g := gb253) (o := .cells #[.string a0_0, .int .i64 a0_1, .int .i64 a0_2, .int .i64 a0_3, .int .i64 a0_4, .int .i64 a0_5, .int .i64 a0_6, .int .i64 a0_7, .int .i64 a0_8] 130 (0, 0)) (r1_ BK253.out) hb); clear hb hbox hg; have hnb59 := NB253_254.out; have hnc59 := NB254_253.out; have hcz60_0 : w58.cell? ⟨gb253, 0, none⟩ = some (.string a0_0) := (blk_cell BK253.out 0).trans rfl; have hcz60_1 : w58.cell? ⟨gb253, 1, none⟩ = some (.int .i64 a0_1) := (blk_cell BK253.out 1).trans rfl; have hcz60_2 : w58.cell? ⟨gb253, 2, none⟩ = some (.int .i64 a0_2) := (blk_cell BK253.out 2).trans rfl; have hcz60_3 : w58.cell? ⟨gb253, 3, none⟩ = some (.int .i64 a0_3) := (blk_cell BK253.out 3).trans rfl; have hcz60_4 : w58.cell? ⟨gb253, 4, none⟩ = some (.int .i64 a0_4) := (blk_cell BK253.out 4).trans rfl; have hcz60_5 : w58.cell? ⟨gb253, 5, none⟩ = some (.int .i64 a0_5) := (blk_cell BK253.out 5).trans rfl; have hcz60_6 : w58.cell? ⟨gb253, 6, none⟩ = some (.int .i64 a0_6) := (blk_cell BK253.out 6).trans rfl; have hcz60_7 : w58.cell? ⟨gb253, 7, none⟩ = some (.int .i64 a0_7) := (blk_cell BK253.out 7).trans rfl; have hcz60_8 : w58.cell? ⟨gb253, 8, none⟩ = some (.int .i64 a0_8) := (blk_cell BK253.out 8).trans rfl; have hfz60_0 := blk_frozen BK253.out 0; have hfz60_1 := blk_frozen BK253.out 1; have hfz60_2 := blk_frozen BK253.out 2; have hfz60_3 := blk_frozen BK253.out 3; have hfz60_4 := blk_frozen BK253.out 4; have hfz60_5 := blk_frozen BK253.out 5; have hfz60_6 := blk_frozen BK253.out 6; have hfz60_7 := blk_frozen BK253.out 7; have hfz60_8 := blk_frozen BK253.out 8; have hcz61_0 : w58.cell? ⟨gb254, 0, none⟩ = some (.string a1_0) := (blk_cell BK254.out 0).trans rfl; have hcz61_1 : w58.cell? ⟨gb254, 1, none⟩ = some (.int .i64 a1_1) := (blk_cell BK254.out 1).trans rfl; have hcz61_2 : w58.cell? ⟨gb254, 2, none⟩ = some (.int .i64 a1_2) := (blk_cell BK254.out 2).trans rfl; have hcz61_3 : w58.cell? ⟨gb254, 3, none⟩ = some (.int .i64 a1_3) := (blk_cell BK254.out 3).trans rfl; have hcz61_4 : w58.cell? ⟨gb254, 4, none⟩ = some (.int .i64 a1_4) := (blk_cell BK254.out 4).trans rfl; have hcz61_5 : w58.cell? ⟨gb254, 5, none⟩ = some (.int .i64 a1_5) := (blk_cell BK254.out 5).trans rfl; have hcz61_6 : w58.cell? ⟨gb254, 6, none⟩ = some (.int .i64 a1_6) := (blk_cell BK254.out 6).trans rfl; have hcz61_7 : w58.cell? ⟨gb254, 7, none⟩ = some (.int .i64 a1_7) := (blk_cell BK254.out 7).trans rfl; have hcz61_8 : w58.cell? ⟨gb254, 8, none⟩ = some (.int .i64 a1_8) := (blk_cell BK254.out 8).trans rfl; have hfz61_0 := blk_frozen BK254.out 0; have hfz61_1 := blk_frozen BK254.out 1; have hfz61_2 := blk_frozen BK254.out 2; have hfz61_3 := blk_frozen BK254.out 3; have hfz61_4 := blk_frozen BK254.out 4; have hfz61_5 := blk_frozen BK254.out 5; have hfz61_6 := blk_frozen BK254.out 6; have hfz61_7 := blk_frozen BK254.out 7; have hfz61_8 := blk_frozen BK254.out 8))
  go_ret
  exact ⟨by first | rfl | (simp [errW_none, errW_some] <;> rfl) | (simp [*, errW_none, errW_some] <;> rfl), r3_ HB.out GE253.out GE254.out⟩
def laws_eqArticleS.l0 : Nat → List (S130) → List (S130) → Int → Option (Bool)
 | 0, _, _, _ => none
 | k + 1, x0, x1, x5 => if x5 < (x0.length : Int) then (if 0 ≤ x5 then (if x5 < (x1.length : Int) then ((laws_eqArticle.f ((rd_T130 x0 x5).f0) ((rd_T130 x0 x5).f1) ((rd_T130 x0 x5).f2) ((rd_T130 x0 x5).f3) ((rd_T130 x0 x5).f4) ((rd_T130 x0 x5).f5) ((rd_T130 x0 x5).f6) ((rd_T130 x0 x5).f7) ((rd_T130 x0 x5).f8) ((rd_T130 x1 x5).f0) ((rd_T130 x1 x5).f1) ((rd_T130 x1 x5).f2) ((rd_T130 x1 x5).f3) ((rd_T130 x1 x5).f4) ((rd_T130 x1 x5).f5) ((rd_T130 x1 x5).f6) ((rd_T130 x1 x5).f7) ((rd_T130 x1 x5).f8)).bind fun t257 => (if t257 = true then (laws_eqArticleS.l0 k x0 x1 (wrap64 (x5 + 1))) else (some false))) else (none)) else (none)) else (some true)
def laws_eqArticleS.f (k : Nat) (l0 : List (S130)) (l1 : List (S130)) : Option (Bool) := if (l0.length : Int) = (l1.length : Int) then (laws_eqArticleS.l0 k l0 l1 0) else (some false)
def laws_eqArticleS.T6 : Bool × List (List Nat × List Nat) := (true, [([], []), ([], []), ([0, 1], [0, 1]), ([2], [2]), ([], []), ([], []), ([4, 5], [4, 5]), ([6], [6]), ([3, 7], [3, 7]), ([8], [8])])
def laws_eqArticleS.B6 : List Nat := [0, 0, 3, 7, 0, 0, 48, 112, 255, 511]
theorem laws_eqArticleS.tab6 : rtab .any (opsOf Try.f110 6) = laws_eqArticleS.T6 := by kernel_rfl
theorem laws_eqArticleS.bits6 : waitsOk laws_eqArticleS.T6.2 laws_eqArticleS.B6 = true := by kernel_rfl
set_option maxHeartbeats 8000000 in
set_option maxRecDepth 100000 in
theorem laws_eqArticleS.calls (k : Nat) (A0 : Option Addr) (c0 : Nat) (l0 : List (S130)) (A1 : Option Addr) (c1 : Nat) (l1 : List (S130)) (r : Bool) (w : World) (hr0 : Kd.C k130 w A0 l0.length l0) (hc0 : l0.length ≤ c0) (hr1 : Kd.C k130 w A1 l1.length l1) (hc1 : l1.length ≤ c1) (h : laws_eqArticleS.f k l0 l1 = some r) :
  Calls Try.prog 110 #[.slice A0 l0.length c0, .slice A1 l1.length c1] w fun e w' => e = .returned (.bool r) ∧ Below w.heap.size w w' := by
 have hu130 := Try.underlying130
 have HR0 := Aside0.mk hr0
 have HC0 := Aside0.mk hc0
 clear hr0 hc0
 have HR1 := Aside0.mk hr1
 have HC1 := Aside0.mk hc1
 clear hr1 hc1
 have HB := Aside0.mk (Below.refl w.heap.size w)
 have H : (if (l0.length : Int) = (l1.length : Int) then (laws_eqArticleS.l0 k l0 l1 0) else (some false)) = some r := h
 clear h
 by_cases c3 : (l0.length : Int) = (l1.length : Int)
 ·rw [if_pos c3] at H
  have c3b0 : ((l0.length : Int) == (l1.length : Int)) = true := beq_iff_eq.mpr c3
  have c3b1 : ((l0.length : Int) != (l1.length : Int)) = false := bne_eq_false_iff_eq.mpr c3
  have c3b2 : (l0.length == l1.length) = true := by first | simpa using c3 | (simp at c3 ⊢; omega)
  clear c3
  have H' := Aside0.mk H
  clear H
  go_enter Try.func110, Try.ntmps110
  go_wp2
  go_loopg [5] k (fun kq v5 w' => ∃ (x5_1 : Int), v5 = .int .i64 x5_1 ∧ Aside0 (laws_eqArticleS.l0 kq l0 l1 x5_1 = some r) ∧ Aside0 (kq ≤ k) ∧ Aside0 (Below w.heap.size w w'))
  case atStart => exact ⟨(0), (by first | rfl | (simp; done) | (simp [*]; done)), H', ⟨Nat.le_refl _⟩, ⟨bl_ HB.out⟩⟩
  case round =>
   clear H'
   try clear c1
   try clear p2
   try clear c3
   try clear c3b0
   try clear c3b1
   try clear c3b2
   obtain ⟨x5_1, rfl, HA, HK1, HB⟩ := hrel
   cases gk with
   | zero => exact absurd HA.out (by simp [laws_eqArticleS.l0])
   | succ k1 =>
    have H := HA.out
    clear HA
    simp only [laws_eqArticleS.l0] at H
    by_cases c4 : x5_1 < (l0.length : Int)
    ·rw [if_pos c4] at H
     have c4b0 : decide (x5_1 < (l0.length : Int)) = true := decide_eq_true c4
     clear c4
     by_cases c5 : 0 ≤ x5_1
     case neg =>
      rw [if_neg c5] at H
      exact absurd H (by simp)
     rw [if_pos c5] at H
     have c5b0 : decide (0 ≤ x5_1) = true := decide_eq_true c5
     clear c5
     by_cases c6 : x5_1 < (l1.length : Int)
     case neg =>
      rw [if_neg c6] at H
      exact absurd H (by simp)
     rw [if_pos c6] at H
     have c6b0 : decide (x5_1 < (l1.length : Int)) = true := decide_eq_true c6
     clear c6
     replace H := Option.bind_eq_some_iff.mp H
     obtain ⟨t257, A70, H⟩ := H
     replace H : (if t257 = true then (laws_eqArticleS.l0 k1 l0 l1 (wrap64 (x5_1 + 1))) else (some false)) = some r := H
     have A7 := Aside0.mk A70
     clear A70
     by_cases c8 : t257 = true
     ·subst c8
      replace H : (laws_eqArticleS.l0 k1 l0 l1 (wrap64 (x5_1 + 1))) = some r := by rw [if_pos rfl] at H; exact H
      have H' := Aside0.mk H
      clear H
      try go_wp2
      replace HB := Aside0.mk (below_drew1 HB.out)
      have p255 : 0 ≤ (x5_1 : Int) := od_
      have q255 : x5_1 < (l0.length : Int) := od_
      obtain ⟨ad255, e255, hx255_0, hx255_1, hx255_2, hx255_3, hx255_4, hx255_5, hx255_6, hx255_7, hx255_8⟩ := at_T130 HR0.out x5_1 p255 q255
      have hw255_8 := hx255_8
      have hw255_7 := hx255_7
      have hw255_6 := hx255_6
      have hw255_5 := hx255_5
      have hw255_4 := hx255_4
      have hw255_3 := hx255_3
      have hw255_2 := hx255_2
      have hw255_1 := hx255_1
      have hw255_0 := hx255_0
      cases e255
      replace hx255_0 := bc_ HB.out hx255_0
      replace hx255_1 := bc_ HB.out hx255_1
      replace hx255_2 := bc_ HB.out hx255_2
      replace hx255_3 := bc_ HB.out hx255_3
      replace hx255_4 := bc_ HB.out hx255_4
      replace hx255_5 := bc_ HB.out hx255_5
      replace hx255_6 := bc_ HB.out hx255_6
      replace hx255_7 := bc_ HB.out hx255_7
      replace hx255_8 := bc_ HB.out hx255_8
      replace p255 := eq_true p255
      replace q255 := eq_true q255
      have p256 : 0 ≤ (x5_1 : Int) := od_
      have q256 : x5_1 < (l1.length : Int) := od_
      obtain ⟨ad256, e256, hx256_0, hx256_1, hx256_2, hx256_3, hx256_4, hx256_5, hx256_6, hx256_7, hx256_8⟩ := at_T130 HR1.out x5_1 p256 q256
      have hw256_8 := hx256_8
      have hw256_7 := hx256_7
      have hw256_6 := hx256_6
      have hw256_5 := hx256_5
      have hw256_4 := hx256_4
      have hw256_3 := hx256_3
      have hw256_2 := hx256_2
      have hw256_1 := hx256_1
      have hw256_0 := hx256_0
      cases e256
      replace hx256_0 := bc_ HB.out hx256_0
      replace hx256_1 := bc_ HB.out hx256_1
      replace hx256_2 := bc_ HB.out hx256_2
      replace hx256_3 := bc_ HB.out hx256_3
      replace hx256_4 := bc_ HB.out hx256_4
      replace hx256_5 := bc_ HB.out hx256_5
      replace hx256_6 := bc_ HB.out hx256_6
      replace hx256_7 := bc_ HB.out hx256_7
      replace hx256_8 := bc_ HB.out hx256_8
      replace p256 := eq_true p256
      replace q256 := eq_true q256
      refine start_ (n := 10) (S := fun w' => w'.cell? (ad255.add ((x5_1).toNat * 9)) = some (.string ((rd_T130 l0 x5_1).f0)) ∧ w'.cell? ⟨(ad255.add ((x5_1).toNat * 9)).block, (ad255.add ((x5_1).toNat * 9)).off + 1, none⟩ = some (.int .i64 ((rd_T130 l0 x5_1).f1)) ∧ w'.cell? ⟨(ad255.add ((x5_1).toNat * 9)).block, (ad255.add ((x5_1).toNat * 9)).off + 2, none⟩ = some (.int .i64 ((rd_T130 l0 x5_1).f2)) ∧ w'.cell? ⟨(ad255.add ((x5_1).toNat * 9)).block, (ad255.add ((x5_1).toNat * 9)).off + 3, none⟩ = some (.int .i64 ((rd_T130 l0 x5_1).f3)) ∧ w'.cell? ⟨(ad255.add ((x5_1).toNat * 9)).block, (ad255.add ((x5_1).toNat * 9)).off + 4, none⟩ = some (.int .i64 ((rd_T130 l0 x5_1).f4)) ∧ w'.cell? ⟨(ad255.add ((x5_1).toNat * 9)).block, (ad255.add ((x5_1).toNat * 9)).off + 5, none⟩ = some (.int .i64 ((rd_T130 l0 x5_1).f5)) ∧ w'.cell? ⟨(ad255.add ((x5_1).toNat * 9)).block, (ad255.add ((x5_1).toNat * 9)).off + 6, none⟩ = some (.int .i64 ((rd_T130 l0 x5_1).f6)) ∧ w'.cell? ⟨(ad255.add ((x5_1).toNat * 9)).block, (ad255.add ((x5_1).toNat * 9)).off + 7, none⟩ = some (.int .i64 ((rd_T130 l0 x5_1).f7)) ∧ w'.cell? ⟨(ad255.add ((x5_1).toNat * 9)).block, (ad255.add ((x5_1).toNat * 9)).off + 8, none⟩ = some (.int .i64 ((rd_T130 l0 x5_1).f8)) ∧ w'.cell? (ad256.add ((x5_1).toNat * 9)) = some (.string ((rd_T130 l1 x5_1).f0)) ∧ w'.cell? ⟨(ad256.add ((x5_1).toNat * 9)).block, (ad256.add ((x5_1).toNat * 9)).off + 1, none⟩ = some (.int .i64 ((rd_T130 l1 x5_1).f1)) ∧ w'.cell? ⟨(ad256.add ((x5_1).toNat * 9)).block, (ad256.add ((x5_1).toNat * 9)).off + 2, none⟩ = some (.int .i64 ((rd_T130 l1 x5_1).f2)) ∧ w'.cell? ⟨(ad256.add ((x5_1).toNat * 9)).block, (ad256.add ((x5_1).toNat * 9)).off + 3, none⟩ = some (.int .i64 ((rd_T130 l1 x5_1).f3)) ∧ w'.cell? ⟨(ad256.add ((x5_1).toNat * 9)).block, (ad256.add ((x5_1).toNat * 9)).off + 4, none⟩ = some (.int .i64 ((rd_T130 l1 x5_1).f4)) ∧ w'.cell? ⟨(ad256.add ((x5_1).toNat * 9)).block, (ad256.add ((x5_1).toNat * 9)).off + 5, none⟩ = some (.int .i64 ((rd_T130 l1 x5_1).f5)) ∧ w'.cell? ⟨(ad256.add ((x5_1).toNat * 9)).block, (ad256.add ((x5_1).toNat * 9)).off + 6, none⟩ = some (.int .i64 ((rd_T130 l1 x5_1).f6)) ∧ w'.cell? ⟨(ad256.add ((x5_1).toNat * 9)).block, (ad256.add ((x5_1).toNat * 9)).off + 7, none⟩ = some (.int .i64 ((rd_T130 l1 x5_1).f7)) ∧ w'.cell? ⟨(ad256.add ((x5_1).toNat * 9)).block, (ad256.add ((x5_1).toNat * 9)).off + 8, none⟩ = some (.int .i64 ((rd_T130 l1 x5_1).f8))) (ds := []) #[f_,f_,f_,f_,f_,f_,f_,f_,f_,f_] (by kernel_rfl) rfl rfl ⟨(bc_ HB.out hw255_0 :), (bc_ HB.out hw255_1 :), (bc_ HB.out hw255_2 :), (bc_ HB.out hw255_3 :), (bc_ HB.out hw255_4 :), (bc_ HB.out hw255_5 :), (bc_ HB.out hw255_6 :), (bc_ HB.out hw255_7 :), (bc_ HB.out hw255_8 :), (bc_ HB.out hw256_0 :), (bc_ HB.out hw256_1 :), (bc_ HB.out hw256_2 :), (bc_ HB.out hw256_3 :), (bc_ HB.out hw256_4 :), (bc_ HB.out hw256_5 :), (bc_ HB.out hw256_6 :), (bc_ HB.out hw256_7 :), (bc_ HB.out hw256_8 :)⟩ (fun hHeld => ?_); refine with_tabW laws_eqArticleS.tab6 laws_eqArticleS.bits6 (fun HT_ HW_ => ?_)
      generalize wr.drew = w9 at HB hx255_0 hx255_1 hx255_2 hx255_3 hx255_4 hx255_5 hx255_6 hx255_7 hx255_8 hx256_0 hx256_1 hx256_2 hx256_3 hx256_4 hx256_5 hx256_6 hx256_7 hx256_8 hHeld ⊢
      refine pu_ 0 17 #[t_,f_,f_,f_,f_,f_,f_,f_,f_,f_] HT_.out ?_
      refine pu_ 1 18 #[t_,t_,f_,f_,f_,f_,f_,f_,f_,f_] HT_.out ?_
      refine pu_ 2 19 #[t_,t_,t_,f_,f_,f_,f_,f_,f_,f_] HT_.out ?_
      refine pu_ 4 21 #[t_,t_,t_,f_,t_,f_,f_,f_,f_,f_] HT_.out ?_
      refine pu_ 5 22 #[t_,t_,t_,f_,t_,t_,f_,f_,f_,f_] HT_.out ?_
      refine pu_ 6 23 #[t_,t_,t_,f_,t_,t_,t_,f_,f_,f_] HT_.out ?_
      refine take_ (i := 3) (N := some 20) (v := ?_) (a' := ?_) #[t_,t_,t_,t_,t_,t_,t_,f_,f_,f_] rfl rfl (take_ofW HT_.out HW_.out (by kernel_rfl)) (fun _ _ _ h => h) (Or.inl ⟨by rfl, ?_⟩) hHeld ?_ ?_
      rotate_left
      ·rintro w' ⟨s0, s1, s2, s3, s4, s5, s6, s7, s8, s9, s10, s11, s12, s13, s14, s15, s16, s17⟩
       go_simp
       with_reducible rfl
      rotate_left
      ·simp only [pz_]
       rfl
      refine take_ (i := 7) (N := some 24) (v := ?_) (a' := ?_) #[t_,t_,t_,t_,t_,t_,t_,t_,f_,f_] rfl rfl (take_ofW HT_.out HW_.out (by kernel_rfl)) (fun _ _ _ h => h) (Or.inl ⟨by rfl, ?_⟩) hHeld ?_ ?_
      rotate_left
      ·rintro w' ⟨s0, s1, s2, s3, s4, s5, s6, s7, s8, s9, s10, s11, s12, s13, s14, s15, s16, s17⟩
       go_simp
       with_reducible rfl
      rotate_left
      ·simp only [pz_]
       rfl
      refine one_ (i := 8) (N := some 25) #[t_,t_,t_,t_,t_,t_,t_,t_,t_,f_] rfl rfl (one_of HT_.out (by kernel_rfl)) (by decide) (fun K hK => ?_)
      refine goes_ Try.func147 (by kernel_rfl) rfl #[.agg #[.string ((rd_T130 l0 x5_1).f0), .int .i64 ((rd_T130 l0 x5_1).f1), .int .i64 ((rd_T130 l0 x5_1).f2), .int .i64 ((rd_T130 l0 x5_1).f3), .int .i64 ((rd_T130 l0 x5_1).f4), .int .i64 ((rd_T130 l0 x5_1).f5), .int .i64 ((rd_T130 l0 x5_1).f6), .int .i64 ((rd_T130 l0 x5_1).f7), .int .i64 ((rd_T130 l0 x5_1).f8)], .agg #[.string ((rd_T130 l1 x5_1).f0), .int .i64 ((rd_T130 l1 x5_1).f1), .int .i64 ((rd_T130 l1 x5_1).f2), .int .i64 ((rd_T130 l1 x5_1).f3), .int .i64 ((rd_T130 l1 x5_1).f4), .int .i64 ((rd_T130 l1 x5_1).f5), .int .i64 ((rd_T130 l1 x5_1).f6), .int .i64 ((rd_T130 l1 x5_1).f7), .int .i64 ((rd_T130 l1 x5_1).f8)]] (by rfl) rfl rfl ag_ ?_
      with_reducible refine (laws_eqArticle.calls ((rd_T130 l0 x5_1).f0) ((rd_T130 l0 x5_1).f1) ((rd_T130 l0 x5_1).f2) ((rd_T130 l0 x5_1).f3) ((rd_T130 l0 x5_1).f4) ((rd_T130 l0 x5_1).f5) ((rd_T130 l0 x5_1).f6) ((rd_T130 l0 x5_1).f7) ((rd_T130 l0 x5_1).f8) ((rd_T130 l1 x5_1).f0) ((rd_T130 l1 x5_1).f1) ((rd_T130 l1 x5_1).f2) ((rd_T130 l1 x5_1).f3) ((rd_T130 l1 x5_1).f4) ((rd_T130 l1 x5_1).f5) ((rd_T130 l1 x5_1).f6) ((rd_T130 l1 x5_1).f7) ((rd_T130 l1 x5_1).f8) true _ A7.out).mono ?_
      rintro e w10 ⟨rfl, hb⟩
      refine ⟨_, rfl, ?_⟩
      replace HB := Aside0.mk (below_step (bl_ HB.out) hb)
      (try clear hb)
      (try clear hb2)
      (try clear hk)
      (try clear hi)
      refine hK.out _ _ ⟨(bc_ HB.out hw255_0 :), (bc_ HB.out hw255_1 :), (bc_ HB.out hw255_2 :), (bc_ HB.out hw255_3 :), (bc_ HB.out hw255_4 :), (bc_ HB.out hw255_5 :), (bc_ HB.out hw255_6 :), (bc_ HB.out hw255_7 :), (bc_ HB.out hw255_8 :), (bc_ HB.out hw256_0 :), (bc_ HB.out hw256_1 :), (bc_ HB.out hw256_2 :), (bc_ HB.out hw256_3 :), (bc_ HB.out hw256_4 :), (bc_ HB.out hw256_5 :), (bc_ HB.out hw256_6 :), (bc_ HB.out hw256_7 :), (bc_ HB.out hw256_8 :)⟩ (fun hHeld => ?_)
      clear hK K
      refine norm_ (a' := ?_) ?_ ?_
      rotate_left
      ·show Act.put _ (some 25) _ = _
       simp only [pz_]
       rfl
      refine pu_ 9 26 #[t_,t_,t_,t_,t_,t_,t_,t_,t_,t_] HT_.out ?_
      refine done_ (done_of HT_.out (by kernel_rfl)) ?_
      try go_wp2
      go_roundg k1
      case measure => have := HK1.out; omega
      case rel => exact ⟨(wrap64 (x5_1 + 1)), (by first | rfl | (simp; done) | (simp [*]; done)), H', ⟨by have := HK1.out; omega⟩, ⟨bl_ HB.out⟩⟩
     ·replace c8 := Bool.eq_false_iff.mpr c8
      subst c8
      replace H : (some false) = some r := by rw [if_neg (show ¬ (false = true) by decide)] at H; exact H
      obtain rfl := Option.some.inj H
      try go_wp2
      replace HB := Aside0.mk (below_drew1 HB.out)
      have p255 : 0 ≤ (x5_1 : Int) := od_
      have q255 : x5_1 < (l0.length : Int) := od_
      obtain ⟨ad255, e255, hx255_0, hx255_1, hx255_2, hx255_3, hx255_4, hx255_5, hx255_6, hx255_7, hx255_8⟩ := at_T130 HR0.out x5_1 p255 q255
      have hw255_8 := hx255_8
      have hw255_7 := hx255_7
      have hw255_6 := hx255_6
      have hw255_5 := hx255_5
      have hw255_4 := hx255_4
      have hw255_3 := hx255_3
      have hw255_2 := hx255_2
      have hw255_1 := hx255_1
      have hw255_0 := hx255_0
      cases e255
      replace hx255_0 := bc_ HB.out hx255_0
      replace hx255_1 := bc_ HB.out hx255_1
      replace hx255_2 := bc_ HB.out hx255_2
      replace hx255_3 := bc_ HB.out hx255_3
      replace hx255_4 := bc_ HB.out hx255_4
      replace hx255_5 := bc_ HB.out hx255_5
      replace hx255_6 := bc_ HB.out hx255_6
      replace hx255_7 := bc_ HB.out hx255_7
      replace hx255_8 := bc_ HB.out hx255_8
      replace p255 := eq_true p255
      replace q255 := eq_true q255
      have p256 : 0 ≤ (x5_1 : Int) := od_
      have q256 : x5_1 < (l1.length : Int) := od_
      obtain ⟨ad256, e256, hx256_0, hx256_1, hx256_2, hx256_3, hx256_4, hx256_5, hx256_6, hx256_7, hx256_8⟩ := at_T130 HR1.out x5_1 p256 q256
      have hw256_8 := hx256_8
      have hw256_7 := hx256_7
      have hw256_6 := hx256_6
      have hw256_5 := hx256_5
      have hw256_4 := hx256_4
      have hw256_3 := hx256_3
      have hw256_2 := hx256_2
      have hw256_1 := hx256_1
      have hw256_0 := hx256_0
      cases e256
      replace hx256_0 := bc_ HB.out hx256_0
      replace hx256_1 := bc_ HB.out hx256_1
      replace hx256_2 := bc_ HB.out hx256_2
      replace hx256_3 := bc_ HB.out hx256_3
      replace hx256_4 := bc_ HB.out hx256_4
      replace hx256_5 := bc_ HB.out hx256_5
      replace hx256_6 := bc_ HB.out hx256_6
      replace hx256_7 := bc_ HB.out hx256_7
      replace hx256_8 := bc_ HB.out hx256_8
      replace p256 := eq_true p256
      replace q256 := eq_true q256
      refine start_ (n := 10) (S := fun w' => w'.cell? (ad255.add ((x5_1).toNat * 9)) = some (.string ((rd_T130 l0 x5_1).f0)) ∧ w'.cell? ⟨(ad255.add ((x5_1).toNat * 9)).block, (ad255.add ((x5_1).toNat * 9)).off + 1, none⟩ = some (.int .i64 ((rd_T130 l0 x5_1).f1)) ∧ w'.cell? ⟨(ad255.add ((x5_1).toNat * 9)).block, (ad255.add ((x5_1).toNat * 9)).off + 2, none⟩ = some (.int .i64 ((rd_T130 l0 x5_1).f2)) ∧ w'.cell? ⟨(ad255.add ((x5_1).toNat * 9)).block, (ad255.add ((x5_1).toNat * 9)).off + 3, none⟩ = some (.int .i64 ((rd_T130 l0 x5_1).f3)) ∧ w'.cell? ⟨(ad255.add ((x5_1).toNat * 9)).block, (ad255.add ((x5_1).toNat * 9)).off + 4, none⟩ = some (.int .i64 ((rd_T130 l0 x5_1).f4)) ∧ w'.cell? ⟨(ad255.add ((x5_1).toNat * 9)).block, (ad255.add ((x5_1).toNat * 9)).off + 5, none⟩ = some (.int .i64 ((rd_T130 l0 x5_1).f5)) ∧ w'.cell? ⟨(ad255.add ((x5_1).toNat * 9)).block, (ad255.add ((x5_1).toNat * 9)).off + 6, none⟩ = some (.int .i64 ((rd_T130 l0 x5_1).f6)) ∧ w'.cell? ⟨(ad255.add ((x5_1).toNat * 9)).block, (ad255.add ((x5_1).toNat * 9)).off + 7, none⟩ = some (.int .i64 ((rd_T130 l0 x5_1).f7)) ∧ w'.cell? ⟨(ad255.add ((x5_1).toNat * 9)).block, (ad255.add ((x5_1).toNat * 9)).off + 8, none⟩ = some (.int .i64 ((rd_T130 l0 x5_1).f8)) ∧ w'.cell? (ad256.add ((x5_1).toNat * 9)) = some (.string ((rd_T130 l1 x5_1).f0)) ∧ w'.cell? ⟨(ad256.add ((x5_1).toNat * 9)).block, (ad256.add ((x5_1).toNat * 9)).off + 1, none⟩ = some (.int .i64 ((rd_T130 l1 x5_1).f1)) ∧ w'.cell? ⟨(ad256.add ((x5_1).toNat * 9)).block, (ad256.add ((x5_1).toNat * 9)).off + 2, none⟩ = some (.int .i64 ((rd_T130 l1 x5_1).f2)) ∧ w'.cell? ⟨(ad256.add ((x5_1).toNat * 9)).block, (ad256.add ((x5_1).toNat * 9)).off + 3, none⟩ = some (.int .i64 ((rd_T130 l1 x5_1).f3)) ∧ w'.cell? ⟨(ad256.add ((x5_1).toNat * 9)).block, (ad256.add ((x5_1).toNat * 9)).off + 4, none⟩ = some (.int .i64 ((rd_T130 l1 x5_1).f4)) ∧ w'.cell? ⟨(ad256.add ((x5_1).toNat * 9)).block, (ad256.add ((x5_1).toNat * 9)).off + 5, none⟩ = some (.int .i64 ((rd_T130 l1 x5_1).f5)) ∧ w'.cell? ⟨(ad256.add ((x5_1).toNat * 9)).block, (ad256.add ((x5_1).toNat * 9)).off + 6, none⟩ = some (.int .i64 ((rd_T130 l1 x5_1).f6)) ∧ w'.cell? ⟨(ad256.add ((x5_1).toNat * 9)).block, (ad256.add ((x5_1).toNat * 9)).off + 7, none⟩ = some (.int .i64 ((rd_T130 l1 x5_1).f7)) ∧ w'.cell? ⟨(ad256.add ((x5_1).toNat * 9)).block, (ad256.add ((x5_1).toNat * 9)).off + 8, none⟩ = some (.int .i64 ((rd_T130 l1 x5_1).f8))) (ds := []) #[f_,f_,f_,f_,f_,f_,f_,f_,f_,f_] (by kernel_rfl) rfl rfl ⟨(bc_ HB.out hw255_0 :), (bc_ HB.out hw255_1 :), (bc_ HB.out hw255_2 :), (bc_ HB.out hw255_3 :), (bc_ HB.out hw255_4 :), (bc_ HB.out hw255_5 :), (bc_ HB.out hw255_6 :), (bc_ HB.out hw255_7 :), (bc_ HB.out hw255_8 :), (bc_ HB.out hw256_0 :), (bc_ HB.out hw256_1 :), (bc_ HB.out hw256_2 :), (bc_ HB.out hw256_3 :), (bc_ HB.out hw256_4 :), (bc_ HB.out hw256_5 :), (bc_ HB.out hw256_6 :), (bc_ HB.out hw256_7 :), (bc_ HB.out hw256_8 :)⟩ (fun hHeld => ?_); refine with_tabW laws_eqArticleS.tab6 laws_eqArticleS.bits6 (fun HT_ HW_ => ?_)
      generalize wr.drew = w11 at HB hx255_0 hx255_1 hx255_2 hx255_3 hx255_4 hx255_5 hx255_6 hx255_7 hx255_8 hx256_0 hx256_1 hx256_2 hx256_3 hx256_4 hx256_5 hx256_6 hx256_7 hx256_8 hHeld ⊢
      refine pu_ 0 17 #[t_,f_,f_,f_,f_,f_,f_,f_,f_,f_] HT_.out ?_
      refine pu_ 1 18 #[t_,t_,f_,f_,f_,f_,f_,f_,f_,f_] HT_.out ?_
      refine pu_ 2 19 #[t_,t_,t_,f_,f_,f_,f_,f_,f_,f_] HT_.out ?_
      refine pu_ 4 21 #[t_,t_,t_,f_,t_,f_,f_,f_,f_,f_] HT_.out ?_
      refine pu_ 5 22 #[t_,t_,t_,f_,t_,t_,f_,f_,f_,f_] HT_.out ?_
      refine pu_ 6 23 #[t_,t_,t_,f_,t_,t_,t_,f_,f_,f_] HT_.out ?_
      refine take_ (i := 3) (N := some 20) (v := ?_) (a' := ?_) #[t_,t_,t_,t_,t_,t_,t_,f_,f_,f_] rfl rfl (take_ofW HT_.out HW_.out (by kernel_rfl)) (fun _ _ _ h => h) (Or.inl ⟨by rfl, ?_⟩) hHeld ?_ ?_
      rotate_left
      ·rintro w' ⟨s0, s1, s2, s3, s4, s5, s6, s7, s8, s9, s10, s11, s12, s13, s14, s15, s16, s17⟩
       go_simp
       with_reducible rfl
      rotate_left
      ·simp only [pz_]
       rfl
      refine take_ (i := 7) (N := some 24) (v := ?_) (a' := ?_) #[t_,t_,t_,t_,t_,t_,t_,t_,f_,f_] rfl rfl (take_ofW HT_.out HW_.out (by kernel_rfl)) (fun _ _ _ h => h) (Or.inl ⟨by rfl, ?_⟩) hHeld ?_ ?_
      rotate_left
      ·rintro w' ⟨s0, s1, s2, s3, s4, s5, s6, s7, s8, s9, s10, s11, s12, s13, s14, s15, s16, s17⟩
       go_simp
       with_reducible rfl
      rotate_left
      ·simp only [pz_]
       rfl
      refine one_ (i := 8) (N := some 25) #[t_,t_,t_,t_,t_,t_,t_,t_,t_,f_] rfl rfl (one_of HT_.out (by kernel_rfl)) (by decide) (fun K hK => ?_)
      refine goes_ Try.func147 (by kernel_rfl) rfl #[.agg #[.string ((rd_T130 l0 x5_1).f0), .int .i64 ((rd_T130 l0 x5_1).f1), .int .i64 ((rd_T130 l0 x5_1).f2), .int .i64 ((rd_T130 l0 x5_1).f3), .int .i64 ((rd_T130 l0 x5_1).f4), .int .i64 ((rd_T130 l0 x5_1).f5), .int .i64 ((rd_T130 l0 x5_1).f6), .int .i64 ((rd_T130 l0 x5_1).f7), .int .i64 ((rd_T130 l0 x5_1).f8)], .agg #[.string ((rd_T130 l1 x5_1).f0), .int .i64 ((rd_T130 l1 x5_1).f1), .int .i64 ((rd_T130 l1 x5_1).f2), .int .i64 ((rd_T130 l1 x5_1).f3), .int .i64 ((rd_T130 l1 x5_1).f4), .int .i64 ((rd_T130 l1 x5_1).f5), .int .i64 ((rd_T130 l1 x5_1).f6), .int .i64 ((rd_T130 l1 x5_1).f7), .int .i64 ((rd_T130 l1 x5_1).f8)]] (by rfl) rfl rfl ag_ ?_
      with_reducible refine (laws_eqArticle.calls ((rd_T130 l0 x5_1).f0) ((rd_T130 l0 x5_1).f1) ((rd_T130 l0 x5_1).f2) ((rd_T130 l0 x5_1).f3) ((rd_T130 l0 x5_1).f4) ((rd_T130 l0 x5_1).f5) ((rd_T130 l0 x5_1).f6) ((rd_T130 l0 x5_1).f7) ((rd_T130 l0 x5_1).f8) ((rd_T130 l1 x5_1).f0) ((rd_T130 l1 x5_1).f1) ((rd_T130 l1 x5_1).f2) ((rd_T130 l1 x5_1).f3) ((rd_T130 l1 x5_1).f4) ((rd_T130 l1 x5_1).f5) ((rd_T130 l1 x5_1).f6) ((rd_T130 l1 x5_1).f7) ((rd_T130 l1 x5_1).f8) false _ A7.out).mono ?_
      rintro e w12 ⟨rfl, hb⟩
      refine ⟨_, rfl, ?_⟩
      replace HB := Aside0.mk (below_step (bl_ HB.out) hb)
      (try clear hb)
      (try clear hb2)
      (try clear hk)
      (try clear hi)
      refine hK.out _ _ ⟨(bc_ HB.out hw255_0 :), (bc_ HB.out hw255_1 :), (bc_ HB.out hw255_2 :), (bc_ HB.out hw255_3 :), (bc_ HB.out hw255_4 :), (bc_ HB.out hw255_5 :), (bc_ HB.out hw255_6 :), (bc_ HB.out hw255_7 :), (bc_ HB.out hw255_8 :), (bc_ HB.out hw256_0 :), (bc_ HB.out hw256_1 :), (bc_ HB.out hw256_2 :), (bc_ HB.out hw256_3 :), (bc_ HB.out hw256_4 :), (bc_ HB.out hw256_5 :), (bc_ HB.out hw256_6 :), (bc_ HB.out hw256_7 :), (bc_ HB.out hw256_8 :)⟩ (fun hHeld => ?_)
      clear hK K
      refine norm_ (a' := ?_) ?_ ?_
      rotate_left
      ·show Act.put _ (some 25) _ = _
       simp only [pz_]
       rfl
      refine pu_ 9 26 #[t_,t_,t_,t_,t_,t_,t_,t_,t_,t_] HT_.out ?_
      refine done_ (done_of HT_.out (by kernel_rfl)) ?_
      try go_wp2
      go_ret
      exact ⟨by first | rfl | (simp [errW_none, errW_some] <;> rfl) | (simp [*, errW_none, errW_some] <;> rfl), bl_ HB.out⟩
    ·rw [if_neg c4] at H
     have c4b0 : decide (x5_1 < (l0.length : Int)) = false := decide_eq_false c4
     clear c4
     obtain rfl := Option.some.inj H
     go_wp2
     go_ret
     exact ⟨by first | rfl | (simp [errW_none, errW_some] <;> rfl) | (simp [*, errW_none, errW_some] <;> rfl), bl_ HB.out⟩
 ·rw [if_neg c3] at H
  have c3b0 : ((l0.length : Int) == (l1.length : Int)) = false := beq_eq_false_iff_ne.mpr c3
  have c3b1 : ((l0.length : Int) != (l1.length : Int)) = true := bne_iff_ne.mpr c3
  have c3b2 : (l0.length == l1.length) = false := by first | simpa using c3 | (simp at c3 ⊢; omega)
  obtain rfl := Option.some.inj H
  go_enter Try.func110, Try.ntmps110
  go_wp2
  go_ret
  exact ⟨by first | rfl | (simp [errW_none, errW_some] <;> rfl) | (simp [*, errW_none, errW_some] <;> rfl), bl_ HB.out⟩
def laws_eqInt64S.l0 : Nat → List Int → List Int → Int → Option (Bool)
 | 0, _, _, _ => none
 | k + 1, x0, x1, x5 => if x5 < (x0.length : Int) then (if 0 ≤ x5 then (if x5 < (x1.length : Int) then (if (rd x0 x5) = (rd x1 x5) then (laws_eqInt64S.l0 k x0 x1 (wrap64 (x5 + 1))) else (some false)) else (none)) else (none)) else (some true)
def laws_eqInt64S.f (k : Nat) (l0 : List Int) (l1 : List Int) : Option (Bool) := if (l0.length : Int) = (l1.length : Int) then (laws_eqInt64S.l0 k l0 l1 0) else (some false)
set_option maxHeartbeats 8000000 in
set_option maxRecDepth 100000 in
theorem laws_eqInt64S.calls (k : Nat) (A0 : Option Addr) (c0 : Nat) (l0 : List Int) (A1 : Option Addr) (c1 : Nat) (l1 : List Int) (r : Bool) (w : World) (hr0 : Kd.C (Kd.int .i64) w A0 l0.length l0) (hc0 : l0.length ≤ c0) (hr1 : Kd.C (Kd.int .i64) w A1 l1.length l1) (hc1 : l1.length ≤ c1) (h : laws_eqInt64S.f k l0 l1 = some r) :
  Calls Try.prog 28 #[.slice A0 l0.length c0, .slice A1 l1.length c1] w fun e w' => e = .returned (.bool r) ∧ Drawn0 w w' := by
 have HR0 := Aside0.mk hr0
 have HC0 := Aside0.mk hc0
 clear hr0 hc0
 have HR1 := Aside0.mk hr1
 have HC1 := Aside0.mk hc1
 clear hr1 hc1
 have H : (if (l0.length : Int) = (l1.length : Int) then (laws_eqInt64S.l0 k l0 l1 0) else (some false)) = some r := h
 clear h
 by_cases c3 : (l0.length : Int) = (l1.length : Int)
 ·rw [if_pos c3] at H
  have c3b0 : ((l0.length : Int) == (l1.length : Int)) = true := beq_iff_eq.mpr c3
  have c3b1 : ((l0.length : Int) != (l1.length : Int)) = false := bne_eq_false_iff_eq.mpr c3
  have c3b2 : (l0.length == l1.length) = true := by first | simpa using c3 | (simp at c3 ⊢; omega)
  clear c3
  have H' := Aside0.mk H
  clear H
  go_enter Try.func28, Try.ntmps28
  go_wp2
  repeat (go_quiet (fail); try go_wp2)
  go_loopg [5] k (fun kq v5 w' => ∃ (x5_1 : Int), v5 = .int .i64 x5_1 ∧ Aside0 (laws_eqInt64S.l0 kq l0 l1 x5_1 = some r) ∧ Aside0 (kq ≤ k) ∧ Drawn0 w w')
  case atStart => exact ⟨(0), (by first | rfl | (simp; done) | (simp [*]; done)), H', ⟨Nat.le_refl _⟩, by repeat (first | exact Drawn0.refl _ | apply Drawn0.step)⟩
  case round =>
   clear H'
   try clear c1
   try clear c2
   try clear p2
   try clear c3
   try clear c3b0
   try clear c3b1
   try clear c3b2
   obtain ⟨x5_1, rfl, HA, HK1, ⟨m1, rfl⟩⟩ := hrel
   cases gk with
   | zero => exact absurd HA.out (by simp [laws_eqInt64S.l0])
   | succ k1 =>
    have H := HA.out
    clear HA
    simp only [laws_eqInt64S.l0] at H
    by_cases c4 : x5_1 < (l0.length : Int)
    ·rw [if_pos c4] at H
     have c4b0 : decide (x5_1 < (l0.length : Int)) = true := decide_eq_true c4
     clear c4
     by_cases c5 : 0 ≤ x5_1
     case neg =>
      rw [if_neg c5] at H
      exact absurd H (by simp)
     rw [if_pos c5] at H
     have c5b0 : decide (0 ≤ x5_1) = true := decide_eq_true c5
     clear c5
     by_cases c6 : x5_1 < (l1.length : Int)
     case neg =>
      rw [if_neg c6] at H
      exact absurd H (by simp)
     rw [if_pos c6] at H
     have c6b0 : decide (x5_1 < (l1.length : Int)) = true := decide_eq_true c6
     clear c6
     by_cases c7 : (rd l0 x5_1) = (rd l1 x5_1)
     ·rw [if_pos c7] at H
      have c7b0 : ((rd l0 x5_1) == (rd l1 x5_1)) = true := beq_iff_eq.mpr c7
      have c7b1 : ((rd l0 x5_1) != (rd l1 x5_1)) = false := bne_eq_false_iff_eq.mpr c7
      clear c7
      have H' := Aside0.mk H
      clear H
      have p268 : 0 ≤ (x5_1 : Int) := od_
      have q268 : x5_1 < (l0.length : Int) := od_
      obtain ⟨ad268, e268, hx268_0⟩ := Kd.at_int HR0.out x5_1 p268 q268
      cases e268
      replace p268 := eq_true p268
      replace q268 := eq_true q268
      have p269 : 0 ≤ (x5_1 : Int) := od_
      have q269 : x5_1 < (l1.length : Int) := od_
      obtain ⟨ad269, e269, hx269_0⟩ := Kd.at_int HR1.out x5_1 p269 q269
      cases e269
      replace p269 := eq_true p269
      replace q269 := eq_true q269
      go_wp2
      repeat (go_quiet (fail); try go_wp2)
      go_roundg k1
      case measure => have := HK1.out; omega
      case rel => exact ⟨(wrap64 (x5_1 + 1)), (by first | rfl | (simp; done) | (simp [*]; done)), H', ⟨by have := HK1.out; omega⟩, by repeat (first | exact Drawn0.refl _ | apply Drawn0.step)⟩
     ·rw [if_neg c7] at H
      have c7b0 : ((rd l0 x5_1) == (rd l1 x5_1)) = false := beq_eq_false_iff_ne.mpr c7
      have c7b1 : ((rd l0 x5_1) != (rd l1 x5_1)) = true := bne_iff_ne.mpr c7
      obtain rfl := Option.some.inj H
      have p268 : 0 ≤ (x5_1 : Int) := od_
      have q268 : x5_1 < (l0.length : Int) := od_
      obtain ⟨ad268, e268, hx268_0⟩ := Kd.at_int HR0.out x5_1 p268 q268
      cases e268
      replace p268 := eq_true p268
      replace q268 := eq_true q268
      have p269 : 0 ≤ (x5_1 : Int) := od_
      have q269 : x5_1 < (l1.length : Int) := od_
      obtain ⟨ad269, e269, hx269_0⟩ := Kd.at_int HR1.out x5_1 p269 q269
      cases e269
      replace p269 := eq_true p269
      replace q269 := eq_true q269
      go_wp2
      repeat (go_quiet (fail); try go_wp2)
      go_ret
      exact ⟨by first | rfl | (simp; done) | (simp [*]; done), by repeat (first | exact Drawn0.refl _ | apply Drawn0.step)⟩
    ·rw [if_neg c4] at H
     have c4b0 : decide (x5_1 < (l0.length : Int)) = false := decide_eq_false c4
     clear c4
     obtain rfl := Option.some.inj H
     go_wp2
     repeat (go_quiet (fail); try go_wp2)
     go_ret
     exact ⟨by first | rfl | (simp; done) | (simp [*]; done), by repeat (first | exact Drawn0.refl _ | apply Drawn0.step)⟩
 ·rw [if_neg c3] at H
  have c3b0 : ((l0.length : Int) == (l1.length : Int)) = false := beq_eq_false_iff_ne.mpr c3
  have c3b1 : ((l0.length : Int) != (l1.length : Int)) = true := bne_iff_ne.mpr c3
  have c3b2 : (l0.length == l1.length) = false := by first | simpa using c3 | (simp at c3 ⊢; omega)
  obtain rfl := Option.some.inj H
  go_enter Try.func28, Try.ntmps28
  go_wp2
  repeat (go_quiet (fail); try go_wp2)
  go_ret
  exact ⟨by first | rfl | (simp; done) | (simp [*]; done), by repeat (first | exact Drawn0.refl _ | apply Drawn0.step)⟩
end Go.Proofs.Ytalcbcelalbhiaa.PFnExactGreatestLoad
