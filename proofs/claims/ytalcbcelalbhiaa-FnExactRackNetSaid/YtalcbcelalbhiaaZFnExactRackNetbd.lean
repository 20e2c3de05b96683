/- QFnExactRackNetg of the law FnExactRackNet: taken over, declaration by declaration, as far as the law leans on it (the words and the printed functions are the kit's own print). No condition but what each says. -/
import Derived.Test.YtalcbcelalbhiaaZFnExactRackNetav
import Derived.Laws.Cover1
import Derived.Test.YtalcbcelalbhiaaZFnExactRackNetaw
import Derived.Test.YtalcbcelalbhiaaZFnExactRackNetbc
namespace Go.Proofs.Ytalcbcelalbhiaa.PFnExactRackNet
open Go.RowKit Go.Proofs.YtalcbcelalbhiaaW.PrintWords Go.Proofs.YtalcbcelalbhiaaW.PrintLast Go.Proofs.YtalcbcelalbhiaaW.PrintMore
attribute [local go_sem] max2_int min2_int max_two min_two max_three min_three max_four min_four   -- for this text's walks alone
set_option linter.unusedVariables false
set_option linter.unusedSimpArgs false
open Bool renaming true → t_, false → f_
def impl_AreArticles.l0 : Nat → List (S130) → List (S130) → Int → Int → Option (Bool)
 | 0, _, _, _, _ => none
 | k + 1, x0, x8, x9, x10 => if x10 < x9 then (if 0 ≤ x10 then (if x10 < (x8.length : Int) then ((impl_IsArticle.f k ((rd_T130 x8 x10).f0) ((rd_T130 x8 x10).f1) ((rd_T130 x8 x10).f2) ((rd_T130 x8 x10).f3) ((rd_T130 x8 x10).f4) ((rd_T130 x8 x10).f5) ((rd_T130 x8 x10).f6) ((rd_T130 x8 x10).f7) ((rd_T130 x8 x10).f8)).bind fun t254 => (if t254 = true then (if x10 > 0 then (if 0 ≤ (wrap64 (x10 - 1)) then (if (wrap64 (x10 - 1)) < (x0.length : Int) then (if ((Op.bytesLess (((rd_T130 x0 (wrap64 (x10 - 1))).f0).toList) (((rd_T130 x8 x10).f0).toList)) = true) then (impl_AreArticles.l0 k x0 x8 x9 (wrap64 (x10 + 1))) else (some false)) else (none)) else (none)) else (impl_AreArticles.l0 k x0 x8 x9 (wrap64 (x10 + 1)))) else (some false))) else (none)) else (none)) else (some true)
def impl_AreArticles.f (k : Nat) (l0 : List (S130)) : Option (Bool) := if (l0.length : Int) > 12 then (some false) else (impl_AreArticles.l0 k l0 l0 (l0.length : Int) 0)
def impl_AreArticles.T6 : Bool × List (List Nat × List Nat) := (true, [([], []), ([0], [0]), ([1], [1]), ([2, 1], [2]), ([3], [3]), ([4, 3], [3, 4]), ([5, 3, 3], [3, 5]), ([6], [6]), ([6], [6]), ([8, 6], [6, 8]), ([7, 9, 6], [6, 7, 9]), ([10, 6], [6, 10]), ([11, 6], [6, 11]), ([6], [6]), ([13, 6], [6, 13]), ([12, 14, 6], [6, 12, 14]), ([6, 15, 3], [3, 6, 15]), ([3, 16], [3, 16])])
def impl_AreArticles.B6 : List Nat := [0, 1, 3, 7, 15, 31, 63, 127, 127, 383, 1023, 2047, 4095, 127, 8319, 32767, 65535, 131071]
theorem impl_AreArticles.tab6 : rtab .any (opsOf Try.f143 6) = impl_AreArticles.T6 := by kernel_rfl
theorem impl_AreArticles.bits6 : waitsOk impl_AreArticles.T6.2 impl_AreArticles.B6 = true := by kernel_rfl
set_option maxHeartbeats 8000000 in
set_option maxRecDepth 100000 in
theorem impl_AreArticles.calls (k : Nat) (A0 : Option Addr) (c0 : Nat) (l0 : List (S130)) (r : Bool) (w : World) (hr0 : Kd.C k130 w A0 l0.length l0) (hc0 : l0.length ≤ c0) (h : impl_AreArticles.f k l0 = some r) :
  Calls Try.prog 143 #[.slice A0 l0.length c0] w fun e w' => e = .returned (.bool r) ∧ Below w.heap.size w w' := by
 have hu130 := Try.underlying130
 have HR0 := Aside0.mk hr0
 have HC0 := Aside0.mk hc0
 clear hr0 hc0
 have HB := Aside0.mk (Below.refl w.heap.size w)
 have H : (if (l0.length : Int) > 12 then (some false) else (impl_AreArticles.l0 k l0 l0 (l0.length : Int) 0)) = some r := h
 clear h
 by_cases c2 : (l0.length : Int) > 12
 ·rw [if_pos c2] at H
  have c2b0 : decide (12 < (l0.length : Int)) = true := decide_eq_true c2
  have c2b1 : decide (12 < l0.length) = true := decide_eq_true (by omega)
  clear c2
  obtain rfl := Option.some.inj H
  go_enter Try.func143, Try.ntmps143
  go_wp2
  go_ret
  exact ⟨by first | rfl | (simp [errW_none, errW_some] <;> rfl) | (simp [*, errW_none, errW_some] <;> rfl), bl_ HB.out⟩
 ·rw [if_neg c2] at H
  have c2b0 : decide (12 < (l0.length : Int)) = false := decide_eq_false c2
  have c2b1 : decide (12 < l0.length) = false := decide_eq_false (by omega)
  clear c2
  have H' := Aside0.mk H
  clear H
  go_enter Try.func143, Try.ntmps143
  go_wp2
  go_loopg [10] k (fun kq v10 w' => ∃ (x10_1 : Int), v10 = .int .i64 x10_1 ∧ Aside0 (impl_AreArticles.l0 kq l0 l0 (l0.length : Int) x10_1 = some r) ∧ Aside0 (kq ≤ k) ∧ Aside0 (Below w.heap.size w w'))
  case atStart => exact ⟨(0), (by first | rfl | (simp; done) | (simp [*]; done)), H', ⟨Nat.le_refl _⟩, ⟨bl_ HB.out⟩⟩
  case round =>
   clear H'
   try clear c1
   try clear c2
   try clear c2b0
   try clear c2b1
   try clear p2
   obtain ⟨x10_1, rfl, HA, HK1, HB⟩ := hrel
   cases gk with
   | zero => exact absurd HA.out (by simp [impl_AreArticles.l0])
   | succ k1 =>
    have H := HA.out
    clear HA
    simp only [impl_AreArticles.l0] at H
    by_cases c3 : x10_1 < (l0.length : Int)
    ·rw [if_pos c3] at H
     have c3b0 : decide (x10_1 < (l0.length : Int)) = true := decide_eq_true c3
     clear c3
     by_cases c4 : 0 ≤ x10_1
     case neg =>
      rw [if_neg c4] at H
      exact absurd H (by simp)
     rw [if_pos c4] at H
     have c4b0 : decide (0 ≤ x10_1) = true := decide_eq_true c4
     clear c4
     by_cases c5 : x10_1 < (l0.length : Int)
     case neg =>
      rw [if_neg c5] at H
      exact absurd H (by simp)
     rw [if_pos c5] at H
     have c5b0 : decide (x10_1 < (l0.length : Int)) = true := decide_eq_true c5
     clear c5
     replace H := Option.bind_eq_some_iff.mp H
     obtain ⟨t254, A60, H⟩ := H
     replace H : (if t254 = true then (if x10_1 > 0 then (if 0 ≤ (wrap64 (x10_1 - 1)) then (if (wrap64 (x10_1 - 1)) < (l0.length : Int) then (if ((Op.bytesLess (((rd_T130 l0 (wrap64 (x10_1 - 1))).f0).toList) (((rd_T130 l0 x10_1).f0).toList)) = true) then (impl_AreArticles.l0 k1 l0 l0 (l0.length : Int) (wrap64 (x10_1 + 1))) else (some false)) else (none)) else (none)) else (impl_AreArticles.l0 k1 l0 l0 (l0.length : Int) (wrap64 (x10_1 + 1)))) else (some false)) = some r := H
     have A6 := Aside0.mk A60
     clear A60
     by_cases c7 : t254 = true
     ·subst c7
      replace H : (if x10_1 > 0 then (if 0 ≤ (wrap64 (x10_1 - 1)) then (if (wrap64 (x10_1 - 1)) < (l0.length : Int) then (if ((Op.bytesLess (((rd_T130 l0 (wrap64 (x10_1 - 1))).f0).toList) (((rd_T130 l0 x10_1).f0).toList)) = true) then (impl_AreArticles.l0 k1 l0 l0 (l0.length : Int) (wrap64 (x10_1 + 1))) else (some false)) else (none)) else (none)) else (impl_AreArticles.l0 k1 l0 l0 (l0.length : Int) (wrap64 (x10_1 + 1)))) = some r := by rw [if_pos rfl] at H; exact H
      by_cases c8 : x10_1 > 0
      ·rw [if_pos c8] at H
       have c8b0 : decide (0 < x10_1) = true := decide_eq_true c8
       clear c8
       obtain ⟨ji9, hji9⟩ : ∃ j_ : Int, (wrap64 (x10_1 - 1)) = j_ := ⟨_, rfl⟩
       replace H : (if 0 ≤ (ji9) then (if (ji9) < (l0.length : Int) then (if ((Op.bytesLess (((rd_T130 l0 (ji9)).f0).toList) (((rd_T130 l0 x10_1).f0).toList)) = true) then (impl_AreArticles.l0 k1 l0 l0 (l0.length : Int) (wrap64 (x10_1 + 1))) else (some false)) else (none)) else (none)) = some r := by first | (rw [hji9] at H; exact H) | (simp only [hji9] at H ⊢; exact H)
       (try rw [hji9] at A6)
       have hji9w : (IntKind.i64.wrap (x10_1 - 1)) = ji9 := (i64_w _).trans hji9
       by_cases c10 : 0 ≤ (ji9)
       case neg =>
        rw [if_neg c10] at H
        exact absurd H (by simp)
       rw [if_pos c10] at H
       have c10b0 : decide (0 ≤ (ji9)) = true := decide_eq_true c10
       clear c10
       by_cases c11 : (ji9) < (l0.length : Int)
       case neg =>
        rw [if_neg c11] at H
        exact absurd H (by simp)
       rw [if_pos c11] at H
       have c11b0 : decide ((ji9) < (l0.length : Int)) = true := decide_eq_true c11
       clear c11
       by_cases c12 : ((Op.bytesLess (((rd_T130 l0 (ji9)).f0).toList) (((rd_T130 l0 x10_1).f0).toList)) = true)
       ·rw [if_pos c12] at H
        have c12b0 : (Op.bytesLess (((rd_T130 l0 (ji9)).f0).toList) (((rd_T130 l0 x10_1).f0).toList)) = true := c12
        clear c12
        have H' := Aside0.mk H
        clear H
        have p252 : 0 ≤ (x10_1 : Int) := od_
        have q252 : x10_1 < (l0.length : Int) := od_
        obtain ⟨ad252, e252, hx252_0, hx252_1, hx252_2, hx252_3, hx252_4, hx252_5, hx252_6, hx252_7, hx252_8⟩ := at_T130 HR0.out x10_1 p252 q252
        cases e252
        replace hx252_0 := bc_ HB.out hx252_0
        replace hx252_1 := bc_ HB.out hx252_1
        replace hx252_2 := bc_ HB.out hx252_2
        replace hx252_3 := bc_ HB.out hx252_3
        replace hx252_4 := bc_ HB.out hx252_4
        replace hx252_5 := bc_ HB.out hx252_5
        replace hx252_6 := bc_ HB.out hx252_6
        replace hx252_7 := bc_ HB.out hx252_7
        replace hx252_8 := bc_ HB.out hx252_8
        replace p252 := eq_true p252
        replace q252 := eq_true q252
        try go_wp2_with (first | ((with_reducible refine gate_dst (N := 4) rfl ?_); refine box_event ?hg (N := 4) ?hd (cs := #[.string (⟨#[]⟩ : ByteArray), .int .i64 0, .int .i64 0, .int .i64 0, .int .i64 0, .int .i64 0, .int .i64 0, .int .i64 0, .int .i64 0]) (t := 130) ?hr ?_; (case hd => rfl); (case hg => rfl); (case hr => first | (go_simp; done) | (go_simp; rfl)); intro gb253 hg w13 hbox hb; have BK253 := Aside0.mk (hbox); have GW253 := Aside0.mk ((by rw [hg]; exact (below_size (bl_ HB.out)) : w.heap.size ≤ gb253)); have GE253 := Aside0.mk ((by rw [hg]; exact (below_size (bl_ HB.out)) : w.heap.size ≤ gb253)); replace HB := Aside0.mk (below_step (bl_ HB.out) hb); clear hb hbox hg; have hcz14_0 : w13.cell? ⟨gb253, 0, none⟩ = some (.string (⟨#[]⟩ : ByteArray)) := (blk_cell BK253.out 0).trans rfl; have hcz14_1 : w13.cell? ⟨gb253, 1, none⟩ = some (.int .i64 0) := (blk_cell BK253.out 1).trans rfl; have hcz14_2 : w13.cell? ⟨gb253, 2, none⟩ = some (.int .i64 0) := (blk_cell BK253.out 2).trans rfl; have hcz14_3 : w13.cell? ⟨gb253, 3, none⟩ = some (.int .i64 0) := (blk_cell BK253.out 3).trans rfl; have hcz14_4 : w13.cell? ⟨gb253, 4, none⟩ = some (.int .i64 0) := (blk_cell BK253.out 4).trans rfl; have hcz14_5 : w13.cell? ⟨gb253, 5, none⟩ = some (.int .i64 0) := (blk_cell BK253.out 5).trans rfl; have hcz14_6 : w13.cell? ⟨gb253, 6, none⟩ = some (.int .i64 0) := (blk_cell BK253.out 6).trans rfl; have hcz14_7 : w13.cell? ⟨gb253, 7, none⟩ = some (.int .i64 0) := (blk_cell BK253.out 7).trans rfl; have hcz14_8 : w13.cell? ⟨gb253, 8, none⟩ = some (.int .i64 0) := (blk_cell BK253.out 8).trans rfl; have hfz14_0 := blk_frozen BK253.out 0; have hfz14_1 := blk_frozen BK253.out 1; have hfz14_2 := blk_frozen BK253.out 2; have hfz14_3 := blk_frozen BK253.out 3; have hfz14_4 := blk_frozen BK253.out 4; have hfz14_5 := blk_frozen BK253.out 5; have hfz14_6 := blk_frozen BK253.out 6; have hfz14_7 := blk_frozen BK253.out 7; have hfz14_8 := blk_frozen BK253.out 8))
        have n0_ : Aside0 ((((((((((w13.setCell ⟨gb253, 0, none⟩ (.string ((rd_T130 l0 x10_1).f0))).setCell ⟨gb253, 1, none⟩ (.int .i64 ((rd_T130 l0 x10_1).f1))).setCell ⟨gb253, 2, none⟩ (.int .i64 ((rd_T130 l0 x10_1).f2))).setCell ⟨gb253, 3, none⟩ (.int .i64 ((rd_T130 l0 x10_1).f3))).setCell ⟨gb253, 4, none⟩ (.int .i64 ((rd_T130 l0 x10_1).f4))).setCell ⟨gb253, 5, none⟩ (.int .i64 ((rd_T130 l0 x10_1).f5))).setCell ⟨gb253, 6, none⟩ (.int .i64 ((rd_T130 l0 x10_1).f6))).setCell ⟨gb253, 7, none⟩ (.int .i64 ((rd_T130 l0 x10_1).f7))).setCell ⟨gb253, 8, none⟩ (.int .i64 ((rd_T130 l0 x10_1).f8))).heap[gb253]? = some (.cells #[.string ((rd_T130 l0 x10_1).f0), .int .i64 ((rd_T130 l0 x10_1).f1), .int .i64 ((rd_T130 l0 x10_1).f2), .int .i64 ((rd_T130 l0 x10_1).f3), .int .i64 ((rd_T130 l0 x10_1).f4), .int .i64 ((rd_T130 l0 x10_1).f5), .int .i64 ((rd_T130 l0 x10_1).f6), .int .i64 ((rd_T130 l0 x10_1).f7), .int .i64 ((rd_T130 l0 x10_1).f8)] 130 (0, 0))) := ⟨by (with_reducible repeat (first | refine blk_drewN ?_ _ | refine blk_drew ?_ | refine blk_alloc ?_ _)); refine blk_put (cs := #[.string ((rd_T130 l0 x10_1).f0), .int .i64 ((rd_T130 l0 x10_1).f1), .int .i64 ((rd_T130 l0 x10_1).f2), .int .i64 ((rd_T130 l0 x10_1).f3), .int .i64 ((rd_T130 l0 x10_1).f4), .int .i64 ((rd_T130 l0 x10_1).f5), .int .i64 ((rd_T130 l0 x10_1).f6), .int .i64 ((rd_T130 l0 x10_1).f7), .int .i64 0]) ?_ 8 _ rfl; (with_reducible repeat (first | refine blk_drewN ?_ _ | refine blk_drew ?_ | refine blk_alloc ?_ _)); refine blk_put (cs := #[.string ((rd_T130 l0 x10_1).f0), .int .i64 ((rd_T130 l0 x10_1).f1), .int .i64 ((rd_T130 l0 x10_1).f2), .int .i64 ((rd_T130 l0 x10_1).f3), .int .i64 ((rd_T130 l0 x10_1).f4), .int .i64 ((rd_T130 l0 x10_1).f5), .int .i64 ((rd_T130 l0 x10_1).f6), .int .i64 0, .int .i64 0]) ?_ 7 _ rfl; (with_reducible repeat (first | refine blk_drewN ?_ _ | refine blk_drew ?_ | refine blk_alloc ?_ _)); refine blk_put (cs := #[.string ((rd_T130 l0 x10_1).f0), .int .i64 ((rd_T130 l0 x10_1).f1), .int .i64 ((rd_T130 l0 x10_1).f2), .int .i64 ((rd_T130 l0 x10_1).f3), .int .i64 ((rd_T130 l0 x10_1).f4), .int .i64 ((rd_T130 l0 x10_1).f5), .int .i64 0, .int .i64 0, .int .i64 0]) ?_ 6 _ rfl; (with_reducible repeat (first | refine blk_drewN ?_ _ | refine blk_drew ?_ | refine blk_alloc ?_ _)); refine blk_put (cs := #[.string ((rd_T130 l0 x10_1).f0), .int .i64 ((rd_T130 l0 x10_1).f1), .int .i64 ((rd_T130 l0 x10_1).f2), .int .i64 ((rd_T130 l0 x10_1).f3), .int .i64 ((rd_T130 l0 x10_1).f4), .int .i64 0, .int .i64 0, .int .i64 0, .int .i64 0]) ?_ 5 _ rfl; (with_reducible repeat (first | refine blk_drewN ?_ _ | refine blk_drew ?_ | refine blk_alloc ?_ _)); refine blk_put (cs := #[.string ((rd_T130 l0 x10_1).f0), .int .i64 ((rd_T130 l0 x10_1).f1), .int .i64 ((rd_T130 l0 x10_1).f2), .int .i64 ((rd_T130 l0 x10_1).f3), .int .i64 0, .int .i64 0, .int .i64 0, .int .i64 0, .int .i64 0]) ?_ 4 _ rfl; (with_reducible repeat (first | refine blk_drewN ?_ _ | refine blk_drew ?_ | refine blk_alloc ?_ _)); refine blk_put (cs := #[.string ((rd_T130 l0 x10_1).f0), .int .i64 ((rd_T130 l0 x10_1).f1), .int .i64 ((rd_T130 l0 x10_1).f2), .int .i64 0, .int .i64 0, .int .i64 0, .int .i64 0, .int .i64 0, .int .i64 0]) ?_ 3 _ rfl; (with_reducible repeat (first | refine blk_drewN ?_ _ | refine blk_drew ?_ | refine blk_alloc ?_ _)); refine blk_put (cs := #[.string ((rd_T130 l0 x10_1).f0), .int .i64 ((rd_T130 l0 x10_1).f1), .int .i64 0, .int .i64 0, .int .i64 0, .int .i64 0, .int .i64 0, .int .i64 0, .int .i64 0]) ?_ 2 _ rfl; (with_reducible repeat (first | refine blk_drewN ?_ _ | refine blk_drew ?_ | refine blk_alloc ?_ _)); refine blk_put (cs := #[.string ((rd_T130 l0 x10_1).f0), .int .i64 0, .int .i64 0, .int .i64 0, .int .i64 0, .int .i64 0, .int .i64 0, .int .i64 0, .int .i64 0]) ?_ 1 _ rfl; (with_reducible repeat (first | refine blk_drewN ?_ _ | refine blk_drew ?_ | refine blk_alloc ?_ _)); refine blk_put (cs := #[.string (⟨#[]⟩ : ByteArray), .int .i64 0, .int .i64 0, .int .i64 0, .int .i64 0, .int .i64 0, .int .i64 0, .int .i64 0, .int .i64 0]) ?_ 0 _ rfl; (with_reducible repeat (first | refine blk_drewN ?_ _ | refine blk_drew ?_ | refine blk_alloc ?_ _)); exact BK253.out⟩
        have n1_ : Aside0 (Below w.heap.size w (((((((((w13.setCell ⟨gb253, 0, none⟩ (.string ((rd_T130 l0 x10_1).f0))).setCell ⟨gb253, 1, none⟩ (.int .i64 ((rd_T130 l0 x10_1).f1))).setCell ⟨gb253, 2, none⟩ (.int .i64 ((rd_T130 l0 x10_1).f2))).setCell ⟨gb253, 3, none⟩ (.int .i64 ((rd_T130 l0 x10_1).f3))).setCell ⟨gb253, 4, none⟩ (.int .i64 ((rd_T130 l0 x10_1).f4))).setCell ⟨gb253, 5, none⟩ (.int .i64 ((rd_T130 l0 x10_1).f5))).setCell ⟨gb253, 6, none⟩ (.int .i64 ((rd_T130 l0 x10_1).f6))).setCell ⟨gb253, 7, none⟩ (.int .i64 ((rd_T130 l0 x10_1).f7))).setCell ⟨gb253, 8, none⟩ (.int .i64 ((rd_T130 l0 x10_1).f8)))) := ⟨r0_ HB.out GE253.out⟩
        (try clear BK253)
        (try clear HB)
        generalize (((((((((w13.setCell ⟨gb253, 0, none⟩ (.string ((rd_T130 l0 x10_1).f0))).setCell ⟨gb253, 1, none⟩ (.int .i64 ((rd_T130 l0 x10_1).f1))).setCell ⟨gb253, 2, none⟩ (.int .i64 ((rd_T130 l0 x10_1).f2))).setCell ⟨gb253, 3, none⟩ (.int .i64 ((rd_T130 l0 x10_1).f3))).setCell ⟨gb253, 4, none⟩ (.int .i64 ((rd_T130 l0 x10_1).f4))).setCell ⟨gb253, 5, none⟩ (.int .i64 ((rd_T130 l0 x10_1).f5))).setCell ⟨gb253, 6, none⟩ (.int .i64 ((rd_T130 l0 x10_1).f6))).setCell ⟨gb253, 7, none⟩ (.int .i64 ((rd_T130 l0 x10_1).f7))).setCell ⟨gb253, 8, none⟩ (.int .i64 ((rd_T130 l0 x10_1).f8))) = w15 at n0_ n1_ ⊢
        have BK253 := n0_
        have HB := n1_
        clear n0_ n1_
        replace BK253 := Aside0.mk (blk_drew BK253.out)
        replace HB := Aside0.mk (below_drew1 HB.out)
        have p255 : 0 ≤ ((ji9) : Int) := od_
        have q255 : (ji9) < (l0.length : Int) := od_
        obtain ⟨ad255, e255, hx255_0, hx255_1, hx255_2, hx255_3, hx255_4, hx255_5, hx255_6, hx255_7, hx255_8⟩ := at_T130 HR0.out (ji9) p255 q255
        have hw255_8 := hx255_8
        have hw255_7 := hx255_7
        have hw255_6 := hx255_6
        have hw255_5 := hx255_5
        have hw255_4 := hx255_4
        have hw255_3 := hx255_3
        have hw255_2 := hx255_2
        have hw255_1 := hx255_1
        have hw255_0 := hx255_0
        obtain rfl : ad252 = ad255 := (by injection e255)
        replace hx255_0 := bc_ HB.out hx255_0
        replace hx255_1 := bc_ HB.out hx255_1
        replace hx255_2 := bc_ HB.out hx255_2
        replace hx255_3 := bc_ HB.out hx255_3
        replace hx255_4 := bc_ HB.out hx255_4
        replace hx255_5 := bc_ HB.out hx255_5
        replace hx255_6 := bc_ HB.out hx255_6
        replace hx255_7 := bc_ HB.out hx255_7
        replace hx255_8 := bc_ HB.out hx255_8
        replace p255 := eq_true p255
        replace q255 := eq_true q255
        refine start_ (n := 18) (S := fun w' => w'.cell? ⟨gb253, 0, none⟩ = some (.string ((rd_T130 l0 x10_1).f0)) ∧ w'.cell? ⟨gb253, 1, none⟩ = some (.int .i64 ((rd_T130 l0 x10_1).f1)) ∧ w'.cell? ⟨gb253, 2, none⟩ = some (.int .i64 ((rd_T130 l0 x10_1).f2)) ∧ w'.cell? ⟨gb253, 3, none⟩ = some (.int .i64 ((rd_T130 l0 x10_1).f3)) ∧ w'.cell? ⟨gb253, 4, none⟩ = some (.int .i64 ((rd_T130 l0 x10_1).f4)) ∧ w'.cell? ⟨gb253, 5, none⟩ = some (.int .i64 ((rd_T130 l0 x10_1).f5)) ∧ w'.cell? ⟨gb253, 6, none⟩ = some (.int .i64 ((rd_T130 l0 x10_1).f6)) ∧ w'.cell? ⟨gb253, 7, none⟩ = some (.int .i64 ((rd_T130 l0 x10_1).f7)) ∧ w'.cell? ⟨gb253, 8, none⟩ = some (.int .i64 ((rd_T130 l0 x10_1).f8)) ∧ w'.cell? (ad252.add (((ji9)).toNat * 9)) = some (.string ((rd_T130 l0 (ji9)).f0)) ∧ w'.cell? ⟨(ad252.add (((ji9)).toNat * 9)).block, (ad252.add (((ji9)).toNat * 9)).off + 1, none⟩ = some (.int .i64 ((rd_T130 l0 (ji9)).f1)) ∧ w'.cell? ⟨(ad252.add (((ji9)).toNat * 9)).block, (ad252.add (((ji9)).toNat * 9)).off + 2, none⟩ = some (.int .i64 ((rd_T130 l0 (ji9)).f2)) ∧ w'.cell? ⟨(ad252.add (((ji9)).toNat * 9)).block, (ad252.add (((ji9)).toNat * 9)).off + 3, none⟩ = some (.int .i64 ((rd_T130 l0 (ji9)).f3)) ∧ w'.cell? ⟨(ad252.add (((ji9)).toNat * 9)).block, (ad252.add (((ji9)).toNat * 9)).off + 4, none⟩ = some (.int .i64 ((rd_T130 l0 (ji9)).f4)) ∧ w'.cell? ⟨(ad252.add (((ji9)).toNat * 9)).block, (ad252.add (((ji9)).toNat * 9)).off + 5, none⟩ = some (.int .i64 ((rd_T130 l0 (ji9)).f5)) ∧ w'.cell? ⟨(ad252.add (((ji9)).toNat * 9)).block, (ad252.add (((ji9)).toNat * 9)).off + 6, none⟩ = some (.int .i64 ((rd_T130 l0 (ji9)).f6)) ∧ w'.cell? ⟨(ad252.add (((ji9)).toNat * 9)).block, (ad252.add (((ji9)).toNat * 9)).off + 7, none⟩ = some (.int .i64 ((rd_T130 l0 (ji9)).f7)) ∧ w'.cell? ⟨(ad252.add (((ji9)).toNat * 9)).block, (ad252.add (((ji9)).toNat * 9)).off + 8, none⟩ = some (.int .i64 ((rd_T130 l0 (ji9)).f8))) (ds := []) #[f_,f_,f_,f_,f_,f_,f_,f_,f_,f_,f_,f_,f_,f_,f_,f_,f_,f_] (by kernel_rfl) rfl rfl ⟨(blk_cell BK253.out 0).trans rfl, (blk_cell BK253.out 1).trans rfl, (blk_cell BK253.out 2).trans rfl, (blk_cell BK253.out 3).trans rfl, (blk_cell BK253.out 4).trans rfl, (blk_cell BK253.out 5).trans rfl, (blk_cell BK253.out 6).trans rfl, (blk_cell BK253.out 7).trans rfl, (blk_cell BK253.out 8).trans rfl, (bc_ HB.out hw255_0 :), (bc_ HB.out hw255_1 :), (bc_ HB.out hw255_2 :), (bc_ HB.out hw255_3 :), (bc_ HB.out hw255_4 :), (bc_ HB.out hw255_5 :), (bc_ HB.out hw255_6 :), (bc_ HB.out hw255_7 :), (bc_ HB.out hw255_8 :)⟩ (fun hHeld => ?_); refine with_tabW impl_AreArticles.tab6 impl_AreArticles.bits6 (fun HT_ HW_ => ?_)
        generalize w15.drew = w16 at BK253 HB hx255_0 hx255_1 hx255_2 hx255_3 hx255_4 hx255_5 hx255_6 hx255_7 hx255_8 hHeld ⊢
        refine take_ (i := 0) (N := some 15) (v := ?_) (a' := ?_) #[t_,f_,f_,f_,f_,f_,f_,f_,f_,f_,f_,f_,f_,f_,f_,f_,f_,f_] rfl rfl (take_ofW HT_.out HW_.out (by kernel_rfl)) (fun _ _ _ h => h) (Or.inl ⟨by rfl, ?_⟩) hHeld ?_ ?_
        rotate_left
        ·rintro w' ⟨s0, s1, s2, s3, s4, s5, s6, s7, s8, s9, s10, s11, s12, s13, s14, s15, s16, s17⟩
         go_simp
         with_reducible rfl
        rotate_left
        ·simp only [pz_]
         rfl
        refine one_ (i := 1) (N := some 16) #[t_,t_,f_,f_,f_,f_,f_,f_,f_,f_,f_,f_,f_,f_,f_,f_,f_,f_] rfl rfl (one_of HT_.out (by kernel_rfl)) (by decide) (fun K hK => ?_)
        refine goes_ Try.func164 (by kernel_rfl) rfl #[.agg #[.string ((rd_T130 l0 x10_1).f0), .int .i64 ((rd_T130 l0 x10_1).f1), .int .i64 ((rd_T130 l0 x10_1).f2), .int .i64 ((rd_T130 l0 x10_1).f3), .int .i64 ((rd_T130 l0 x10_1).f4), .int .i64 ((rd_T130 l0 x10_1).f5), .int .i64 ((rd_T130 l0 x10_1).f6), .int .i64 ((rd_T130 l0 x10_1).f7), .int .i64 ((rd_T130 l0 x10_1).f8)]] (by rfl) rfl rfl ag_ ?_
        with_reducible refine (impl_IsArticle.calls k1 ((rd_T130 l0 x10_1).f0) ((rd_T130 l0 x10_1).f1) ((rd_T130 l0 x10_1).f2) ((rd_T130 l0 x10_1).f3) ((rd_T130 l0 x10_1).f4) ((rd_T130 l0 x10_1).f5) ((rd_T130 l0 x10_1).f6) ((rd_T130 l0 x10_1).f7) ((rd_T130 l0 x10_1).f8) true _ A6.out).mono ?_
        rintro e w17 ⟨rfl, hb⟩
        refine ⟨_, rfl, ?_⟩
        replace BK253 := Aside0.mk (blk_below (g := gb253) (o := .cells #[.string ((rd_T130 l0 x10_1).f0), .int .i64 ((rd_T130 l0 x10_1).f1), .int .i64 ((rd_T130 l0 x10_1).f2), .int .i64 ((rd_T130 l0 x10_1).f3), .int .i64 ((rd_T130 l0 x10_1).f4), .int .i64 ((rd_T130 l0 x10_1).f5), .int .i64 ((rd_T130 l0 x10_1).f6), .int .i64 ((rd_T130 l0 x10_1).f7), .int .i64 ((rd_T130 l0 x10_1).f8)] 130 (0, 0)) (r1_ BK253.out) hb)
        replace HB := Aside0.mk (below_step (r0_ HB.out GE253.out) hb)
        (try clear hb)
        (try clear hb2)
        (try clear hk)
        (try clear hi)
        refine hK.out _ _ ⟨(blk_cell BK253.out 0).trans rfl, (blk_cell BK253.out 1).trans rfl, (blk_cell BK253.out 2).trans rfl, (blk_cell BK253.out 3).trans rfl, (blk_cell BK253.out 4).trans rfl, (blk_cell BK253.out 5).trans rfl, (blk_cell BK253.out 6).trans rfl, (blk_cell BK253.out 7).trans rfl, (blk_cell BK253.out 8).trans rfl, (bc_ HB.out hw255_0 :), (bc_ HB.out hw255_1 :), (bc_ HB.out hw255_2 :), (bc_ HB.out hw255_3 :), (bc_ HB.out hw255_4 :), (bc_ HB.out hw255_5 :), (bc_ HB.out hw255_6 :), (bc_ HB.out hw255_7 :), (bc_ HB.out hw255_8 :)⟩ (fun hHeld => ?_)
        clear hK K
        refine norm_ (a' := ?_) ?_ ?_
        rotate_left
        ·show Act.put _ (some 16) _ = _
         simp only [pz_]
         rfl
        refine pu_ 2 17 #[t_,t_,t_,f_,f_,f_,f_,f_,f_,f_,f_,f_,f_,f_,f_,f_,f_,f_] HT_.out ?_
        refine pu_ 3 18 #[t_,t_,t_,t_,f_,f_,f_,f_,f_,f_,f_,f_,f_,f_,f_,f_,f_,f_] HT_.out ?_
        refine pu_ 4 19 #[t_,t_,t_,t_,t_,f_,f_,f_,f_,f_,f_,f_,f_,f_,f_,f_,f_,f_] HT_.out ?_
        refine pu_ 5 20 #[t_,t_,t_,t_,t_,t_,f_,f_,f_,f_,f_,f_,f_,f_,f_,f_,f_,f_] HT_.out ?_
        refine pu_ 6 21 #[t_,t_,t_,t_,t_,t_,t_,f_,f_,f_,f_,f_,f_,f_,f_,f_,f_,f_] HT_.out ?_
        refine pu_ 7 22 #[t_,t_,t_,t_,t_,t_,t_,t_,f_,f_,f_,f_,f_,f_,f_,f_,f_,f_] HT_.out ?_
        refine pu_ 8 23 #[t_,t_,t_,t_,t_,t_,t_,t_,t_,f_,f_,f_,f_,f_,f_,f_,f_,f_] HT_.out ?_
        refine pu_ 9 24 #[t_,t_,t_,t_,t_,t_,t_,t_,t_,t_,f_,f_,f_,f_,f_,f_,f_,f_] HT_.out ?_
        refine pu_ 10 25 #[t_,t_,t_,t_,t_,t_,t_,t_,t_,t_,t_,f_,f_,f_,f_,f_,f_,f_] HT_.out ?_
        refine pu_ 11 26 #[t_,t_,t_,t_,t_,t_,t_,t_,t_,t_,t_,t_,f_,f_,f_,f_,f_,f_] HT_.out ?_
        refine pu_ 13 28 #[t_,t_,t_,t_,t_,t_,t_,t_,t_,t_,t_,t_,f_,t_,f_,f_,f_,f_] HT_.out ?_
        refine take_ (i := 12) (N := some 27) (v := ?_) (a' := ?_) #[t_,t_,t_,t_,t_,t_,t_,t_,t_,t_,t_,t_,t_,t_,f_,f_,f_,f_] rfl rfl (take_ofW HT_.out HW_.out (by kernel_rfl)) (fun _ _ _ h => h) (Or.inl ⟨by rfl, ?_⟩) hHeld ?_ ?_
        rotate_left
        ·rintro w' ⟨s0, s1, s2, s3, s4, s5, s6, s7, s8, s9, s10, s11, s12, s13, s14, s15, s16, s17⟩
         go_simp
         with_reducible rfl
        rotate_left
        ·simp only [pz_]
         rfl
        refine take_ (i := 14) (N := some 29) (v := ?_) (a' := ?_) #[t_,t_,t_,t_,t_,t_,t_,t_,t_,t_,t_,t_,t_,t_,t_,f_,f_,f_] rfl rfl (take_ofW HT_.out HW_.out (by kernel_rfl)) (fun _ _ _ h => h) (Or.inl ⟨by rfl, ?_⟩) hHeld ?_ ?_
        rotate_left
        ·rintro w' ⟨s0, s1, s2, s3, s4, s5, s6, s7, s8, s9, s10, s11, s12, s13, s14, s15, s16, s17⟩
         go_simp
         with_reducible rfl
        rotate_left
        ·simp only [pz_]
         rfl
        refine pu_ 15 30 #[t_,t_,t_,t_,t_,t_,t_,t_,t_,t_,t_,t_,t_,t_,t_,t_,f_,f_] HT_.out ?_
        refine pu_ 16 31 #[t_,t_,t_,t_,t_,t_,t_,t_,t_,t_,t_,t_,t_,t_,t_,t_,t_,f_] HT_.out ?_
        refine pu_ 17 32 #[t_,t_,t_,t_,t_,t_,t_,t_,t_,t_,t_,t_,t_,t_,t_,t_,t_,t_] HT_.out ?_
        refine done_ (done_of HT_.out (by kernel_rfl)) ?_
        try go_wp2
        go_roundg k1
        case measure => have := HK1.out; omega
        case rel => exact ⟨(wrap64 (x10_1 + 1)), (by first | rfl | (simp; done) | (simp [*]; done)), H', ⟨by have := HK1.out; omega⟩, ⟨r0_ HB.out GE253.out⟩⟩
       ·rw [if_neg c12] at H
        have c12b0 : (Op.bytesLess (((rd_T130 l0 (ji9)).f0).toList) (((rd_T130 l0 x10_1).f0).toList)) = false := by simpa using c12
        clear c12
        obtain rfl := Option.some.inj H
        have p252 : 0 ≤ (x10_1 : Int) := od_
        have q252 : x10_1 < (l0.length : Int) := od_
        obtain ⟨ad252, e252, hx252_0, hx252_1, hx252_2, hx252_3, hx252_4, hx252_5, hx252_6, hx252_7, hx252_8⟩ := at_T130 HR0.out x10_1 p252 q252
        cases e252
        replace hx252_0 := bc_ HB.out hx252_0
        replace hx252_1 := bc_ HB.out hx252_1
        replace hx252_2 := bc_ HB.out hx252_2
        replace hx252_3 := bc_ HB.out hx252_3
        replace hx252_4 := bc_ HB.out hx252_4
        replace hx252_5 := bc_ HB.out hx252_5
        replace hx252_6 := bc_ HB.out hx252_6
        replace hx252_7 := bc_ HB.out hx252_7
        replace hx252_8 := bc_ HB.out hx252_8
        replace p252 := eq_true p252
        replace q252 := eq_true q252
        try go_wp2_with (first | ((with_reducible refine gate_dst (N := 4) rfl ?_); refine box_event ?hg (N := 4) ?hd (cs := #[.string (⟨#[]⟩ : ByteArray), .int .i64 0, .int .i64 0, .int .i64 0, .int .i64 0, .int .i64 0, .int .i64 0, .int .i64 0, .int .i64 0]) (t := 130) ?hr ?_; (case hd => rfl); (case hg => rfl); (case hr => first | (go_simp; done) | (go_simp; rfl)); intro gb253 hg w18 hbox hb; have BK253 := Aside0.mk (hbox); have GW253 := Aside0.mk ((by rw [hg]; exact (below_size (bl_ HB.out)) : w.heap.size ≤ gb253)); have GE253 := Aside0.mk ((by rw [hg]; exact (below_size (bl_ HB.out)) : w.heap.size ≤ gb253)); replace HB := Aside0.mk (below_step (bl_ HB.out) hb); clear hb hbox hg; have hcz19_0 : w18.cell? ⟨gb253, 0, none⟩ = some (.string (⟨#[]⟩ : ByteArray)) := (blk_cell BK253.out 0).trans rfl; have hcz19_1 : w18.cell? ⟨gb253, 1, none⟩ = some (.int .i64 0) := (blk_cell BK253.out 1).trans rfl; have hcz19_2 : w18.cell? ⟨gb253, 2, none⟩ = some (.int .i64 0) := (blk_cell BK253.out 2).trans rfl; have hcz19_3 : w18.cell? ⟨gb253, 3, none⟩ = some (.int .i64 0) := (blk_cell BK253.out 3).trans rfl; have hcz19_4 : w18.cell? ⟨gb253, 4, none⟩ = some (.int .i64 0) := (blk_cell BK253.out 4).trans rfl; have hcz19_5 : w18.cell? ⟨gb253, 5, none⟩ = some (.int .i64 0) := (blk_cell BK253.out 5).trans rfl; have hcz19_6 : w18.cell? ⟨gb253, 6, none⟩ = some (.int .i64 0) := (blk_cell BK253.out 6).trans rfl; have hcz19_7 : w18.cell? ⟨gb253, 7, none⟩ = some (.int .i64 0) := (blk_cell BK253.out 7).trans rfl; have hcz19_8 : w18.cell? ⟨gb253, 8, none⟩ = some (.int .i64 0) := (blk_cell BK253.out 8).trans rfl; have hfz19_0 := blk_frozen BK253.out 0; have hfz19_1 := blk_frozen BK253.out 1; have hfz19_2 := blk_frozen BK253.out 2; have hfz19_3 := blk_frozen BK253.out 3; have hfz19_4 := blk_frozen BK253.out 4; have hfz19_5 := blk_frozen BK253.out 5; have hfz19_6 := blk_frozen BK253.out 6; have hfz19_7 := blk_frozen BK253.out 7; have hfz19_8 := blk_frozen BK253.out 8))
        have n0_ : Aside0 ((((((((((w18.setCell ⟨gb253, 0, none⟩ (.string ((rd_T130 l0 x10_1).f0))).setCell ⟨gb253, 1, none⟩ (.int .i64 ((rd_T130 l0 x10_1).f1))).setCell ⟨gb253, 2, none⟩ (.int .i64 ((rd_T130 l0 x10_1).f2))).setCell ⟨gb253, 3, none⟩ (.int .i64 ((rd_T130 l0 x10_1).f3))).setCell ⟨gb253, 4, none⟩ (.int .i64 ((rd_T130 l0 x10_1).f4))).setCell ⟨gb253, 5, none⟩ (.int .i64 ((rd_T130 l0 x10_1).f5))).setCell ⟨gb253, 6, none⟩ (.int .i64 ((rd_T130 l0 x10_1).f6))).setCell ⟨gb253, 7, none⟩ (.int .i64 ((rd_T130 l0 x10_1).f7))).setCell ⟨gb253, 8, none⟩ (.int .i64 ((rd_T130 l0 x10_1).f8))).heap[gb253]? = some (.cells #[.string ((rd_T130 l0 x10_1).f0), .int .i64 ((rd_T130 l0 x10_1).f1), .int .i64 ((rd_T130 l0 x10_1).f2), .int .i64 ((rd_T130 l0 x10_1).f3), .int .i64 ((rd_T130 l0 x10_1).f4), .int .i64 ((rd_T130 l0 x10_1).f5), .int .i64 ((rd_T130 l0 x10_1).f6), .int .i64 ((rd_T130 l0 x10_1).f7), .int .i64 ((rd_T130 l0 x10_1).f8)] 130 (0, 0))) := ⟨by (with_reducible repeat (first | refine blk_drewN ?_ _ | refine blk_drew ?_ | refine blk_alloc ?_ _)); refine blk_put (cs := #[.string ((rd_T130 l0 x10_1).f0), .int .i64 ((rd_T130 l0 x10_1).f1), .int .i64 ((rd_T130 l0 x10_1).f2), .int .i64 ((rd_T130 l0 x10_1).f3), .int .i64 ((rd_T130 l0 x10_1).f4), .int .i64 ((rd_T130 l0 x10_1).f5), .int .i64 ((rd_T130 l0 x10_1).f6), .int .i64 ((rd_T130 l0 x10_1).f7), .int .i64 0]) ?_ 8 _ rfl; (with_reducible repeat (first | refine blk_drewN ?_ _ | refine blk_drew ?_ | refine blk_alloc ?_ _)); refine blk_put (cs := #[.string ((rd_T130 l0 x10_1).f0), .int .i64 ((rd_T130 l0 x10_1).f1), .int .i64 ((rd_T130 l0 x10_1).f2), .int .i64 ((rd_T130 l0 x10_1).f3), .int .i64 ((rd_T130 l0 x10_1).f4), .int .i64 ((rd_T130 l0 x10_1).f5), .int .i64 ((rd_T130 l0 x10_1).f6), .int .i64 0, .int .i64 0]) ?_ 7 _ rfl; (with_reducible repeat (first | refine blk_drewN ?_ _ | refine blk_drew ?_ | refine blk_alloc ?_ _)); refine blk_put (cs := #[.string ((rd_T130 l0 x10_1).f0), .int .i64 ((rd_T130 l0 x10_1).f1), .int .i64 ((rd_T130 l0 x10_1).f2), .int .i64 ((rd_T130 l0 x10_1).f3), .int .i64 ((rd_T130 l0 x10_1).f4), .int .i64 ((rd_T130 l0 x10_1).f5), .int .i64 0, .int .i64 0, .int .i64 0]) ?_ 6 _ rfl; (with_reducible repeat (first | refine blk_drewN ?_ _ | refine blk_drew ?_ | refine blk_alloc ?_ _)); refine blk_put (cs := #[.string ((rd_T130 l0 x10_1).f0), .int .i64 ((rd_T130 l0 x10_1).f1), .int .i64 ((rd_T130 l0 x10_1).f2), .int .i64 ((rd_T130 l0 x10_1).f3), .int .i64 ((rd_T130 l0 x10_1).f4), .int .i64 0, .int .i64 0, .int .i64 0, .int .i64 0]) ?_ 5 _ rfl; (with_reducible repeat (first | refine blk_drewN ?_ _ | refine blk_drew ?_ | refine blk_alloc ?_ _)); refine blk_put (cs := #[.string ((rd_T130 l0 x10_1).f0), .int .i64 ((rd_T130 l0 x10_1).f1), .int .i64 ((rd_T130 l0 x10_1).f2), .int .i64 ((rd_T130 l0 x10_1).f3), .int .i64 0, .int .i64 0, .int .i64 0, .int .i64 0, .int .i64 0]) ?_ 4 _ rfl; (with_reducible repeat (first | refine blk_drewN ?_ _ | refine blk_drew ?_ | refine blk_alloc ?_ _)); refine blk_put (cs := #[.string ((rd_T130 l0 x10_1).f0), .int .i64 ((rd_T130 l0 x10_1).f1), .int .i64 ((rd_T130 l0 x10_1).f2), .int .i64 0, .int .i64 0, .int .i64 0, .int .i64 0, .int .i64 0, .int .i64 0]) ?_ 3 _ rfl; (with_reducible repeat (first | refine blk_drewN ?_ _ | refine blk_drew ?_ | refine blk_alloc ?_ _)); refine blk_put (cs := #[.string ((rd_T130 l0 x10_1).f0), .int .i64 ((rd_T130 l0 x10_1).f1), .int .i64 0, .int .i64 0, .int .i64 0, .int .i64 0, .int .i64 0, .int .i64 0, .int .i64 0]) ?_ 2 _ rfl; (with_reducible repeat (first | refine blk_drewN ?_ _ | refine blk_drew ?_ | refine blk_alloc ?_ _)); refine blk_put (cs := #[.string ((rd_T130 l0 x10_1).f0), .int .i64 0, .int .i64 0, .int .i64 0, .int .i64 0, .int .i64 0, .int .i64 0, .int .i64 0, .int .i64 0]) ?_ 1 _ rfl; (with_reducible repeat (first | refine blk_drewN ?_ _ | refine blk_drew ?_ | refine blk_alloc ?_ _)); refine blk_put (cs := #[.string (⟨#[]⟩ : ByteArray), .int .i64 0, .int .i64 0, .int .i64 0, .int .i64 0, .int .i64 0, .int .i64 0, .int .i64 0, .int .i64 0]) ?_ 0 _ rfl; (with_reducible repeat (first | refine blk_drewN ?_ _ | refine blk_drew ?_ | refine blk_alloc ?_ _)); exact BK253.out⟩
        have n1_ : Aside0 (Below w.heap.size w (((((((((w18.setCell ⟨gb253, 0, none⟩ (.string ((rd_T130 l0 x10_1).f0))).setCell ⟨gb253, 1, none⟩ (.int .i64 ((rd_T130 l0 x10_1).f1))).setCell ⟨gb253, 2, none⟩ (.int .i64 ((rd_T130 l0 x10_1).f2))).setCell ⟨gb253, 3, none⟩ (.int .i64 ((rd_T130 l0 x10_1).f3))).setCell ⟨gb253, 4, none⟩ (.int .i64 ((rd_T130 l0 x10_1).f4))).setCell ⟨gb253, 5, none⟩ (.int .i64 ((rd_T130 l0 x10_1).f5))).setCell ⟨gb253, 6, none⟩ (.int .i64 ((rd_T130 l0 x10_1).f6))).setCell ⟨gb253, 7, none⟩ (.int .i64 ((rd_T130 l0 x10_1).f7))).setCell ⟨gb253, 8, none⟩ (.int .i64 ((rd_T130 l0 x10_1).f8)))) := ⟨r0_ HB.out GE253.out⟩
        (try clear BK253)
        (try clear HB)
        generalize (((((((((w18.setCell ⟨gb253, 0, none⟩ (.string ((rd_T130 l0 x10_1).f0))).setCell ⟨gb253, 1, none⟩ (.int .i64 ((rd_T130 l0 x10_1).f1))).setCell ⟨gb253, 2, none⟩ (.int .i64 ((rd_T130 l0 x10_1).f2))).setCell ⟨gb253, 3, none⟩ (.int .i64 ((rd_T130 l0 x10_1).f3))).setCell ⟨gb253, 4, none⟩ (.int .i64 ((rd_T130 l0 x10_1).f4))).setCell ⟨gb253, 5, none⟩ (.int .i64 ((rd_T130 l0 x10_1).f5))).setCell ⟨gb253, 6, none⟩ (.int .i64 ((rd_T130 l0 x10_1).f6))).setCell ⟨gb253, 7, none⟩ (.int .i64 ((rd_T130 l0 x10_1).f7))).setCell ⟨gb253, 8, none⟩ (.int .i64 ((rd_T130 l0 x10_1).f8))) = w20 at n0_ n1_ ⊢
        have BK253 := n0_
        have HB := n1_
        clear n0_ n1_
        replace BK253 := Aside0.mk (blk_drew BK253.out)
        replace HB := Aside0.mk (below_drew1 HB.out)
        have p255 : 0 ≤ ((ji9) : Int) := od_
        have q255 : (ji9) < (l0.length : Int) := od_
        obtain ⟨ad255, e255, hx255_0, hx255_1, hx255_2, hx255_3, hx255_4, hx255_5, hx255_6, hx255_7, hx255_8⟩ := at_T130 HR0.out (ji9) p255 q255
        have hw255_8 := hx255_8
        have hw255_7 := hx255_7
        have hw255_6 := hx255_6
        have hw255_5 := hx255_5
        have hw255_4 := hx255_4
        have hw255_3 := hx255_3
        have hw255_2 := hx255_2
        have hw255_1 := hx255_1
        have hw255_0 := hx255_0
        obtain rfl : ad252 = ad255 := (by injection e255)
        replace hx255_0 := bc_ HB.out hx255_0
        replace hx255_1 := bc_ HB.out hx255_1
        replace hx255_2 := bc_ HB.out hx255_2
        replace hx255_3 := bc_ HB.out hx255_3
        replace hx255_4 := bc_ HB.out hx255_4
        replace hx255_5 := bc_ HB.out hx255_5
        replace hx255_6 := bc_ HB.out hx255_6
        replace hx255_7 := bc_ HB.out hx255_7
        replace hx255_8 := bc_ HB.out hx255_8
        replace p255 := eq_true p255
        replace q255 := eq_true q255
        refine start_ (n := 18) (S := fun w' => w'.cell? ⟨gb253, 0, none⟩ = some (.string ((rd_T130 l0 x10_1).f0)) ∧ w'.cell? ⟨gb253, 1, none⟩ = some (.int .i64 ((rd_T130 l0 x10_1).f1)) ∧ w'.cell? ⟨gb253, 2, none⟩ = some (.int .i64 ((rd_T130 l0 x10_1).f2)) ∧ w'.cell? ⟨gb253, 3, none⟩ = some (.int .i64 ((rd_T130 l0 x10_1).f3)) ∧ w'.cell? ⟨gb253, 4, none⟩ = some (.int .i64 ((rd_T130 l0 x10_1).f4)) ∧ w'.cell? ⟨gb253, 5, none⟩ = some (.int .i64 ((rd_T130 l0 x10_1).f5)) ∧ w'.cell? ⟨gb253, 6, none⟩ = some (.int .i64 ((rd_T130 l0 x10_1).f6)) ∧ w'.cell? ⟨gb253, 7, none⟩ = some (.int .i64 ((rd_T130 l0 x10_1).f7)) ∧ w'.cell? ⟨gb253, 8, none⟩ = some (.int .i64 ((rd_T130 l0 x10_1).f8)) ∧ w'.cell? (ad252.add (((ji9)).toNat * 9)) = some (.string ((rd_T130 l0 (ji9)).f0)) ∧ w'.cell? ⟨(ad252.add (((ji9)).toNat * 9)).block, (ad252.add (((ji9)).toNat * 9)).off + 1, none⟩ = some (.int .i64 ((rd_T130 l0 (ji9)).f1)) ∧ w'.cell? ⟨(ad252.add (((ji9)).toNat * 9)).block, (ad252.add (((ji9)).toNat * 9)).off + 2, none⟩ = some (.int .i64 ((rd_T130 l0 (ji9)).f2)) ∧ w'.cell? ⟨(ad252.add (((ji9)).toNat * 9)).block, (ad252.add (((ji9)).toNat * 9)).off + 3, none⟩ = some (.int .i64 ((rd_T130 l0 (ji9)).f3)) ∧ w'.cell? ⟨(ad252.add (((ji9)).toNat * 9)).block, (ad252.add (((ji9)).toNat * 9)).off + 4, none⟩ = some (.int .i64 ((rd_T130 l0 (ji9)).f4)) ∧ w'.cell? ⟨(ad252.add (((ji9)).toNat * 9)).block, (ad252.add (((ji9)).toNat * 9)).off + 5, none⟩ = some (.int .i64 ((rd_T130 l0 (ji9)).f5)) ∧ w'.cell? ⟨(ad252.add (((ji9)).toNat * 9)).block, (ad252.add (((ji9)).toNat * 9)).off + 6, none⟩ = some (.int .i64 ((rd_T130 l0 (ji9)).f6)) ∧ w'.cell? ⟨(ad252.add (((ji9)).toNat * 9)).block, (ad252.add (((ji9)).toNat * 9)).off + 7, none⟩ = some (.int .i64 ((rd_T130 l0 (ji9)).f7)) ∧ w'.cell? ⟨(ad252.add (((ji9)).toNat * 9)).block, (ad252.add (((ji9)).toNat * 9)).off + 8, none⟩ = some (.int .i64 ((rd_T130 l0 (ji9)).f8))) (ds := []) #[f_,f_,f_,f_,f_,f_,f_,f_,f_,f_,f_,f_,f_,f_,f_,f_,f_,f_] (by kernel_rfl) rfl rfl ⟨(blk_cell BK253.out 0).trans rfl, (blk_cell BK253.out 1).trans rfl, (blk_cell BK253.out 2).trans rfl, (blk_cell BK253.out 3).trans rfl, (blk_cell BK253.out 4).trans rfl, (blk_cell BK253.out 5).trans rfl, (blk_cell BK253.out 6).trans rfl, (blk_cell BK253.out 7).trans rfl, (blk_cell BK253.out 8).trans rfl, (bc_ HB.out hw255_0 :), (bc_ HB.out hw255_1 :), (bc_ HB.out hw255_2 :), (bc_ HB.out hw255_3 :), (bc_ HB.out hw255_4 :), (bc_ HB.out hw255_5 :), (bc_ HB.out hw255_6 :), (bc_ HB.out hw255_7 :), (bc_ HB.out hw255_8 :)⟩ (fun hHeld => ?_); refine with_tabW impl_AreArticles.tab6 impl_AreArticles.bits6 (fun HT_ HW_ => ?_)
        generalize w20.drew = w21 at BK253 HB hx255_0 hx255_1 hx255_2 hx255_3 hx255_4 hx255_5 hx255_6 hx255_7 hx255_8 hHeld ⊢
        refine take_ (i := 0) (N := some 15) (v := ?_) (a' := ?_) #[t_,f_,f_,f_,f_,f_,f_,f_,f_,f_,f_,f_,f_,f_,f_,f_,f_,f_] rfl rfl (take_ofW HT_.out HW_.out (by kernel_rfl)) (fun _ _ _ h => h) (Or.inl ⟨by rfl, ?_⟩) hHeld ?_ ?_
        rotate_left
        ·rintro w' ⟨s0, s1, s2, s3, s4, s5, s6, s7, s8, s9, s10, s11, s12, s13, s14, s15, s16, s17⟩
         go_simp
         with_reducible rfl
        rotate_left
        ·simp only [pz_]
         rfl
        refine one_ (i := 1) (N := some 16) #[t_,t_,f_,f_,f_,f_,f_,f_,f_,f_,f_,f_,f_,f_,f_,f_,f_,f_] rfl rfl (one_of HT_.out (by kernel_rfl)) (by decide) (fun K hK => ?_)
        refine goes_ Try.func164 (by kernel_rfl) rfl #[.agg #[.string ((rd_T130 l0 x10_1).f0), .int .i64 ((rd_T130 l0 x10_1).f1), .int .i64 ((rd_T130 l0 x10_1).f2), .int .i64 ((rd_T130 l0 x10_1).f3), .int .i64 ((rd_T130 l0 x10_1).f4), .int .i64 ((rd_T130 l0 x10_1).f5), .int .i64 ((rd_T130 l0 x10_1).f6), .int .i64 ((rd_T130 l0 x10_1).f7), .int .i64 ((rd_T130 l0 x10_1).f8)]] (by rfl) rfl rfl ag_ ?_
        with_reducible refine (impl_IsArticle.calls k1 ((rd_T130 l0 x10_1).f0) ((rd_T130 l0 x10_1).f1) ((rd_T130 l0 x10_1).f2) ((rd_T130 l0 x10_1).f3) ((rd_T130 l0 x10_1).f4) ((rd_T130 l0 x10_1).f5) ((rd_T130 l0 x10_1).f6) ((rd_T130 l0 x10_1).f7) ((rd_T130 l0 x10_1).f8) true _ A6.out).mono ?_
        rintro e w22 ⟨rfl, hb⟩
        refine ⟨_, rfl, ?_⟩
        replace BK253 := Aside0.mk (blk_below (g := gb253) (o := .cells #[.string ((rd_T130 l0 x10_1).f0), .int .i64 ((rd_T130 l0 x10_1).f1), .int .i64 ((rd_T130 l0 x10_1).f2), .int .i64 ((rd_T130 l0 x10_1).f3), .int .i64 ((rd_T130 l0 x10_1).f4), .int .i64 ((rd_T130 l0 x10_1).f5), .int .i64 ((rd_T130 l0 x10_1).f6), .int .i64 ((rd_T130 l0 x10_1).f7), .int .i64 ((rd_T130 l0 x10_1).f8)] 130 (0, 0)) (r1_ BK253.out) hb)
        replace HB := Aside0.mk (below_step (r0_ HB.out GE253.out) hb)
        (try clear hb)
        (try clear hb2)
        (try clear hk)
        (try clear hi)
        refine hK.out _ _ ⟨(blk_cell BK253.out 0).trans rfl, (blk_cell BK253.out 1).trans rfl, (blk_cell BK253.out 2).trans rfl, (blk_cell BK253.out 3).trans rfl, (blk_cell BK253.out 4).trans rfl, (blk_cell BK253.out 5).trans rfl, (blk_cell BK253.out 6).trans rfl, (blk_cell BK253.out 7).trans rfl, (blk_cell BK253.out 8).trans rfl, (bc_ HB.out hw255_0 :), (bc_ HB.out hw255_1 :), (bc_ HB.out hw255_2 :), (bc_ HB.out hw255_3 :), (bc_ HB.out hw255_4 :), (bc_ HB.out hw255_5 :), (bc_ HB.out hw255_6 :), (bc_ HB.out hw255_7 :), (bc_ HB.out hw255_8 :)⟩ (fun hHeld => ?_)
        clear hK K
        refine norm_ (a' := ?_) ?_ ?_
        rotate_left
        ·show Act.put _ (some 16) _ = _
         simp only [pz_]
         rfl
        refine pu_ 2 17 #[t_,t_,t_,f_,f_,f_,f_,f_,f_,f_,f_,f_,f_,f_,f_,f_,f_,f_] HT_.out ?_
        refine pu_ 3 18 #[t_,t_,t_,t_,f_,f_,f_,f_,f_,f_,f_,f_,f_,f_,f_,f_,f_,f_] HT_.out ?_
        refine pu_ 4 19 #[t_,t_,t_,t_,t_,f_,f_,f_,f_,f_,f_,f_,f_,f_,f_,f_,f_,f_] HT_.out ?_
        refine pu_ 5 20 #[t_,t_,t_,t_,t_,t_,f_,f_,f_,f_,f_,f_,f_,f_,f_,f_,f_,f_] HT_.out ?_
        refine pu_ 6 21 #[t_,t_,t_,t_,t_,t_,t_,f_,f_,f_,f_,f_,f_,f_,f_,f_,f_,f_] HT_.out ?_
        refine pu_ 7 22 #[t_,t_,t_,t_,t_,t_,t_,t_,f_,f_,f_,f_,f_,f_,f_,f_,f_,f_] HT_.out ?_
        refine pu_ 8 23 #[t_,t_,t_,t_,t_,t_,t_,t_,t_,f_,f_,f_,f_,f_,f_,f_,f_,f_] HT_.out ?_
        refine pu_ 9 24 #[t_,t_,t_,t_,t_,t_,t_,t_,t_,t_,f_,f_,f_,f_,f_,f_,f_,f_] HT_.out ?_
        refine pu_ 10 25 #[t_,t_,t_,t_,t_,t_,t_,t_,t_,t_,t_,f_,f_,f_,f_,f_,f_,f_] HT_.out ?_
        refine pu_ 11 26 #[t_,t_,t_,t_,t_,t_,t_,t_,t_,t_,t_,t_,f_,f_,f_,f_,f_,f_] HT_.out ?_
        refine pu_ 13 28 #[t_,t_,t_,t_,t_,t_,t_,t_,t_,t_,t_,t_,f_,t_,f_,f_,f_,f_] HT_.out ?_
        refine take_ (i := 12) (N := some 27) (v := ?_) (a' := ?_) #[t_,t_,t_,t_,t_,t_,t_,t_,t_,t_,t_,t_,t_,t_,f_,f_,f_,f_] rfl rfl (take_ofW HT_.out HW_.out (by kernel_rfl)) (fun _ _ _ h => h) (Or.inl ⟨by rfl, ?_⟩) hHeld ?_ ?_
        rotate_left
        ·rintro w' ⟨s0, s1, s2, s3, s4, s5, s6, s7, s8, s9, s10, s11, s12, s13, s14, s15, s16, s17⟩
         go_simp
         with_reducible rfl
        rotate_left
        ·simp only [pz_]
         rfl
        refine take_ (i := 14) (N := some 29) (v := ?_) (a' := ?_) #[t_,t_,t_,t_,t_,t_,t_,t_,t_,t_,t_,t_,t_,t_,t_,f_,f_,f_] rfl rfl (take_ofW HT_.out HW_.out (by kernel_rfl)) (fun _ _ _ h => h) (Or.inl ⟨by rfl, ?_⟩) hHeld ?_ ?_
        rotate_left
        ·rintro w' ⟨s0, s1, s2, s3, s4, s5, s6, s7, s8, s9, s10, s11, s12, s13, s14, s15, s16, s17⟩
         go_simp
         with_reducible rfl
        rotate_left
        ·simp only [pz_]
         rfl
        refine pu_ 15 30 #[t_,t_,t_,t_,t_,t_,t_,t_,t_,t_,t_,t_,t_,t_,t_,t_,f_,f_] HT_.out ?_
        refine pu_ 16 31 #[t_,t_,t_,t_,t_,t_,t_,t_,t_,t_,t_,t_,t_,t_,t_,t_,t_,f_] HT_.out ?_
        refine pu_ 17 32 #[t_,t_,t_,t_,t_,t_,t_,t_,t_,t_,t_,t_,t_,t_,t_,t_,t_,t_] HT_.out ?_
        refine done_ (done_of HT_.out (by kernel_rfl)) ?_
        try go_wp2
        go_ret
        exact ⟨by first | rfl | (simp [errW_none, errW_some] <;> rfl) | (simp only [← hji9]; first | rfl | (simp [errW_none, errW_some] <;> rfl)) | (simp [*, errW_none, errW_some] <;> rfl), r0_ HB.out GE253.out⟩
      ·rw [if_neg c8] at H
       have c8b0 : decide (0 < x10_1) = false := decide_eq_false c8
       clear c8
       have H' := Aside0.mk H
       clear H
       have p252 : 0 ≤ (x10_1 : Int) := od_
       have q252 : x10_1 < (l0.length : Int) := od_
       obtain ⟨ad252, e252, hx252_0, hx252_1, hx252_2, hx252_3, hx252_4, hx252_5, hx252_6, hx252_7, hx252_8⟩ := at_T130 HR0.out x10_1 p252 q252
       cases e252
       replace hx252_0 := bc_ HB.out hx252_0
       replace hx252_1 := bc_ HB.out hx252_1
       replace hx252_2 := bc_ HB.out hx252_2
       replace hx252_3 := bc_ HB.out hx252_3
       replace hx252_4 := bc_ HB.out hx252_4
       replace hx252_5 := bc_ HB.out hx252_5
       replace hx252_6 := bc_ HB.out hx252_6
       replace hx252_7 := bc_ HB.out hx252_7
       replace hx252_8 := bc_ HB.out hx252_8
       replace p252 := eq_true p252
       replace q252 := eq_true q252
       try go_wp2_with (first | ((with_reducible refine gate_dst (N := 4) rfl ?_); refine box_event ?hg (N := 4) ?hd (cs := #[.string (⟨#[]⟩ : ByteArray), .int .i64 0, .int .i64 0, .int .i64 0, .int .i64 0, .int .i64 0, .int .i64 0, .int .i64 0, .int .i64 0]) (t := 130) ?hr ?_; (case hd => rfl); (case hg => rfl); (case hr => first | (go_simp; done) | (go_simp; rfl)); intro gb253 hg w23 hbox hb; have BK253 := Aside0.mk (hbox); have GW253 := Aside0.mk ((by rw [hg]; exact (below_size (bl_ HB.out)) : w.heap.size ≤ gb253)); have GE253 := Aside0.mk ((by rw [hg]; exact (below_size (bl_ HB.out)) : w.heap.size ≤ gb253)); replace HB := Aside0.mk (below_step (bl_ HB.out) hb); clear hb hbox hg; have hcz24_0 : w23.cell? ⟨gb253, 0, none⟩ = some (.string (⟨#[]⟩ : ByteArray)) := (blk_cell BK253.out 0).trans rfl; have hcz24_1 : w23.cell? ⟨gb253, 1, none⟩ = some (.int .i64 0) := (blk_cell BK253.out 1).trans rfl; have hcz24_2 : w23.cell? ⟨gb253, 2, none⟩ = some (.int .i64 0) := (blk_cell BK253.out 2).trans rfl; have hcz24_3 : w23.cell? ⟨gb253, 3, none⟩ = some (.int .i64 0) := (blk_cell BK253.out 3).trans rfl; have hcz24_4 : w23.cell? ⟨gb253, 4, none⟩ = some (.int .i64 0) := (blk_cell BK253.out 4).trans rfl; have hcz24_5 : w23.cell? ⟨gb253, 5, none⟩ = some (.int .i64 0) := (blk_cell BK253.out 5).trans rfl; have hcz24_6 : w23.cell? ⟨gb253, 6, none⟩ = some (.int .i64 0) := (blk_cell BK253.out 6).trans rfl; have hcz24_7 : w23.cell? ⟨gb253, 7, none⟩ = some (.int .i64 0) := (blk_cell BK253.out 7).trans rfl; have hcz24_8 : w23.cell? ⟨gb253, 8, none⟩ = some (.int .i64 0) := (blk_cell BK253.out 8).trans rfl; have hfz24_0 := blk_frozen BK253.out 0; have hfz24_1 := blk_frozen BK253.out 1; have hfz24_2 := blk_frozen BK253.out 2; have hfz24_3 := blk_frozen BK253.out 3; have hfz24_4 := blk_frozen BK253.out 4; have hfz24_5 := blk_frozen BK253.out 5; have hfz24_6 := blk_frozen BK253.out 6; have hfz24_7 := blk_frozen BK253.out 7; have hfz24_8 := blk_frozen BK253.out 8))
       have n0_ : Aside0 ((((((((((w23.setCell ⟨gb253, 0, none⟩ (.string ((rd_T130 l0 x10_1).f0))).setCell ⟨gb253, 1, none⟩ (.int .i64 ((rd_T130 l0 x10_1).f1))).setCell ⟨gb253, 2, none⟩ (.int .i64 ((rd_T130 l0 x10_1).f2))).setCell ⟨gb253, 3, none⟩ (.int .i64 ((rd_T130 l0 x10_1).f3))).setCell ⟨gb253, 4, none⟩ (.int .i64 ((rd_T130 l0 x10_1).f4))).setCell ⟨gb253, 5, none⟩ (.int .i64 ((rd_T130 l0 x10_1).f5))).setCell ⟨gb253, 6, none⟩ (.int .i64 ((rd_T130 l0 x10_1).f6))).setCell ⟨gb253, 7, none⟩ (.int .i64 ((rd_T130 l0 x10_1).f7))).setCell ⟨gb253, 8, none⟩ (.int .i64 ((rd_T130 l0 x10_1).f8))).heap[gb253]? = some (.cells #[.string ((rd_T130 l0 x10_1).f0), .int .i64 ((rd_T130 l0 x10_1).f1), .int .i64 ((rd_T130 l0 x10_1).f2), .int .i64 ((rd_T130 l0 x10_1).f3), .int .i64 ((rd_T130 l0 x10_1).f4), .int .i64 ((rd_T130 l0 x10_1).f5), .int .i64 ((rd_T130 l0 x10_1).f6), .int .i64 ((rd_T130 l0 x10_1).f7), .int .i64 ((rd_T130 l0 x10_1).f8)] 130 (0, 0))) := ⟨by (with_reducible repeat (first | refine blk_drewN ?_ _ | refine blk_drew ?_ | refine blk_alloc ?_ _)); refine blk_put (cs := #[.string ((rd_T130 l0 x10_1).f0), .int .i64 ((rd_T130 l0 x10_1).f1), .int .i64 ((rd_T130 l0 x10_1).f2), .int .i64 ((rd_T130 l0 x10_1).f3), .int .i64 ((rd_T130 l0 x10_1).f4), .int .i64 ((rd_T130 l0 x10_1).f5), .int .i64 ((rd_T130 l0 x10_1).f6), .int .i64 ((rd_T130 l0 x10_1).f7), .int .i64 0]) ?_ 8 _ rfl; (with_reducible repeat (first | refine blk_drewN ?_ _ | refine blk_drew ?_ | refine blk_alloc ?_ _)); refine blk_put (cs := #[.string ((rd_T130 l0 x10_1).f0), .int .i64 ((rd_T130 l0 x10_1).f1), .int .i64 ((rd_T130 l0 x10_1).f2), .int .i64 ((rd_T130 l0 x10_1).f3), .int .i64 ((rd_T130 l0 x10_1).f4), .int .i64 ((rd_T130 l0 x10_1).f5), .int .i64 ((rd_T130 l0 x10_1).f6), .int .i64 0, .int .i64 0]) ?_ 7 _ rfl; (with_reducible repeat (first | refine blk_drewN ?_ _ | refine blk_drew ?_ | refine blk_alloc ?_ _)); refine blk_put (cs := #[.string ((rd_T130 l0 x10_1).f0), .int .i64 ((rd_T130 l0 x10_1).f1), .int .i64 ((rd_T130 l0 x10_1).f2), .int .i64 ((rd_T130 l0 x10_1).f3), .int .i64 ((rd_T130 l0 x10_1).f4), .int .i64 ((rd_T130 l0 x10_1).f5), .int .i64 0, .int .i64 0, .int .i64 0]) ?_ 6 _ rfl; (with_reducible repeat (first | refine blk_drewN ?_ _ | refine blk_drew ?_ | refine blk_alloc ?_ _)); refine blk_put (cs := #[.string ((rd_T130 l0 x10_1).f0), .int .i64 ((rd_T130 l0 x10_1).f1), .int .i64 ((rd_T130 l0 x10_1).f2), .int .i64 ((rd_T130 l0 x10_1).f3), .int .i64 ((rd_T130 l0 x10_1).f4), .int .i64 0, .int .i64 0, .int .i64 0, .int .i64 0]) ?_ 5 _ rfl; (with_reducible repeat (first | refine blk_drewN ?_ _ | refine blk_drew ?_ | refine blk_alloc ?_ _)); refine blk_put (cs := #[.string ((rd_T130 l0 x10_1).f0), .int .i64 ((rd_T130 l0 x10_1).f1), .int .i64 ((rd_T130 l0 x10_1).f2), .int .i64 ((rd_T130 l0 x10_1).f3), .int .i64 0, .int .i64 0, .int .i64 0, .int .i64 0, .int .i64 0]) ?_ 4 _ rfl; (with_reducible repeat (first | refine blk_drewN ?_ _ | refine blk_drew ?_ | refine blk_alloc ?_ _)); refine blk_put (cs := #[.string ((rd_T130 l0 x10_1).f0), .int .i64 ((rd_T130 l0 x10_1).f1), .int .i64 ((rd_T130 l0 x10_1).f2), .int .i64 0, .int .i64 0, .int .i64 0, .int .i64 0, .int .i64 0, .int .i64 0]) ?_ 3 _ rfl; (with_reducible repeat (first | refine blk_drewN ?_ _ | refine blk_drew ?_ | refine blk_alloc ?_ _)); refine blk_put (cs := #[.string ((rd_T130 l0 x10_1).f0), .int .i64 ((rd_T130 l0 x10_1).f1), .int .i64 0, .int .i64 0, .int .i64 0, .int .i64 0, .int .i64 0, .int .i64 0, .int .i64 0]) ?_ 2 _ rfl; (with_reducible repeat (first | refine blk_drewN ?_ _ | refine blk_drew ?_ | refine blk_alloc ?_ _)); refine blk_put (cs := #[.string ((rd_T130 l0 x10_1).f0), .int .i64 0, .int .i64 0, .int .i64 0, .int .i64 0, .int .i64 0, .int .i64 0, .int .i64 0, .int .i64 0]) ?_ 1 _ rfl; (with_reducible repeat (first | refine blk_drewN ?_ _ | refine blk_drew ?_ | refine blk_alloc ?_ _)); refine blk_put (cs := #[.string (⟨#[]⟩ : ByteArray), .int .i64 0, .int .i64 0, .int .i64 0, .int .i64 0, .int .i64 0, .int .i64 0, .int .i64 0, .int .i64 0]) ?_ 0 _ rfl; (with_reducible repeat (first | refine blk_drewN ?_ _ | refine blk_drew ?_ | refine blk_alloc ?_ _)); exact BK253.out⟩
       have n1_ : Aside0 (Below w.heap.size w (((((((((w23.setCell ⟨gb253, 0, none⟩ (.string ((rd_T130 l0 x10_1).f0))).setCell ⟨gb253, 1, none⟩ (.int .i64 ((rd_T130 l0 x10_1).f1))).setCell ⟨gb253, 2, none⟩ (.int .i64 ((rd_T130 l0 x10_1).f2))).setCell ⟨gb253, 3, none⟩ (.int .i64 ((rd_T130 l0 x10_1).f3))).setCell ⟨gb253, 4, none⟩ (.int .i64 ((rd_T130 l0 x10_1).f4))).setCell ⟨gb253, 5, none⟩ (.int .i64 ((rd_T130 l0 x10_1).f5))).setCell ⟨gb253, 6, none⟩ (.int .i64 ((rd_T130 l0 x10_1).f6))).setCell ⟨gb253, 7, none⟩ (.int .i64 ((rd_T130 l0 x10_1).f7))).setCell ⟨gb253, 8, none⟩ (.int .i64 ((rd_T130 l0 x10_1).f8)))) := ⟨r0_ HB.out GE253.out⟩
       (try clear BK253)
       (try clear HB)
       generalize (((((((((w23.setCell ⟨gb253, 0, none⟩ (.string ((rd_T130 l0 x10_1).f0))).setCell ⟨gb253, 1, none⟩ (.int .i64 ((rd_T130 l0 x10_1).f1))).setCell ⟨gb253, 2, none⟩ (.int .i64 ((rd_T130 l0 x10_1).f2))).setCell ⟨gb253, 3, none⟩ (.int .i64 ((rd_T130 l0 x10_1).f3))).setCell ⟨gb253, 4, none⟩ (.int .i64 ((rd_T130 l0 x10_1).f4))).setCell ⟨gb253, 5, none⟩ (.int .i64 ((rd_T130 l0 x10_1).f5))).setCell ⟨gb253, 6, none⟩ (.int .i64 ((rd_T130 l0 x10_1).f6))).setCell ⟨gb253, 7, none⟩ (.int .i64 ((rd_T130 l0 x10_1).f7))).setCell ⟨gb253, 8, none⟩ (.int .i64 ((rd_T130 l0 x10_1).f8))) = w25 at n0_ n1_ ⊢
       have BK253 := n0_
       have HB := n1_
       clear n0_ n1_
       replace BK253 := Aside0.mk (blk_drew BK253.out)
       replace HB := Aside0.mk (below_drew1 HB.out)
       refine start_ (n := 18) (S := fun w' => w'.cell? ⟨gb253, 0, none⟩ = some (.string ((rd_T130 l0 x10_1).f0)) ∧ w'.cell? ⟨gb253, 1, none⟩ = some (.int .i64 ((rd_T130 l0 x10_1).f1)) ∧ w'.cell? ⟨gb253, 2, none⟩ = some (.int .i64 ((rd_T130 l0 x10_1).f2)) ∧ w'.cell? ⟨gb253, 3, none⟩ = some (.int .i64 ((rd_T130 l0 x10_1).f3)) ∧ w'.cell? ⟨gb253, 4, none⟩ = some (.int .i64 ((rd_T130 l0 x10_1).f4)) ∧ w'.cell? ⟨gb253, 5, none⟩ = some (.int .i64 ((rd_T130 l0 x10_1).f5)) ∧ w'.cell? ⟨gb253, 6, none⟩ = some (.int .i64 ((rd_T130 l0 x10_1).f6)) ∧ w'.cell? ⟨gb253, 7, none⟩ = some (.int .i64 ((rd_T130 l0 x10_1).f7)) ∧ w'.cell? ⟨gb253, 8, none⟩ = some (.int .i64 ((rd_T130 l0 x10_1).f8))) (ds := []) #[f_,f_,f_,f_,f_,f_,f_,f_,f_,f_,f_,f_,f_,f_,f_,f_,f_,f_] (by kernel_rfl) rfl rfl ⟨(blk_cell BK253.out 0).trans rfl, (blk_cell BK253.out 1).trans rfl, (blk_cell BK253.out 2).trans rfl, (blk_cell BK253.out 3).trans rfl, (blk_cell BK253.out 4).trans rfl, (blk_cell BK253.out 5).trans rfl, (blk_cell BK253.out 6).trans rfl, (blk_cell BK253.out 7).trans rfl, (blk_cell BK253.out 8).trans rfl⟩ (fun hHeld => ?_); refine with_tabW impl_AreArticles.tab6 impl_AreArticles.bits6 (fun HT_ HW_ => ?_)
       generalize w25.drew = w26 at BK253 HB hHeld ⊢
       refine take_ (i := 0) (N := some 15) (v := ?_) (a' := ?_) #[t_,f_,f_,f_,f_,f_,f_,f_,f_,f_,f_,f_,f_,f_,f_,f_,f_,f_] rfl rfl (take_ofW HT_.out HW_.out (by kernel_rfl)) (fun _ _ _ h => h) (Or.inl ⟨by rfl, ?_⟩) hHeld ?_ ?_
       rotate_left
       ·rintro w' ⟨s0, s1, s2, s3, s4, s5, s6, s7, s8⟩
        go_simp
        with_reducible rfl
       rotate_left
       ·simp only [pz_]
        rfl
       refine one_ (i := 1) (N := some 16) #[t_,t_,f_,f_,f_,f_,f_,f_,f_,f_,f_,f_,f_,f_,f_,f_,f_,f_] rfl rfl (one_of HT_.out (by kernel_rfl)) (by decide) (fun K hK => ?_)
       refine goes_ Try.func164 (by kernel_rfl) rfl #[.agg #[.string ((rd_T130 l0 x10_1).f0), .int .i64 ((rd_T130 l0 x10_1).f1), .int .i64 ((rd_T130 l0 x10_1).f2), .int .i64 ((rd_T130 l0 x10_1).f3), .int .i64 ((rd_T130 l0 x10_1).f4), .int .i64 ((rd_T130 l0 x10_1).f5), .int .i64 ((rd_T130 l0 x10_1).f6), .int .i64 ((rd_T130 l0 x10_1).f7), .int .i64 ((rd_T130 l0 x10_1).f8)]] (by rfl) rfl rfl ag_ ?_
       with_reducible refine (impl_IsArticle.calls k1 ((rd_T130 l0 x10_1).f0) ((rd_T130 l0 x10_1).f1) ((rd_T130 l0 x10_1).f2) ((rd_T130 l0 x10_1).f3) ((rd_T130 l0 x10_1).f4) ((rd_T130 l0 x10_1).f5) ((rd_T130 l0 x10_1).f6) ((rd_T130 l0 x10_1).f7) ((rd_T130 l0 x10_1).f8) true _ A6.out).mono ?_
       rintro e w27 ⟨rfl, hb⟩
       refine ⟨_, rfl, ?_⟩
       replace BK253 := Aside0.mk (blk_below (g := gb253) (o := .cells #[.string ((rd_T130 l0 x10_1).f0), .int .i64 ((rd_T130 l0 x10_1).f1), .int .i64 ((rd_T130 l0 x10_1).f2), .int .i64 ((rd_T130 l0 x10_1).f3), .int .i64 ((rd_T130 l0 x10_1).f4), .int .i64 ((rd_T130 l0 x10_1).f5), .int .i64 ((rd_T130 l0 x10_1).f6), .int .i64 ((rd_T130 l0 x10_1).f7), .int .i64 ((rd_T130 l0 x10_1).f8)] 130 (0, 0)) (r1_ BK253.out) hb)
       replace HB := Aside0.mk (below_step (r0_ HB.out GE253.out) hb)
       (try clear hb)
       (try clear hb2)
       (try clear hk)
       (try clear hi)
       refine hK.out _ _ ⟨(blk_cell BK253.out 0).trans rfl, (blk_cell BK253.out 1).trans rfl, (blk_cell BK253.out 2).trans rfl, (blk_cell BK253.out 3).trans rfl, (blk_cell BK253.out 4).trans rfl, (blk_cell BK253.out 5).trans rfl, (blk_cell BK253.out 6).trans rfl, (blk_cell BK253.out 7).trans rfl, (blk_cell BK253.out 8).trans rfl⟩ (fun hHeld => ?_)
       clear hK K
       refine norm_ (a' := ?_) ?_ ?_
       rotate_left
       ·show Act.put _ (some 16) _ = _
        simp only [pz_]
        rfl
       refine pu_ 2 17 #[t_,t_,t_,f_,f_,f_,f_,f_,f_,f_,f_,f_,f_,f_,f_,f_,f_,f_] HT_.out ?_
       refine pu_ 3 18 #[t_,t_,t_,t_,f_,f_,f_,f_,f_,f_,f_,f_,f_,f_,f_,f_,f_,f_] HT_.out ?_
       refine pu_ 4 19 #[t_,t_,t_,t_,t_,f_,f_,f_,f_,f_,f_,f_,f_,f_,f_,f_,f_,f_] HT_.out ?_
       refine pu_ 5 20 #[t_,t_,t_,t_,t_,t_,f_,f_,f_,f_,f_,f_,f_,f_,f_,f_,f_,f_] HT_.out ?_
       refine pu_ 6 21 #[t_,t_,t_,t_,t_,t_,t_,f_,f_,f_,f_,f_,f_,f_,f_,f_,f_,f_] HT_.out ?_
       refine un_ 7 22 #[t_,t_,t_,t_,t_,t_,t_,t_,f_,f_,f_,f_,f_,f_,f_,f_,f_,f_] HT_.out ?_
       refine un_ 8 23 #[t_,t_,t_,t_,t_,t_,t_,t_,t_,f_,f_,f_,f_,f_,f_,f_,f_,f_] HT_.out ?_
       refine un_ 9 24 #[t_,t_,t_,t_,t_,t_,t_,t_,t_,t_,f_,f_,f_,f_,f_,f_,f_,f_] HT_.out ?_
       refine un_ 10 25 #[t_,t_,t_,t_,t_,t_,t_,t_,t_,t_,t_,f_,f_,f_,f_,f_,f_,f_] HT_.out ?_
       refine un_ 11 26 #[t_,t_,t_,t_,t_,t_,t_,t_,t_,t_,t_,t_,f_,f_,f_,f_,f_,f_] HT_.out ?_
       refine un_ 12 27 #[t_,t_,t_,t_,t_,t_,t_,t_,t_,t_,t_,t_,t_,f_,f_,f_,f_,f_] HT_.out ?_
       refine un_ 13 28 #[t_,t_,t_,t_,t_,t_,t_,t_,t_,t_,t_,t_,t_,t_,f_,f_,f_,f_] HT_.out ?_
       refine un_ 14 29 #[t_,t_,t_,t_,t_,t_,t_,t_,t_,t_,t_,t_,t_,t_,t_,f_,f_,f_] HT_.out ?_
       refine un_ 15 30 #[t_,t_,t_,t_,t_,t_,t_,t_,t_,t_,t_,t_,t_,t_,t_,t_,f_,f_] HT_.out ?_
       refine pu_ 16 31 #[t_,t_,t_,t_,t_,t_,t_,t_,t_,t_,t_,t_,t_,t_,t_,t_,t_,f_] HT_.out ?_
       refine pu_ 17 32 #[t_,t_,t_,t_,t_,t_,t_,t_,t_,t_,t_,t_,t_,t_,t_,t_,t_,t_] HT_.out ?_
       refine done_ (done_of HT_.out (by kernel_rfl)) ?_
       try go_wp2
       go_roundg k1
       case measure => have := HK1.out; omega
       case rel => exact ⟨(wrap64 (x10_1 + 1)), (by first | rfl | (simp; done) | (simp [*]; done)), H', ⟨by have := HK1.out; omega⟩, ⟨r0_ HB.out GE253.out⟩⟩
     ·replace c7 := Bool.eq_false_iff.mpr c7
      subst c7
      replace H : (some false) = some r := by rw [if_neg (show ¬ (false = true) by decide)] at H; exact H
      obtain rfl := Option.some.inj H
      have p252 : 0 ≤ (x10_1 : Int) := od_
      have q252 : x10_1 < (l0.length : Int) := od_
      obtain ⟨ad252, e252, hx252_0, hx252_1, hx252_2, hx252_3, hx252_4, hx252_5, hx252_6, hx252_7, hx252_8⟩ := at_T130 HR0.out x10_1 p252 q252
      cases e252
      replace hx252_0 := bc_ HB.out hx252_0
      replace hx252_1 := bc_ HB.out hx252_1
      replace hx252_2 := bc_ HB.out hx252_2
      replace hx252_3 := bc_ HB.out hx252_3
      replace hx252_4 := bc_ HB.out hx252_4
      replace hx252_5 := bc_ HB.out hx252_5
      replace hx252_6 := bc_ HB.out hx252_6
      replace hx252_7 := bc_ HB.out hx252_7
      replace hx252_8 := bc_ HB.out hx252_8
      replace p252 := eq_true p252
      replace q252 := eq_true q252
      try go_wp2_with (first | ((with_reducible refine gate_dst (N := 4) rfl ?_); refine box_event ?hg (N := 4) ?hd (cs := #[.string (⟨#[]⟩ : ByteArray), .int .i64 0, .int .i64 0, .int .i64 0, .int .i64 0, .int .i64 0, .int .i64 0, .int .i64 0, .int .i64 0]) (t := 130) ?hr ?_; (case hd => rfl); (case hg => rfl); (case hr => first | (go_simp; done) | (go_simp; rfl)); intro gb253 hg w28 hbox hb; have BK253 := Aside0.mk (hbox); have GW253 := Aside0.mk ((by rw [hg]; exact (below_size (bl_ HB.out)) : w.heap.size ≤ gb253)); have GE253 := Aside0.mk ((by rw [hg]; exact (below_size (bl_ HB.out)) : w.heap.size ≤ gb253)); replace HB := Aside0.mk (below_step (bl_ HB.out) hb); clear hb hbox hg; have hcz29_0 : w28.cell? ⟨gb253, 0, none⟩ = some (.string (⟨#[]⟩ : ByteArray)) := (blk_cell BK253.out 0).trans rfl; have hcz29_1 : w28.cell? ⟨gb253, 1, none⟩ = some (.int .i64 0) := (blk_cell BK253.out 1).trans rfl; have hcz29_2 : w28.cell? ⟨gb253, 2, none⟩ = some (.int .i64 0) := (blk_cell BK253.out 2).trans rfl; have hcz29_3 : w28.cell? ⟨gb253, 3, none⟩ = some (.int .i64 0) := (blk_cell BK253.out 3).trans rfl; have hcz29_4 : w28.cell? ⟨gb253, 4, none⟩ = some (.int .i64 0) := (blk_cell BK253.out 4).trans rfl; have hcz29_5 : w28.cell? ⟨gb253, 5, none⟩ = some (.int .i64 0) := (blk_cell BK253.out 5).trans rfl; have hcz29_6 : w28.cell? ⟨gb253, 6, none⟩ = some (.int .i64 0) := (blk_cell BK253.out 6).trans rfl; have hcz29_7 : w28.cell? ⟨gb253, 7, none⟩ = some (.int .i64 0) := (blk_cell BK253.out 7).trans rfl; have hcz29_8 : w28.cell? ⟨gb253, 8, none⟩ = some (.int .i64 0) := (blk_cell BK253.out 8).trans rfl; have hfz29_0 := blk_frozen BK253.out 0; have hfz29_1 := blk_frozen BK253.out 1; have hfz29_2 := blk_frozen BK253.out 2; have hfz29_3 := blk_frozen BK253.out 3; have hfz29_4 := blk_frozen BK253.out 4; have hfz29_5 := blk_frozen BK253.out 5; have hfz29_6 := blk_frozen BK253.out 6; have hfz29_7 := blk_frozen BK253.out 7; have hfz29_8 := blk_frozen BK253.out 8))
      have n0_ : Aside0 ((((((((((w28.setCell ⟨gb253, 0, none⟩ (.string ((rd_T130 l0 x10_1).f0))).setCell ⟨gb253, 1, none⟩ (.int .i64 ((rd_T130 l0 x10_1).f1))).setCell ⟨gb253, 2, none⟩ (.int .i64 ((rd_T130 l0 x10_1).f2))).setCell ⟨gb253, 3, none⟩ (.int .i64 ((rd_T130 l0 x10_1).f3))).setCell ⟨gb253, 4, none⟩ (.int .i64 ((rd_T130 l0 x10_1).f4))).setCell ⟨gb253, 5, none⟩ (.int .i64 ((rd_T130 l0 x10_1).f5))).setCell ⟨gb253, 6, none⟩ (.int .i64 ((rd_T130 l0 x10_1).f6))).setCell ⟨gb253, 7, none⟩ (.int .i64 ((rd_T130 l0 x10_1).f7))).setCell ⟨gb253, 8, none⟩ (.int .i64 ((rd_T130 l0 x10_1).f8))).heap[gb253]? = some (.cells #[.string ((rd_T130 l0 x10_1).f0), .int .i64 ((rd_T130 l0 x10_1).f1), .int .i64 ((rd_T130 l0 x10_1).f2), .int .i64 ((rd_T130 l0 x10_1).f3), .int .i64 ((rd_T130 l0 x10_1).f4), .int .i64 ((rd_T130 l0 x10_1).f5), .int .i64 ((rd_T130 l0 x10_1).f6), .int .i64 ((rd_T130 l0 x10_1).f7), .int .i64 ((rd_T130 l0 x10_1).f8)] 130 (0, 0))) := ⟨by (with_reducible repeat (first | refine blk_drewN ?_ _ | refine blk_drew ?_ | refine blk_alloc ?_ _)); refine blk_put (cs := #[.string ((rd_T130 l0 x10_1).f0), .int .i64 ((rd_T130 l0 x10_1).f1), .int .i64 ((rd_T130 l0 x10_1).f2), .int .i64 ((rd_T130 l0 x10_1).f3), .int .i64 ((rd_T130 l0 x10_1).f4), .int .i64 ((rd_T130 l0 x10_1).f5), .int .i64 ((rd_T130 l0 x10_1).f6), .int .i64 ((rd_T130 l0 x10_1).f7), .int .i64 0]) ?_ 8 _ rfl; (with_reducible repeat (first | refine blk_drewN ?_ _ | refine blk_drew ?_ | refine blk_alloc ?_ _)); refine blk_put (cs := #[.string ((rd_T130 l0 x10_1).f0), .int .i64 ((rd_T130 l0 x10_1).f1), .int .i64 ((rd_T130 l0 x10_1).f2), .int .i64 ((rd_T130 l0 x10_1).f3), .int .i64 ((rd_T130 l0 x10_1).f4), .int .i64 ((rd_T130 l0 x10_1).f5), .int .i64 ((rd_T130 l0 x10_1).f6), .int .i64 0, .int .i64 0]) ?_ 7 _ rfl; (with_reducible repeat (first | refine blk_drewN ?_ _ | refine blk_drew ?_ | refine blk_alloc ?_ _)); refine blk_put (cs := #[.string ((rd_T130 l0 x10_1).f0), .int .i64 ((rd_T130 l0 x10_1).f1), .int .i64 ((rd_T130 l0 x10_1).f2), .int .i64 ((rd_T130 l0 x10_1).f3), .int .i64 ((rd_T130 l0 x10_1).f4), .int .i64 ((rd_T130 l0 x10_1).f5), .int .i64 0, .int .i64 0, .int .i64 0]) ?_ 6 _ rfl; (with_reducible repeat (first | refine blk_drewN ?_ _ | refine blk_drew ?_ | refine blk_alloc ?_ _)); refine blk_put (cs := #[.string ((rd_T130 l0 x10_1).f0), .int .i64 ((rd_T130 l0 x10_1).f1), .int .i64 ((rd_T130 l0 x10_1).f2), .int .i64 ((rd_T130 l0 x10_1).f3), .int .i64 ((rd_T130 l0 x10_1).f4), .int .i64 0, .int .i64 0, .int .i64 0, .int .i64 0]) ?_ 5 _ rfl; (with_reducible repeat (first | refine blk_drewN ?_ _ | refine blk_drew ?_ | refine blk_alloc ?_ _)); refine blk_put (cs := #[.string ((rd_T130 l0 x10_1).f0), .int .i64 ((rd_T130 l0 x10_1).f1), .int .i64 ((rd_T130 l0 x10_1).f2), .int .i64 ((rd_T130 l0 x10_1).f3), .int .i64 0, .int .i64 0, .int .i64 0, .int .i64 0, .int .i64 0]) ?_ 4 _ rfl; (with_reducible repeat (first | refine blk_drewN ?_ _ | refine blk_drew ?_ | refine blk_alloc ?_ _)); refine blk_put (cs := #[.string ((rd_T130 l0 x10_1).f0), .int .i64 ((rd_T130 l0 x10_1).f1), .int .i64 ((rd_T130 l0 x10_1).f2), .int .i64 0, .int .i64 0, .int .i64 0, .int .i64 0, .int .i64 0, .int .i64 0]) ?_ 3 _ rfl; (with_reducible repeat (first | refine blk_drewN ?_ _ | refine blk_drew ?_ | refine blk_alloc ?_ _)); refine blk_put (cs := #[.string ((rd_T130 l0 x10_1).f0), .int .i64 ((rd_T130 l0 x10_1).f1), .int .i64 0, .int .i64 0, .int .i64 0, .int .i64 0, .int .i64 0, .int .i64 0, .int .i64 0]) ?_ 2 _ rfl; (with_reducible repeat (first | refine blk_drewN ?_ _ | refine blk_drew ?_ | refine blk_alloc ?_ _)); refine blk_put (cs := #[.string ((rd_T130 l0 x10_1).f0), .int .i64 0, .int .i64 0, .int .i64 0, .int .i64 0, .int .i64 0, .int .i64 0, .int .i64 0, .int .i64 0]) ?_ 1 _ rfl; (with_reducible repeat (first | refine blk_drewN ?_ _ | refine blk_drew ?_ | refine blk_alloc ?_ _)); refine blk_put (cs := #[.string (⟨#[]⟩ : ByteArray), .int .i64 0, .int .i64 0, .int .i64 0, .int .i64 0, .int .i64 0, .int .i64 0, .int .i64 0, .int .i64 0]) ?_ 0 _ rfl; (with_reducible repeat (first | refine blk_drewN ?_ _ | refine blk_drew ?_ | refine blk_alloc ?_ _)); exact BK253.out⟩
      have n1_ : Aside0 (Below w.heap.size w (((((((((w28.setCell ⟨gb253, 0, none⟩ (.string ((rd_T130 l0 x10_1).f0))).setCell ⟨gb253, 1, none⟩ (.int .i64 ((rd_T130 l0 x10_1).f1))).setCell ⟨gb253, 2, none⟩ (.int .i64 ((rd_T130 l0 x10_1).f2))).setCell ⟨gb253, 3, none⟩ (.int .i64 ((rd_T130 l0 x10_1).f3))).setCell ⟨gb253, 4, none⟩ (.int .i64 ((rd_T130 l0 x10_1).f4))).setCell ⟨gb253, 5, none⟩ (.int .i64 ((rd_T130 l0 x10_1).f5))).setCell ⟨gb253, 6, none⟩ (.int .i64 ((rd_T130 l0 x10_1).f6))).setCell ⟨gb253, 7, none⟩ (.int .i64 ((rd_T130 l0 x10_1).f7))).setCell ⟨gb253, 8, none⟩ (.int .i64 ((rd_T130 l0 x10_1).f8)))) := ⟨r0_ HB.out GE253.out⟩
      (try clear BK253)
      (try clear HB)
      generalize (((((((((w28.setCell ⟨gb253, 0, none⟩ (.string ((rd_T130 l0 x10_1).f0))).setCell ⟨gb253, 1, none⟩ (.int .i64 ((rd_T130 l0 x10_1).f1))).setCell ⟨gb253, 2, none⟩ (.int .i64 ((rd_T130 l0 x10_1).f2))).setCell ⟨gb253, 3, none⟩ (.int .i64 ((rd_T130 l0 x10_1).f3))).setCell ⟨gb253, 4, none⟩ (.int .i64 ((rd_T130 l0 x10_1).f4))).setCell ⟨gb253, 5, none⟩ (.int .i64 ((rd_T130 l0 x10_1).f5))).setCell ⟨gb253, 6, none⟩ (.int .i64 ((rd_T130 l0 x10_1).f6))).setCell ⟨gb253, 7, none⟩ (.int .i64 ((rd_T130 l0 x10_1).f7))).setCell ⟨gb253, 8, none⟩ (.int .i64 ((rd_T130 l0 x10_1).f8))) = w30 at n0_ n1_ ⊢
      have BK253 := n0_
      have HB := n1_
      clear n0_ n1_
      replace BK253 := Aside0.mk (blk_drew BK253.out)
      replace HB := Aside0.mk (below_drew1 HB.out)
      refine start_ (n := 18) (S := fun w' => w'.cell? ⟨gb253, 0, none⟩ = some (.string ((rd_T130 l0 x10_1).f0)) ∧ w'.cell? ⟨gb253, 1, none⟩ = some (.int .i64 ((rd_T130 l0 x10_1).f1)) ∧ w'.cell? ⟨gb253, 2, none⟩ = some (.int .i64 ((rd_T130 l0 x10_1).f2)) ∧ w'.cell? ⟨gb253, 3, none⟩ = some (.int .i64 ((rd_T130 l0 x10_1).f3)) ∧ w'.cell? ⟨gb253, 4, none⟩ = some (.int .i64 ((rd_T130 l0 x10_1).f4)) ∧ w'.cell? ⟨gb253, 5, none⟩ = some (.int .i64 ((rd_T130 l0 x10_1).f5)) ∧ w'.cell? ⟨gb253, 6, none⟩ = some (.int .i64 ((rd_T130 l0 x10_1).f6)) ∧ w'.cell? ⟨gb253, 7, none⟩ = some (.int .i64 ((rd_T130 l0 x10_1).f7)) ∧ w'.cell? ⟨gb253, 8, none⟩ = some (.int .i64 ((rd_T130 l0 x10_1).f8))) (ds := []) #[f_,f_,f_,f_,f_,f_,f_,f_,f_,f_,f_,f_,f_,f_,f_,f_,f_,f_] (by kernel_rfl) rfl rfl ⟨(blk_cell BK253.out 0).trans rfl, (blk_cell BK253.out 1).trans rfl, (blk_cell BK253.out 2).trans rfl, (blk_cell BK253.out 3).trans rfl, (blk_cell BK253.out 4).trans rfl, (blk_cell BK253.out 5).trans rfl, (blk_cell BK253.out 6).trans rfl, (blk_cell BK253.out 7).trans rfl, (blk_cell BK253.out 8).trans rfl⟩ (fun hHeld => ?_); refine with_tabW impl_AreArticles.tab6 impl_AreArticles.bits6 (fun HT_ HW_ => ?_)
      generalize w30.drew = w31 at BK253 HB hHeld ⊢
      refine take_ (i := 0) (N := some 15) (v := ?_) (a' := ?_) #[t_,f_,f_,f_,f_,f_,f_,f_,f_,f_,f_,f_,f_,f_,f_,f_,f_,f_] rfl rfl (take_ofW HT_.out HW_.out (by kernel_rfl)) (fun _ _ _ h => h) (Or.inl ⟨by rfl, ?_⟩) hHeld ?_ ?_
      rotate_left
      ·rintro w' ⟨s0, s1, s2, s3, s4, s5, s6, s7, s8⟩
       go_simp
       with_reducible rfl
      rotate_left
      ·simp only [pz_]
       rfl
      refine one_ (i := 1) (N := some 16) #[t_,t_,f_,f_,f_,f_,f_,f_,f_,f_,f_,f_,f_,f_,f_,f_,f_,f_] rfl rfl (one_of HT_.out (by kernel_rfl)) (by decide) (fun K hK => ?_)
      refine goes_ Try.func164 (by kernel_rfl) rfl #[.agg #[.string ((rd_T130 l0 x10_1).f0), .int .i64 ((rd_T130 l0 x10_1).f1), .int .i64 ((rd_T130 l0 x10_1).f2), .int .i64 ((rd_T130 l0 x10_1).f3), .int .i64 ((rd_T130 l0 x10_1).f4), .int .i64 ((rd_T130 l0 x10_1).f5), .int .i64 ((rd_T130 l0 x10_1).f6), .int .i64 ((rd_T130 l0 x10_1).f7), .int .i64 ((rd_T130 l0 x10_1).f8)]] (by rfl) rfl rfl ag_ ?_
      with_reducible refine (impl_IsArticle.calls k1 ((rd_T130 l0 x10_1).f0) ((rd_T130 l0 x10_1).f1) ((rd_T130 l0 x10_1).f2) ((rd_T130 l0 x10_1).f3) ((rd_T130 l0 x10_1).f4) ((rd_T130 l0 x10_1).f5) ((rd_T130 l0 x10_1).f6) ((rd_T130 l0 x10_1).f7) ((rd_T130 l0 x10_1).f8) false _ A6.out).mono ?_
      rintro e w32 ⟨rfl, hb⟩
      refine ⟨_, rfl, ?_⟩
      replace BK253 := Aside0.mk (blk_below (g := gb253) (o := .cells #[.string ((rd_T130 l0 x10_1).f0), .int .i64 ((rd_T130 l0 x10_1).f1), .int .i64 ((rd_T130 l0 x10_1).f2), .int .i64 ((rd_T130 l0 x10_1).f3), .int .i64 ((rd_T130 l0 x10_1).f4), .int .i64 ((rd_T130 l0 x10_1).f5), .int .i64 ((rd_T130 l0 x10_1).f6), .int .i64 ((rd_T130 l0 x10_1).f7), .int .i64 ((rd_T130 l0 x10_1).f8)] 130 (0, 0)) (r1_ BK253.out) hb)
      replace HB := Aside0.mk (below_step (r0_ HB.out GE253.out) hb)
      (try clear hb)
      (try clear hb2)
      (try clear hk)
      (try clear hi)
      refine hK.out _ _ ⟨(blk_cell BK253.out 0).trans rfl, (blk_cell BK253.out 1).trans rfl, (blk_cell BK253.out 2).trans rfl, (blk_cell BK253.out 3).trans rfl, (blk_cell BK253.out 4).trans rfl, (blk_cell BK253.out 5).trans rfl, (blk_cell BK253.out 6).trans rfl, (blk_cell BK253.out 7).trans rfl, (blk_cell BK253.out 8).trans rfl⟩ (fun hHeld => ?_)
      clear hK K
      refine norm_ (a' := ?_) ?_ ?_
      rotate_left
      ·show Act.put _ (some 16) _ = _
       simp only [pz_]
       rfl
      refine pu_ 2 17 #[t_,t_,t_,f_,f_,f_,f_,f_,f_,f_,f_,f_,f_,f_,f_,f_,f_,f_] HT_.out ?_
      refine pu_ 3 18 #[t_,t_,t_,t_,f_,f_,f_,f_,f_,f_,f_,f_,f_,f_,f_,f_,f_,f_] HT_.out ?_
      refine un_ 4 19 #[t_,t_,t_,t_,t_,f_,f_,f_,f_,f_,f_,f_,f_,f_,f_,f_,f_,f_] HT_.out ?_
      refine un_ 5 20 #[t_,t_,t_,t_,t_,t_,f_,f_,f_,f_,f_,f_,f_,f_,f_,f_,f_,f_] HT_.out ?_
      refine un_ 6 21 #[t_,t_,t_,t_,t_,t_,t_,f_,f_,f_,f_,f_,f_,f_,f_,f_,f_,f_] HT_.out ?_
      refine un_ 7 22 #[t_,t_,t_,t_,t_,t_,t_,t_,f_,f_,f_,f_,f_,f_,f_,f_,f_,f_] HT_.out ?_
      refine un_ 8 23 #[t_,t_,t_,t_,t_,t_,t_,t_,t_,f_,f_,f_,f_,f_,f_,f_,f_,f_] HT_.out ?_
      refine un_ 9 24 #[t_,t_,t_,t_,t_,t_,t_,t_,t_,t_,f_,f_,f_,f_,f_,f_,f_,f_] HT_.out ?_
      refine un_ 10 25 #[t_,t_,t_,t_,t_,t_,t_,t_,t_,t_,t_,f_,f_,f_,f_,f_,f_,f_] HT_.out ?_
      refine un_ 11 26 #[t_,t_,t_,t_,t_,t_,t_,t_,t_,t_,t_,t_,f_,f_,f_,f_,f_,f_] HT_.out ?_
      refine un_ 12 27 #[t_,t_,t_,t_,t_,t_,t_,t_,t_,t_,t_,t_,t_,f_,f_,f_,f_,f_] HT_.out ?_
      refine un_ 13 28 #[t_,t_,t_,t_,t_,t_,t_,t_,t_,t_,t_,t_,t_,t_,f_,f_,f_,f_] HT_.out ?_
      refine un_ 14 29 #[t_,t_,t_,t_,t_,t_,t_,t_,t_,t_,t_,t_,t_,t_,t_,f_,f_,f_] HT_.out ?_
      refine un_ 15 30 #[t_,t_,t_,t_,t_,t_,t_,t_,t_,t_,t_,t_,t_,t_,t_,t_,f_,f_] HT_.out ?_
      refine un_ 16 31 #[t_,t_,t_,t_,t_,t_,t_,t_,t_,t_,t_,t_,t_,t_,t_,t_,t_,f_] HT_.out ?_
      refine pu_ 17 32 #[t_,t_,t_,t_,t_,t_,t_,t_,t_,t_,t_,t_,t_,t_,t_,t_,t_,t_] HT_.out ?_
      refine done_ (done_of HT_.out (by kernel_rfl)) ?_
      try go_wp2
      go_ret
      exact ⟨by first | rfl | (simp [errW_none, errW_some] <;> rfl) | (simp [*, errW_none, errW_some] <;> rfl), r0_ HB.out GE253.out⟩
    ·rw [if_neg c3] at H
     have c3b0 : decide (x10_1 < (l0.length : Int)) = false := decide_eq_false c3
     clear c3
     obtain rfl := Option.some.inj H
     go_wp2
     go_ret
     exact ⟨by first | rfl | (simp [errW_none, errW_some] <;> rfl) | (simp [*, errW_none, errW_some] <;> rfl), bl_ HB.out⟩
def impl_allWithin.l0 : Nat → Int → Int → List Int → Int → Int → Option (Bool)
  | 0, _, _, _, _, _ => none
  | k + 1, x1, x2, x9, x10, x11 => if x11 < x10 then (if 0 ≤ x11 then (if x11 < (x9.length : Int) then ((impl_within.f (rd x9 x11) x1 x2).bind fun t257 => (if t257 = true then (impl_allWithin.l0 k x1 x2 x9 x10 (wrap64 (x11 + 1))) else (some false))) else (none)) else (none)) else (some true)
def impl_allWithin.f (k : Nat) (l0 : List Int) (a1 : Int) (a2 : Int) : Option (Bool) := impl_allWithin.l0 k a1 a2 l0 (l0.length : Int) 0
set_option maxHeartbeats 8000000 in
set_option maxRecDepth 100000 in
theorem impl_allWithin.calls (k : Nat) (A0 : Option Addr) (c0 : Nat) (l0 : List Int) (a1 : Int) (a2 : Int) (r : Bool) (w : World) (hr0 : Kd.C (Kd.int .i64) w A0 l0.length l0) (hc0 : l0.length ≤ c0) (h : impl_allWithin.f k l0 a1 a2 = some r) :
    Calls Try.prog 144 #[.slice A0 l0.length c0, .int .i64 a1, .int .i64 a2] w fun e w' => e = .returned (.bool r) ∧ Drawn0 w w' := by
  have HR0 := Aside0.mk hr0
  have HC0 := Aside0.mk hc0
  clear hr0 hc0
  have H : (impl_allWithin.l0 k a1 a2 l0 (l0.length : Int) 0) = some r := h
  clear h
  have H' := Aside0.mk H
  clear H
  go_enter Try.func144, Try.ntmps144
  go_wp2
  go_loopg [11] k (fun kq v11 w' => ∃ (x11_1 : Int), v11 = .int .i64 x11_1 ∧ Aside0 (impl_allWithin.l0 kq a1 a2 l0 (l0.length : Int) x11_1 = some r) ∧ Aside0 (kq ≤ k) ∧ Drawn0 w w')
  case atStart => exact ⟨(0), (by first | rfl | (simp; done) | (simp [*]; done)), H', ⟨Nat.le_refl _⟩, by repeat (first | exact Drawn0.refl _ | apply Drawn0.step)⟩
  case round =>
    clear H'
    try clear c1
    try clear p2
    obtain ⟨x11_1, rfl, HA, HK1, ⟨m1, rfl⟩⟩ := hrel
    cases gk with
    | zero => exact absurd HA.out (by simp [impl_allWithin.l0])
    | succ k1 =>
      have H := HA.out
      clear HA
      simp only [impl_allWithin.l0] at H
      by_cases c4 : x11_1 < (l0.length : Int)
      · rw [if_pos c4] at H
        have c4b0 : decide (x11_1 < (l0.length : Int)) = true := decide_eq_true c4
        clear c4
        by_cases c5 : 0 ≤ x11_1
        · rw [if_pos c5] at H
          have c5b0 : decide (0 ≤ x11_1) = true := decide_eq_true c5
          clear c5
          by_cases c6 : x11_1 < (l0.length : Int)
          · rw [if_pos c6] at H
            have c6b0 : decide (x11_1 < (l0.length : Int)) = true := decide_eq_true c6
            clear c6
            replace H := Option.bind_eq_some_iff.mp H
            obtain ⟨t257, A70, H⟩ := H
            replace H : (if t257 = true then (impl_allWithin.l0 k1 a1 a2 l0 (l0.length : Int) (wrap64 (x11_1 + 1))) else (some false)) = some r := H
            have A7 := Aside0.mk A70
            clear A70
            by_cases c8 : t257 = true
            · subst c8
              replace H : (impl_allWithin.l0 k1 a1 a2 l0 (l0.length : Int) (wrap64 (x11_1 + 1))) = some r := by rw [if_pos rfl] at H; exact H
              have H' := Aside0.mk H
              clear H
              have p256 : 0 ≤ (x11_1 : Int) := od_
              have q256 : x11_1 < (l0.length : Int) := od_
              obtain ⟨ad256, e256, hx256_0⟩ := Kd.at_int HR0.out x11_1 p256 q256
              cases e256
              replace p256 := eq_true p256
              replace q256 := eq_true q256
              go_wp2_with (first | ((with_reducible refine gate_callee (f := 78) rfl ?_); refine goesL_ (some 18) rfl rfl Try.func78 (by kernel_rfl) rfl #[.int .i64 (rd l0 x11_1), .int .i64 a1, .int .i64 a2] rfl ag_ ?_; (with_reducible refine (impl_within.calls (rd l0 x11_1) a1 a2 true _ A7.out).mono ?_); rintro e w' ⟨rfl, ⟨nd, rfl⟩⟩; refine ⟨_, rfl, ?_⟩))
              go_roundg k1
              case measure => have := HK1.out; omega
              case rel => exact ⟨(wrap64 (x11_1 + 1)), (by first | rfl | (simp; done) | (simp [*]; done)), H', ⟨by have := HK1.out; omega⟩, by repeat (first | exact Drawn0.refl _ | apply Drawn0.step)⟩
            · replace c8 := Bool.eq_false_iff.mpr c8
              subst c8
              replace H : (some false) = some r := by rw [if_neg (show ¬ (false = true) by decide)] at H; exact H
              obtain rfl := Option.some.inj H
              have p256 : 0 ≤ (x11_1 : Int) := od_
              have q256 : x11_1 < (l0.length : Int) := od_
              obtain ⟨ad256, e256, hx256_0⟩ := Kd.at_int HR0.out x11_1 p256 q256
              cases e256
              replace p256 := eq_true p256
              replace q256 := eq_true q256
              go_wp2_with (first | ((with_reducible refine gate_callee (f := 78) rfl ?_); refine goesL_ (some 18) rfl rfl Try.func78 (by kernel_rfl) rfl #[.int .i64 (rd l0 x11_1), .int .i64 a1, .int .i64 a2] rfl ag_ ?_; (with_reducible refine (impl_within.calls (rd l0 x11_1) a1 a2 false _ A7.out).mono ?_); rintro e w' ⟨rfl, ⟨nd, rfl⟩⟩; refine ⟨_, rfl, ?_⟩))
              go_ret
              exact ⟨by first | rfl | (simp; done) | (simp [*]; done), by repeat (first | exact Drawn0.refl _ | apply Drawn0.step)⟩
          · rw [if_neg c6] at H
            exact absurd H (by simp)
        · rw [if_neg c5] at H
          exact absurd H (by simp)
      · rw [if_neg c4] at H
        have c4b0 : decide (x11_1 < (l0.length : Int)) = false := decide_eq_false c4
        clear c4
        obtain rfl := Option.some.inj H
        go_wp2
        go_ret
        exact ⟨by first | rfl | (simp; done) | (simp [*]; done), by repeat (first | exact Drawn0.refl _ | apply Drawn0.step)⟩
def impl_articleOf.l0 : Nat → ByteArray → List (S130) → Int → Int → Option (Int)
 | 0, _, _, _, _ => none
 | k + 1, x1, x7, x8, x9 => if x9 < x8 then (if 0 ≤ x9 then (if x9 < (x7.length : Int) then (if ((rd_T130 x7 x9).f0).toList = x1.toList then (some x9) else (impl_articleOf.l0 k x1 x7 x8 (wrap64 (x9 + 1)))) else (none)) else (none)) else (some (-1))
def impl_articleOf.f (k : Nat) (l0 : List (S130)) (a1 : ByteArray) : Option (Int) := impl_articleOf.l0 k a1 l0 (l0.length : Int) 0
set_option maxHeartbeats 8000000 in
set_option maxRecDepth 100000 in
theorem impl_articleOf.calls (k : Nat) (A0 : Option Addr) (c0 : Nat) (l0 : List (S130)) (a1 : ByteArray) (r : Int) (w : World) (hr0 : Kd.C k130 w A0 l0.length l0) (hc0 : l0.length ≤ c0) (h : impl_articleOf.f k l0 a1 = some r) :
  Calls Try.prog 145 #[.slice A0 l0.length c0, .string a1] w fun e w' => e = .returned (.int .i64 r) ∧ Below w.heap.size w w' := by
 have hu130 := Try.underlying130
 have HR0 := Aside0.mk hr0
 have HC0 := Aside0.mk hc0
 clear hr0 hc0
 have HB := Aside0.mk (Below.refl w.heap.size w)
 have H : (impl_articleOf.l0 k a1 l0 (l0.length : Int) 0) = some r := h
 clear h
 have H' := Aside0.mk H
 clear H
 go_enter Try.func145, Try.ntmps145
 go_wp2
 go_loopg [9] k (fun kq v9 w' => ∃ (x9_1 : Int), v9 = .int .i64 x9_1 ∧ Aside0 (impl_articleOf.l0 kq a1 l0 (l0.length : Int) x9_1 = some r) ∧ Aside0 (kq ≤ k) ∧ Aside0 (Below w.heap.size w w'))
 case atStart => exact ⟨(0), (by first | rfl | (simp; done) | (simp [*]; done)), H', ⟨Nat.le_refl _⟩, ⟨bl_ HB.out⟩⟩
 case round =>
  clear H'
  try clear c1
  try clear p2
  obtain ⟨x9_1, rfl, HA, HK1, HB⟩ := hrel
  cases gk with
  | zero => exact absurd HA.out (by simp [impl_articleOf.l0])
  | succ k1 =>
   have H := HA.out
   clear HA
   simp only [impl_articleOf.l0] at H
   by_cases c3 : x9_1 < (l0.length : Int)
   ·rw [if_pos c3] at H
    have c3b0 : decide (x9_1 < (l0.length : Int)) = true := decide_eq_true c3
    clear c3
    by_cases c4 : 0 ≤ x9_1
    case neg =>
     rw [if_neg c4] at H
     exact absurd H (by simp)
    rw [if_pos c4] at H
    have c4b0 : decide (0 ≤ x9_1) = true := decide_eq_true c4
    clear c4
    by_cases c5 : x9_1 < (l0.length : Int)
    case neg =>
     rw [if_neg c5] at H
     exact absurd H (by simp)
    rw [if_pos c5] at H
    have c5b0 : decide (x9_1 < (l0.length : Int)) = true := decide_eq_true c5
    clear c5
    by_cases c6 : ((rd_T130 l0 x9_1).f0).toList = a1.toList
    ·rw [if_pos c6] at H
     have c6b0 : (((rd_T130 l0 x9_1).f0).toList == a1.toList) = true := beq_iff_eq.mpr c6
     have c6b1 : (((rd_T130 l0 x9_1).f0).toList != a1.toList) = false := bne_eq_false_iff_eq.mpr c6
     clear c6
     obtain rfl := Option.some.inj H
     have p258 : 0 ≤ (x9_1 : Int) := od_
     have q258 : x9_1 < (l0.length : Int) := od_
     obtain ⟨ad258, e258, hx258_0, hx258_1, hx258_2, hx258_3, hx258_4, hx258_5, hx258_6, hx258_7, hx258_8⟩ := at_T130 HR0.out x9_1 p258 q258
     cases e258
     replace hx258_0 := bc_ HB.out hx258_0
     replace hx258_1 := bc_ HB.out hx258_1
     replace hx258_2 := bc_ HB.out hx258_2
     replace hx258_3 := bc_ HB.out hx258_3
     replace hx258_4 := bc_ HB.out hx258_4
     replace hx258_5 := bc_ HB.out hx258_5
     replace hx258_6 := bc_ HB.out hx258_6
     replace hx258_7 := bc_ HB.out hx258_7
     replace hx258_8 := bc_ HB.out hx258_8
     replace p258 := eq_true p258
     replace q258 := eq_true q258
     go_wp2_with (first | ((with_reducible refine gate_dst (N := 6) rfl ?_); refine box_event ?hg (N := 6) ?hd (cs := #[.string (⟨#[]⟩ : ByteArray), .int .i64 0, .int .i64 0, .int .i64 0, .int .i64 0, .int .i64 0, .int .i64 0, .int .i64 0, .int .i64 0]) (t := 130) ?hr ?_; (case hd => rfl); (case hg => rfl); (case hr => first | (go_simp; done) | (go_simp; rfl)); intro gb259 hg w7 hbox hb; have BK259 := Aside0.mk (hbox); have GW259 := Aside0.mk ((by rw [hg]; exact (below_size (bl_ HB.out)) : w.heap.size ≤ gb259)); have GE259 := Aside0.mk ((by rw [hg]; exact (below_size (bl_ HB.out)) : w.heap.size ≤ gb259)); replace HB := Aside0.mk (below_step (bl_ HB.out) hb); clear hb hbox hg; have hcz8_0 : w7.cell? ⟨gb259, 0, none⟩ = some (.string (⟨#[]⟩ : ByteArray)) := (blk_cell BK259.out 0).trans rfl; have hcz8_1 : w7.cell? ⟨gb259, 1, none⟩ = some (.int .i64 0) := (blk_cell BK259.out 1).trans rfl; have hcz8_2 : w7.cell? ⟨gb259, 2, none⟩ = some (.int .i64 0) := (blk_cell BK259.out 2).trans rfl; have hcz8_3 : w7.cell? ⟨gb259, 3, none⟩ = some (.int .i64 0) := (blk_cell BK259.out 3).trans rfl; have hcz8_4 : w7.cell? ⟨gb259, 4, none⟩ = some (.int .i64 0) := (blk_cell BK259.out 4).trans rfl; have hcz8_5 : w7.cell? ⟨gb259, 5, none⟩ = some (.int .i64 0) := (blk_cell BK259.out 5).trans rfl; have hcz8_6 : w7.cell? ⟨gb259, 6, none⟩ = some (.int .i64 0) := (blk_cell BK259.out 6).trans rfl; have hcz8_7 : w7.cell? ⟨gb259, 7, none⟩ = some (.int .i64 0) := (blk_cell BK259.out 7).trans rfl; have hcz8_8 : w7.cell? ⟨gb259, 8, none⟩ = some (.int .i64 0) := (blk_cell BK259.out 8).trans rfl; have hfz8_0 := blk_frozen BK259.out 0; have hfz8_1 := blk_frozen BK259.out 1; have hfz8_2 := blk_frozen BK259.out 2; have hfz8_3 := blk_frozen BK259.out 3; have hfz8_4 := blk_frozen BK259.out 4; have hfz8_5 := blk_frozen BK259.out 5; have hfz8_6 := blk_frozen BK259.out 6; have hfz8_7 := blk_frozen BK259.out 7; have hfz8_8 := blk_frozen BK259.out 8))
     go_ret
     exact ⟨by first | rfl | (simp [errW_none, errW_some] <;> rfl) | (simp [*, errW_none, errW_some] <;> rfl), r0_ HB.out GE259.out⟩
    ·rw [if_neg c6] at H
     have c6b0 : (((rd_T130 l0 x9_1).f0).toList == a1.toList) = false := beq_eq_false_iff_ne.mpr c6
     have c6b1 : (((rd_T130 l0 x9_1).f0).toList != a1.toList) = true := bne_iff_ne.mpr c6
     have H' := Aside0.mk H
     clear H
     have p258 : 0 ≤ (x9_1 : Int) := od_
     have q258 : x9_1 < (l0.length : Int) := od_
     obtain ⟨ad258, e258, hx258_0, hx258_1, hx258_2, hx258_3, hx258_4, hx258_5, hx258_6, hx258_7, hx258_8⟩ := at_T130 HR0.out x9_1 p258 q258
     cases e258
     replace hx258_0 := bc_ HB.out hx258_0
     replace hx258_1 := bc_ HB.out hx258_1
     replace hx258_2 := bc_ HB.out hx258_2
     replace hx258_3 := bc_ HB.out hx258_3
     replace hx258_4 := bc_ HB.out hx258_4
     replace hx258_5 := bc_ HB.out hx258_5
     replace hx258_6 := bc_ HB.out hx258_6
     replace hx258_7 := bc_ HB.out hx258_7
     replace hx258_8 := bc_ HB.out hx258_8
     replace p258 := eq_true p258
     replace q258 := eq_true q258
     go_wp2_with (first | ((with_reducible refine gate_dst (N := 6) rfl ?_); refine box_event ?hg (N := 6) ?hd (cs := #[.string (⟨#[]⟩ : ByteArray), .int .i64 0, .int .i64 0, .int .i64 0, .int .i64 0, .int .i64 0, .int .i64 0, .int .i64 0, .int .i64 0]) (t := 130) ?hr ?_; (case hd => rfl); (case hg => rfl); (case hr => first | (go_simp; done) | (go_simp; rfl)); intro gb259 hg w9 hbox hb; have BK259 := Aside0.mk (hbox); have GW259 := Aside0.mk ((by rw [hg]; exact (below_size (bl_ HB.out)) : w.heap.size ≤ gb259)); have GE259 := Aside0.mk ((by rw [hg]; exact (below_size (bl_ HB.out)) : w.heap.size ≤ gb259)); replace HB := Aside0.mk (below_step (bl_ HB.out) hb); clear hb hbox hg; have hcz10_0 : w9.cell? ⟨gb259, 0, none⟩ = some (.string (⟨#[]⟩ : ByteArray)) := (blk_cell BK259.out 0).trans rfl; have hcz10_1 : w9.cell? ⟨gb259, 1, none⟩ = some (.int .i64 0) := (blk_cell BK259.out 1).trans rfl; have hcz10_2 : w9.cell? ⟨gb259, 2, none⟩ = some (.int .i64 0) := (blk_cell BK259.out 2).trans rfl; have hcz10_3 : w9.cell? ⟨gb259, 3, none⟩ = some (.int .i64 0) := (blk_cell BK259.out 3).trans rfl; have hcz10_4 : w9.cell? ⟨gb259, 4, none⟩ = some (.int .i64 0) := (blk_cell BK259.out 4).trans rfl; have hcz10_5 : w9.cell? ⟨gb259, 5, none⟩ = some (.int .i64 0) := (blk_cell BK259.out 5).trans rfl; have hcz10_6 : w9.cell? ⟨gb259, 6, none⟩ = some (.int .i64 0) := (blk_cell BK259.out 6).trans rfl; have hcz10_7 : w9.cell? ⟨gb259, 7, none⟩ = some (.int .i64 0) := (blk_cell BK259.out 7).trans rfl; have hcz10_8 : w9.cell? ⟨gb259, 8, none⟩ = some (.int .i64 0) := (blk_cell BK259.out 8).trans rfl; have hfz10_0 := blk_frozen BK259.out 0; have hfz10_1 := blk_frozen BK259.out 1; have hfz10_2 := blk_frozen BK259.out 2; have hfz10_3 := blk_frozen BK259.out 3; have hfz10_4 := blk_frozen BK259.out 4; have hfz10_5 := blk_frozen BK259.out 5; have hfz10_6 := blk_frozen BK259.out 6; have hfz10_7 := blk_frozen BK259.out 7; have hfz10_8 := blk_frozen BK259.out 8))
     go_roundg k1
     case measure => have := HK1.out; omega
     case rel => exact ⟨(wrap64 (x9_1 + 1)), (by first | rfl | (simp; done) | (simp [*]; done)), H', ⟨by have := HK1.out; omega⟩, ⟨r0_ HB.out GE259.out⟩⟩
   ·rw [if_neg c3] at H
    have c3b0 : decide (x9_1 < (l0.length : Int)) = false := decide_eq_false c3
    clear c3
    obtain rfl := Option.some.inj H
    go_wp2
    go_ret
    exact ⟨by first | rfl | (simp [errW_none, errW_some] <;> rfl) | (simp [*, errW_none, errW_some] <;> rfl), bl_ HB.out⟩
def impl_fits.f (a0_0 : ByteArray) (a0_1 : Int) (a0_2 : Int) (a0_3 : Int) (a0_4 : Int) (a0_5 : Int) (a0_6 : Int) (a0_7 : Int) (a0_8 : Int) (a1 : Int) : Option (Bool) := if a0_2 ≤ a1 then (some (decide ((wrap64 (10 * a0_2)) > (wrap64 (9 * a1))))) else (some false)
set_option maxHeartbeats 8000000 in
set_option maxRecDepth 100000 in
theorem impl_fits.calls (a0_0 : ByteArray) (a0_1 : Int) (a0_2 : Int) (a0_3 : Int) (a0_4 : Int) (a0_5 : Int) (a0_6 : Int) (a0_7 : Int) (a0_8 : Int) (a1 : Int) (r : Bool) (w : World) (h : impl_fits.f a0_0 a0_1 a0_2 a0_3 a0_4 a0_5 a0_6 a0_7 a0_8 a1 = some r) :
    Calls Try.prog 146 #[.agg #[.string a0_0, .int .i64 a0_1, .int .i64 a0_2, .int .i64 a0_3, .int .i64 a0_4, .int .i64 a0_5, .int .i64 a0_6, .int .i64 a0_7, .int .i64 a0_8], .int .i64 a1] w fun e w' => e = .returned (.bool r) ∧ Below w.heap.size w w' := by
  have hu130 := Try.underlying130
  have HB := Aside0.mk (Below.refl w.heap.size w)
  have H : (if a0_2 ≤ a1 then (some (decide ((wrap64 (10 * a0_2)) > (wrap64 (9 * a1))))) else (some false)) = some r := h
  clear h
  by_cases c3 : a0_2 ≤ a1
  · rw [if_pos c3] at H
    have c3b0 : decide (a0_2 ≤ a1) = true := decide_eq_true c3
    clear c3
    obtain rfl := Option.some.inj H
    go_enter Try.func146, Try.ntmps146
    go_wp2_with (first | ((with_reducible refine gate_dst (N := 2) rfl ?_); refine box_event ?hg (N := 2) ?hd (cs := #[.string a0_0, .int .i64 a0_1, .int .i64 a0_2, .int .i64 a0_3, .int .i64 a0_4, .int .i64 a0_5, .int .i64 a0_6, .int .i64 a0_7, .int .i64 a0_8]) (t := 130) ?hr ?_; (case hd => rfl); (case hg => rfl); (case hr => first | (go_simp; done) | (go_simp; rfl)); intro gb260 hg w4 hbox hb; have BK260 := Aside0.mk (hbox); have GW260 := Aside0.mk ((by rw [hg]; exact (below_size (bl_ HB.out)) : w.heap.size ≤ gb260)); have GE260 := Aside0.mk ((by rw [hg]; exact (below_size (bl_ HB.out)) : w.heap.size ≤ gb260)); replace HB := Aside0.mk (below_step (bl_ HB.out) hb); clear hb hbox hg; have hcz5_0 : w4.cell? ⟨gb260, 0, none⟩ = some (.string a0_0) := (blk_cell BK260.out 0).trans rfl; have hcz5_1 : w4.cell? ⟨gb260, 1, none⟩ = some (.int .i64 a0_1) := (blk_cell BK260.out 1).trans rfl; have hcz5_2 : w4.cell? ⟨gb260, 2, none⟩ = some (.int .i64 a0_2) := (blk_cell BK260.out 2).trans rfl; have hcz5_3 : w4.cell? ⟨gb260, 3, none⟩ = some (.int .i64 a0_3) := (blk_cell BK260.out 3).trans rfl; have hcz5_4 : w4.cell? ⟨gb260, 4, none⟩ = some (.int .i64 a0_4) := (blk_cell BK260.out 4).trans rfl; have hcz5_5 : w4.cell? ⟨gb260, 5, none⟩ = some (.int .i64 a0_5) := (blk_cell BK260.out 5).trans rfl; have hcz5_6 : w4.cell? ⟨gb260, 6, none⟩ = some (.int .i64 a0_6) := (blk_cell BK260.out 6).trans rfl; have hcz5_7 : w4.cell? ⟨gb260, 7, none⟩ = some (.int .i64 a0_7) := (blk_cell BK260.out 7).trans rfl; have hcz5_8 : w4.cell? ⟨gb260, 8, none⟩ = some (.int .i64 a0_8) := (blk_cell BK260.out 8).trans rfl; have hfz5_0 := blk_frozen BK260.out 0; have hfz5_1 := blk_frozen BK260.out 1; have hfz5_2 := blk_frozen BK260.out 2; have hfz5_3 := blk_frozen BK260.out 3; have hfz5_4 := blk_frozen BK260.out 4; have hfz5_5 := blk_frozen BK260.out 5; have hfz5_6 := blk_frozen BK260.out 6; have hfz5_7 := blk_frozen BK260.out 7; have hfz5_8 := blk_frozen BK260.out 8))
    go_ret
    exact ⟨by first | rfl | (simp [errW_none, errW_some] <;> rfl) | (simp [*, errW_none, errW_some] <;> rfl), r0_ HB.out GE260.out⟩
  · rw [if_neg c3] at H
    have c3b0 : decide (a0_2 ≤ a1) = false := decide_eq_false c3
    clear c3
    obtain rfl := Option.some.inj H
    go_enter Try.func146, Try.ntmps146
    go_wp2_with (first | ((with_reducible refine gate_dst (N := 2) rfl ?_); refine box_event ?hg (N := 2) ?hd (cs := #[.string a0_0, .int .i64 a0_1, .int .i64 a0_2, .int .i64 a0_3, .int .i64 a0_4, .int .i64 a0_5, .int .i64 a0_6, .int .i64 a0_7, .int .i64 a0_8]) (t := 130) ?hr ?_; (case hd => rfl); (case hg => rfl); (case hr => first | (go_simp; done) | (go_simp; rfl)); intro gb260 hg w6 hbox hb; have BK260 := Aside0.mk (hbox); have GW260 := Aside0.mk ((by rw [hg]; exact (below_size (bl_ HB.out)) : w.heap.size ≤ gb260)); have GE260 := Aside0.mk ((by rw [hg]; exact (below_size (bl_ HB.out)) : w.heap.size ≤ gb260)); replace HB := Aside0.mk (below_step (bl_ HB.out) hb); clear hb hbox hg; have hcz7_0 : w6.cell? ⟨gb260, 0, none⟩ = some (.string a0_0) := (blk_cell BK260.out 0).trans rfl; have hcz7_1 : w6.cell? ⟨gb260, 1, none⟩ = some (.int .i64 a0_1) := (blk_cell BK260.out 1).trans rfl; have hcz7_2 : w6.cell? ⟨gb260, 2, none⟩ = some (.int .i64 a0_2) := (blk_cell BK260.out 2).trans rfl; have hcz7_3 : w6.cell? ⟨gb260, 3, none⟩ = some (.int .i64 a0_3) := (blk_cell BK260.out 3).trans rfl; have hcz7_4 : w6.cell? ⟨gb260, 4, none⟩ = some (.int .i64 a0_4) := (blk_cell BK260.out 4).trans rfl; have hcz7_5 : w6.cell? ⟨gb260, 5, none⟩ = some (.int .i64 a0_5) := (blk_cell BK260.out 5).trans rfl; have hcz7_6 : w6.cell? ⟨gb260, 6, none⟩ = some (.int .i64 a0_6) := (blk_cell BK260.out 6).trans rfl; have hcz7_7 : w6.cell? ⟨gb260, 7, none⟩ = some (.int .i64 a0_7) := (blk_cell BK260.out 7).trans rfl; have hcz7_8 : w6.cell? ⟨gb260, 8, none⟩ = some (.int .i64 a0_8) := (blk_cell BK260.out 8).trans rfl; have hfz7_0 := blk_frozen BK260.out 0; have hfz7_1 := blk_frozen BK260.out 1; have hfz7_2 := blk_frozen BK260.out 2; have hfz7_3 := blk_frozen BK260.out 3; have hfz7_4 := blk_frozen BK260.out 4; have hfz7_5 := blk_frozen BK260.out 5; have hfz7_6 := blk_frozen BK260.out 6; have hfz7_7 := blk_frozen BK260.out 7; have hfz7_8 := blk_frozen BK260.out 8))
    go_ret
    exact ⟨by first | rfl | (simp [errW_none, errW_some] <;> rfl) | (simp [*, errW_none, errW_some] <;> rfl), r0_ HB.out GE260.out⟩
end Go.Proofs.Ytalcbcelalbhiaa.PFnExactRackNet
