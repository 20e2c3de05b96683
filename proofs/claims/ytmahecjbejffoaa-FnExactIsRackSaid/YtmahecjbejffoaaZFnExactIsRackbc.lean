/- QFnExactIsRackf of the law FnExactIsRack: taken over, declaration by declaration, as far as the law leans on it (the words and the printed functions are the kit's own print). No condition but what each says. -/
import Derived.Test.YtmahecjbejffoaaZFnExactIsRackav
import Derived.Test.YtmahecjbejffoaaZFnExactIsRackaw
import Derived.Test.YtmahecjbejffoaaZFnExactIsRackbb
namespace Go.Proofs.Ytmahecjbejffoaa.PFnExactIsRack
open Go.RowKit Go.Proofs.YtmahecjbejffoaaW.PrintWords Go.Proofs.YtmahecjbejffoaaW.PrintLast Go.Proofs.YtmahecjbejffoaaW.PrintMore
attribute [local go_sem] max2_int min2_int max_two min_two max_three min_three max_four min_four   -- for this text's walks alone
set_option linter.unusedVariables false
set_option linter.unusedSimpArgs false
open Bool renaming true → t_, false → f_
def impl_articleOf.l0 : Nat → ByteArray → List (S177) → Int → Int → Option (Int)
 | 0, _, _, _, _ => none
 | k + 1, x1, x7, x8, x9 => if x9 < x8 then (if 0 ≤ x9 then (if x9 < (x7.length : Int) then (if ((rd_T177 x7 x9).f0).toList = x1.toList then (some x9) else (impl_articleOf.l0 k x1 x7 x8 (wrap64 (x9 + 1)))) else (none)) else (none)) else (some (-1))
def impl_articleOf.f (k : Nat) (l0 : List (S177)) (a1 : ByteArray) : Option (Int) := impl_articleOf.l0 k a1 l0 (l0.length : Int) 0
set_option maxHeartbeats 8000000 in
set_option maxRecDepth 100000 in
theorem impl_articleOf.calls (k : Nat) (A0 : Option Addr) (c0 : Nat) (l0 : List (S177)) (a1 : ByteArray) (r : Int) (w : World) (hr0 : Kd.C k177 w A0 l0.length l0) (hc0 : l0.length ≤ c0) (h : impl_articleOf.f k l0 a1 = some r) :
  Calls Try.prog 172 #[.slice A0 l0.length c0, .string a1] w fun e w' => e = .returned (.int .i64 r) ∧ Below w.heap.size w w' := by
 have hu177 := Try.underlying177
 have HR0 := Aside0.mk hr0
 have HC0 := Aside0.mk hc0
 clear hr0 hc0
 have HB := Aside0.mk (Below.refl w.heap.size w)
 have H : (impl_articleOf.l0 k a1 l0 (l0.length : Int) 0) = some r := h
 clear h
 have H' := Aside0.mk H
 clear H
 go_enter Try.func172, Try.ntmps172
 go_wp2
 go_loopg [9] k (fun kq v9 w' => ∃ (x9_1 : Int), v9 = .int .i64 x9_1 ∧ Aside0 (impl_articleOf.l0 kq a1 l0 (l0.length : Int) x9_1 = some r) ∧ Aside0 (kq ≤ k) ∧ Aside0 (Below w.heap.size w w'))
 case atStart => exact ⟨(0), (by first | rfl | (simp; done) | (simp [*]; done)), H', ⟨Nat.le_refl _⟩, ⟨bl_ HB.out⟩⟩
 case round =>
  clear H'
  try clear c1
  try clear p2
  obtain ⟨x9_1, rfl, HA, HK1, HB⟩ := hrel
  cases gk with
  | zero => exact absurd HA.out (by simp [impl_articleOf.l0])
  | succ k1 =>
   have H := HA.out
   clear HA
   simp only [impl_articleOf.l0] at H
   by_cases c3 : x9_1 < (l0.length : Int)
   ·rw [if_pos c3] at H
    have c3b0 : decide (x9_1 < (l0.length : Int)) = true := decide_eq_true c3
    clear c3
    by_cases c4 : 0 ≤ x9_1
    case neg =>
     rw [if_neg c4] at H
     exact absurd H (by simp)
    rw [if_pos c4] at H
    have c4b0 : decide (0 ≤ x9_1) = true := decide_eq_true c4
    clear c4
    by_cases c5 : x9_1 < (l0.length : Int)
    case neg =>
     rw [if_neg c5] at H
     exact absurd H (by simp)
    rw [if_pos c5] at H
    have c5b0 : decide (x9_1 < (l0.length : Int)) = true := decide_eq_true c5
    clear c5
    by_cases c6 : ((rd_T177 l0 x9_1).f0).toList = a1.toList
    ·rw [if_pos c6] at H
     have c6b0 : (((rd_T177 l0 x9_1).f0).toList == a1.toList) = true := beq_iff_eq.mpr c6
     have c6b1 : (((rd_T177 l0 x9_1).f0).toList != a1.toList) = false := bne_eq_false_iff_eq.mpr c6
     clear c6
     obtain rfl := Option.some.inj H
     have p218 : 0 ≤ (x9_1 : Int) := od_
     have q218 : x9_1 < (l0.length : Int) := od_
     obtain ⟨ad218, e218, hx218_0, hx218_1, hx218_2, hx218_3, hx218_4, hx218_5, hx218_6, hx218_7, hx218_8⟩ := at_T177 HR0.out x9_1 p218 q218
     cases e218
     replace hx218_0 := bc_ HB.out hx218_0
     replace hx218_1 := bc_ HB.out hx218_1
     replace hx218_2 := bc_ HB.out hx218_2
     replace hx218_3 := bc_ HB.out hx218_3
     replace hx218_4 := bc_ HB.out hx218_4
     replace hx218_5 := bc_ HB.out hx218_5
     replace hx218_6 := bc_ HB.out hx218_6
     replace hx218_7 := bc_ HB.out hx218_7
     replace hx218_8 := bc_ HB.out hx218_8
     replace p218 := eq_true p218
     replace q218 := eq_true q218
     go_wp2_with (first | ((with_reducible refine gate_dst (N := 6) rfl ?_); refine box_event ?hg (N := 6) ?hd (cs := #[.string (⟨#[]⟩ : ByteArray), .int .i64 0, .int .i64 0, .int .i64 0, .int .i64 0, .int .i64 0, .int .i64 0, .int .i64 0, .int .i64 0]) (t := 177) ?hr ?_; (case hd => rfl); (case hg => rfl); (case hr => first | (go_simp; done) | (go_simp; rfl)); intro gb219 hg w7 hbox hb; have BK219 := Aside0.mk (hbox); have GW219 := Aside0.mk ((by rw [hg]; exact (below_size (bl_ HB.out)) : w.heap.size ≤ gb219)); have GE219 := Aside0.mk ((by rw [hg]; exact (below_size (bl_ HB.out)) : w.heap.size ≤ gb219)); replace HB := Aside0.mk (below_step (bl_ HB.out) hb); clear hb hbox hg; have hcz8_0 : w7.cell? ⟨gb219, 0, none⟩ = some (.string (⟨#[]⟩ : ByteArray)) := (blk_cell BK219.out 0).trans rfl; have hcz8_1 : w7.cell? ⟨gb219, 1, none⟩ = some (.int .i64 0) := (blk_cell BK219.out 1).trans rfl; have hcz8_2 : w7.cell? ⟨gb219, 2, none⟩ = some (.int .i64 0) := (blk_cell BK219.out 2).trans rfl; have hcz8_3 : w7.cell? ⟨gb219, 3, none⟩ = some (.int .i64 0) := (blk_cell BK219.out 3).trans rfl; have hcz8_4 : w7.cell? ⟨gb219, 4, none⟩ = some (.int .i64 0) := (blk_cell BK219.out 4).trans rfl; have hcz8_5 : w7.cell? ⟨gb219, 5, none⟩ = some (.int .i64 0) := (blk_cell BK219.out 5).trans rfl; have hcz8_6 : w7.cell? ⟨gb219, 6, none⟩ = some (.int .i64 0) := (blk_cell BK219.out 6).trans rfl; have hcz8_7 : w7.cell? ⟨gb219, 7, none⟩ = some (.int .i64 0) := (blk_cell BK219.out 7).trans rfl; have hcz8_8 : w7.cell? ⟨gb219, 8, none⟩ = some (.int .i64 0) := (blk_cell BK219.out 8).trans rfl; have hfz8_0 := blk_frozen BK219.out 0; have hfz8_1 := blk_frozen BK219.out 1; have hfz8_2 := blk_frozen BK219.out 2; have hfz8_3 := blk_frozen BK219.out 3; have hfz8_4 := blk_frozen BK219.out 4; have hfz8_5 := blk_frozen BK219.out 5; have hfz8_6 := blk_frozen BK219.out 6; have hfz8_7 := blk_frozen BK219.out 7; have hfz8_8 := blk_frozen BK219.out 8))
     go_ret
     exact ⟨by first | rfl | (simp [errW_none, errW_some] <;> rfl) | (simp [*, errW_none, errW_some] <;> rfl), r0_ HB.out GE219.out⟩
    ·rw [if_neg c6] at H
     have c6b0 : (((rd_T177 l0 x9_1).f0).toList == a1.toList) = false := beq_eq_false_iff_ne.mpr c6
     have c6b1 : (((rd_T177 l0 x9_1).f0).toList != a1.toList) = true := bne_iff_ne.mpr c6
     have H' := Aside0.mk H
     clear H
     have p218 : 0 ≤ (x9_1 : Int) := od_
     have q218 : x9_1 < (l0.length : Int) := od_
     obtain ⟨ad218, e218, hx218_0, hx218_1, hx218_2, hx218_3, hx218_4, hx218_5, hx218_6, hx218_7, hx218_8⟩ := at_T177 HR0.out x9_1 p218 q218
     cases e218
     replace hx218_0 := bc_ HB.out hx218_0
     replace hx218_1 := bc_ HB.out hx218_1
     replace hx218_2 := bc_ HB.out hx218_2
     replace hx218_3 := bc_ HB.out hx218_3
     replace hx218_4 := bc_ HB.out hx218_4
     replace hx218_5 := bc_ HB.out hx218_5
     replace hx218_6 := bc_ HB.out hx218_6
     replace hx218_7 := bc_ HB.out hx218_7
     replace hx218_8 := bc_ HB.out hx218_8
     replace p218 := eq_true p218
     replace q218 := eq_true q218
     go_wp2_with (first | ((with_reducible refine gate_dst (N := 6) rfl ?_); refine box_event ?hg (N := 6) ?hd (cs := #[.string (⟨#[]⟩ : ByteArray), .int .i64 0, .int .i64 0, .int .i64 0, .int .i64 0, .int .i64 0, .int .i64 0, .int .i64 0, .int .i64 0]) (t := 177) ?hr ?_; (case hd => rfl); (case hg => rfl); (case hr => first | (go_simp; done) | (go_simp; rfl)); intro gb219 hg w9 hbox hb; have BK219 := Aside0.mk (hbox); have GW219 := Aside0.mk ((by rw [hg]; exact (below_size (bl_ HB.out)) : w.heap.size ≤ gb219)); have GE219 := Aside0.mk ((by rw [hg]; exact (below_size (bl_ HB.out)) : w.heap.size ≤ gb219)); replace HB := Aside0.mk (below_step (bl_ HB.out) hb); clear hb hbox hg; have hcz10_0 : w9.cell? ⟨gb219, 0, none⟩ = some (.string (⟨#[]⟩ : ByteArray)) := (blk_cell BK219.out 0).trans rfl; have hcz10_1 : w9.cell? ⟨gb219, 1, none⟩ = some (.int .i64 0) := (blk_cell BK219.out 1).trans rfl; have hcz10_2 : w9.cell? ⟨gb219, 2, none⟩ = some (.int .i64 0) := (blk_cell BK219.out 2).trans rfl; have hcz10_3 : w9.cell? ⟨gb219, 3, none⟩ = some (.int .i64 0) := (blk_cell BK219.out 3).trans rfl; have hcz10_4 : w9.cell? ⟨gb219, 4, none⟩ = some (.int .i64 0) := (blk_cell BK219.out 4).trans rfl; have hcz10_5 : w9.cell? ⟨gb219, 5, none⟩ = some (.int .i64 0) := (blk_cell BK219.out 5).trans rfl; have hcz10_6 : w9.cell? ⟨gb219, 6, none⟩ = some (.int .i64 0) := (blk_cell BK219.out 6).trans rfl; have hcz10_7 : w9.cell? ⟨gb219, 7, none⟩ = some (.int .i64 0) := (blk_cell BK219.out 7).trans rfl; have hcz10_8 : w9.cell? ⟨gb219, 8, none⟩ = some (.int .i64 0) := (blk_cell BK219.out 8).trans rfl; have hfz10_0 := blk_frozen BK219.out 0; have hfz10_1 := blk_frozen BK219.out 1; have hfz10_2 := blk_frozen BK219.out 2; have hfz10_3 := blk_frozen BK219.out 3; have hfz10_4 := blk_frozen BK219.out 4; have hfz10_5 := blk_frozen BK219.out 5; have hfz10_6 := blk_frozen BK219.out 6; have hfz10_7 := blk_frozen BK219.out 7; have hfz10_8 := blk_frozen BK219.out 8))
     go_roundg k1
     case measure => have := HK1.out; omega
     case rel => exact ⟨(wrap64 (x9_1 + 1)), (by first | rfl | (simp; done) | (simp [*]; done)), H', ⟨by have := HK1.out; omega⟩, ⟨r0_ HB.out GE219.out⟩⟩
   ·rw [if_neg c3] at H
    have c3b0 : decide (x9_1 < (l0.length : Int)) = false := decide_eq_false c3
    clear c3
    obtain rfl := Option.some.inj H
    go_wp2
    go_ret
    exact ⟨by first | rfl | (simp [errW_none, errW_some] <;> rfl) | (simp [*, errW_none, errW_some] <;> rfl), bl_ HB.out⟩
def impl_fits.f (a0_0 : ByteArray) (a0_1 : Int) (a0_2 : Int) (a0_3 : Int) (a0_4 : Int) (a0_5 : Int) (a0_6 : Int) (a0_7 : Int) (a0_8 : Int) (a1 : Int) : Option (Bool) := if a0_2 ≤ a1 then (some (decide ((wrap64 (10 * a0_2)) > (wrap64 (9 * a1))))) else (some false)
set_option maxHeartbeats 8000000 in
set_option maxRecDepth 100000 in
theorem impl_fits.calls (a0_0 : ByteArray) (a0_1 : Int) (a0_2 : Int) (a0_3 : Int) (a0_4 : Int) (a0_5 : Int) (a0_6 : Int) (a0_7 : Int) (a0_8 : Int) (a1 : Int) (r : Bool) (w : World) (h : impl_fits.f a0_0 a0_1 a0_2 a0_3 a0_4 a0_5 a0_6 a0_7 a0_8 a1 = some r) :
    Calls Try.prog 173 #[.agg #[.string a0_0, .int .i64 a0_1, .int .i64 a0_2, .int .i64 a0_3, .int .i64 a0_4, .int .i64 a0_5, .int .i64 a0_6, .int .i64 a0_7, .int .i64 a0_8], .int .i64 a1] w fun e w' => e = .returned (.bool r) ∧ Below w.heap.size w w' := by
  have hu177 := Try.underlying177
  have HB := Aside0.mk (Below.refl w.heap.size w)
  have H : (if a0_2 ≤ a1 then (some (decide ((wrap64 (10 * a0_2)) > (wrap64 (9 * a1))))) else (some false)) = some r := h
  clear h
  by_cases c3 : a0_2 ≤ a1
  · rw [if_pos c3] at H
    have c3b0 : decide (a0_2 ≤ a1) = true := decide_eq_true c3
    clear c3
    obtain rfl := Option.some.inj H
    go_enter Try.func173, Try.ntmps173
    go_wp2_with (first | ((with_reducible refine gate_dst (N := 2) rfl ?_); refine box_event ?hg (N := 2) ?hd (cs := #[.string a0_0, .int .i64 a0_1, .int .i64 a0_2, .int .i64 a0_3, .int .i64 a0_4, .int .i64 a0_5, .int .i64 a0_6, .int .i64 a0_7, .int .i64 a0_8]) (t := 177) ?hr ?_; (case hd => rfl); (case hg => rfl); (case hr => first | (go_simp; done) | (go_simp; rfl)); intro gb220 hg w4 hbox hb; have BK220 := Aside0.mk (hbox); have GW220 := Aside0.mk ((by rw [hg]; exact (below_size (bl_ HB.out)) : w.heap.size ≤ gb220)); have GE220 := Aside0.mk ((by rw [hg]; exact (below_size (bl_ HB.out)) : w.heap.size ≤ gb220)); replace HB := Aside0.mk (below_step (bl_ HB.out) hb); clear hb hbox hg; have hcz5_0 : w4.cell? ⟨gb220, 0, none⟩ = some (.string a0_0) := (blk_cell BK220.out 0).trans rfl; have hcz5_1 : w4.cell? ⟨gb220, 1, none⟩ = some (.int .i64 a0_1) := (blk_cell BK220.out 1).trans rfl; have hcz5_2 : w4.cell? ⟨gb220, 2, none⟩ = some (.int .i64 a0_2) := (blk_cell BK220.out 2).trans rfl; have hcz5_3 : w4.cell? ⟨gb220, 3, none⟩ = some (.int .i64 a0_3) := (blk_cell BK220.out 3).trans rfl; have hcz5_4 : w4.cell? ⟨gb220, 4, none⟩ = some (.int .i64 a0_4) := (blk_cell BK220.out 4).trans rfl; have hcz5_5 : w4.cell? ⟨gb220, 5, none⟩ = some (.int .i64 a0_5) := (blk_cell BK220.out 5).trans rfl; have hcz5_6 : w4.cell? ⟨gb220, 6, none⟩ = some (.int .i64 a0_6) := (blk_cell BK220.out 6).trans rfl; have hcz5_7 : w4.cell? ⟨gb220, 7, none⟩ = some (.int .i64 a0_7) := (blk_cell BK220.out 7).trans rfl; have hcz5_8 : w4.cell? ⟨gb220, 8, none⟩ = some (.int .i64 a0_8) := (blk_cell BK220.out 8).trans rfl; have hfz5_0 := blk_frozen BK220.out 0; have hfz5_1 := blk_frozen BK220.out 1; have hfz5_2 := blk_frozen BK220.out 2; have hfz5_3 := blk_frozen BK220.out 3; have hfz5_4 := blk_frozen BK220.out 4; have hfz5_5 := blk_frozen BK220.out 5; have hfz5_6 := blk_frozen BK220.out 6; have hfz5_7 := blk_frozen BK220.out 7; have hfz5_8 := blk_frozen BK220.out 8))
    go_ret
    exact ⟨by first | rfl | (simp [errW_none, errW_some] <;> rfl) | (simp [*, errW_none, errW_some] <;> rfl), r0_ HB.out GE220.out⟩
  · rw [if_neg c3] at H
    have c3b0 : decide (a0_2 ≤ a1) = false := decide_eq_false c3
    clear c3
    obtain rfl := Option.some.inj H
    go_enter Try.func173, Try.ntmps173
    go_wp2_with (first | ((with_reducible refine gate_dst (N := 2) rfl ?_); refine box_event ?hg (N := 2) ?hd (cs := #[.string a0_0, .int .i64 a0_1, .int .i64 a0_2, .int .i64 a0_3, .int .i64 a0_4, .int .i64 a0_5, .int .i64 a0_6, .int .i64 a0_7, .int .i64 a0_8]) (t := 177) ?hr ?_; (case hd => rfl); (case hg => rfl); (case hr => first | (go_simp; done) | (go_simp; rfl)); intro gb220 hg w6 hbox hb; have BK220 := Aside0.mk (hbox); have GW220 := Aside0.mk ((by rw [hg]; exact (below_size (bl_ HB.out)) : w.heap.size ≤ gb220)); have GE220 := Aside0.mk ((by rw [hg]; exact (below_size (bl_ HB.out)) : w.heap.size ≤ gb220)); replace HB := Aside0.mk (below_step (bl_ HB.out) hb); clear hb hbox hg; have hcz7_0 : w6.cell? ⟨gb220, 0, none⟩ = some (.string a0_0) := (blk_cell BK220.out 0).trans rfl; have hcz7_1 : w6.cell? ⟨gb220, 1, none⟩ = some (.int .i64 a0_1) := (blk_cell BK220.out 1).trans rfl; have hcz7_2 : w6.cell? ⟨gb220, 2, none⟩ = some (.int .i64 a0_2) := (blk_cell BK220.out 2).trans rfl; have hcz7_3 : w6.cell? ⟨gb220, 3, none⟩ = some (.int .i64 a0_3) := (blk_cell BK220.out 3).trans rfl; have hcz7_4 : w6.cell? ⟨gb220, 4, none⟩ = some (.int .i64 a0_4) := (blk_cell BK220.out 4).trans rfl; have hcz7_5 : w6.cell? ⟨gb220, 5, none⟩ = some (.int .i64 a0_5) := (blk_cell BK220.out 5).trans rfl; have hcz7_6 : w6.cell? ⟨gb220, 6, none⟩ = some (.int .i64 a0_6) := (blk_cell BK220.out 6).trans rfl; have hcz7_7 : w6.cell? ⟨gb220, 7, none⟩ = some (.int .i64 a0_7) := (blk_cell BK220.out 7).trans rfl; have hcz7_8 : w6.cell? ⟨gb220, 8, none⟩ = some (.int .i64 a0_8) := (blk_cell BK220.out 8).trans rfl; have hfz7_0 := blk_frozen BK220.out 0; have hfz7_1 := blk_frozen BK220.out 1; have hfz7_2 := blk_frozen BK220.out 2; have hfz7_3 := blk_frozen BK220.out 3; have hfz7_4 := blk_frozen BK220.out 4; have hfz7_5 := blk_frozen BK220.out 5; have hfz7_6 := blk_frozen BK220.out 6; have hfz7_7 := blk_frozen BK220.out 7; have hfz7_8 := blk_frozen BK220.out 8))
    go_ret
    exact ⟨by first | rfl | (simp [errW_none, errW_some] <;> rfl) | (simp [*, errW_none, errW_some] <;> rfl), r0_ HB.out GE220.out⟩
mutual
def impl_IsRack.j0 : Nat → List (S177) → Bool → Int → Int → List Int → List ByteArray → Option (Bool)
 | 0, _, _, _, _, _, _ => none
 | k + 1, x0, x45, x222000, x222001, x222002, x222003 => if x45 = true then (some false) else (impl_IsRack.l0 k x0 x222003 (x222003.length : Int) 0 x222000 x222001 x222002 x222003)
def impl_IsRack.l0 : Nat → List (S177) → List ByteArray → Int → Int → Int → Int → List Int → List ByteArray → Option (Bool)
 | 0, _, _, _, _, _, _, _, _ => none
 | k + 1, x0, x47, x48, x49, x222000, x222001, x222002, x222003 => if x49 < x48 then (if 0 ≤ x49 then (if x49 < (x47.length : Int) then (if (rdOf ByteArray.empty x47 x49).toList = ([] : List UInt8) then (impl_IsRack.l0 k x0 x47 x48 (wrap64 (x49 + 1)) x222000 x222001 x222002 x222003) else ((impl_articleOf.f k x0 (rdOf ByteArray.empty x47 x49)).bind fun t226 => (if t226 < 0 then (some false) else (if 0 ≤ t226 then (if t226 < (x0.length : Int) then (if x49 < (x222002.length : Int) then ((impl_fits.f ((rd_T177 x0 t226).f0) ((rd_T177 x0 t226).f1) ((rd_T177 x0 t226).f2) ((rd_T177 x0 t226).f3) ((rd_T177 x0 t226).f4) ((rd_T177 x0 t226).f5) ((rd_T177 x0 t226).f6) ((rd_T177 x0 t226).f7) ((rd_T177 x0 t226).f8) (rd x222002 x49)).bind fun t229 => (if t229 = true then (impl_IsRack.l0 k x0 x47 x48 (wrap64 (x49 + 1)) x222000 x222001 x222002 x222003) else (some false))) else (none)) else (none)) else (none))))) else (none)) else (none)) else (some true)
end
def impl_IsRack.f (k : Nat) (l0 : List (S177)) (a1_0 : Int) (a1_1 : Int) (l1_2 : List Int) (l1_3 : List ByteArray) : Option (Bool) := (impl_AreArticles.f k l0).bind fun t222 => (if t222 = true then ((impl_isPlace.f a1_0 a1_1).bind fun t223 => (if t223 = true then (if (l1_2.length : Int) < 1 then (impl_IsRack.j0 k l0 true a1_0 a1_1 l1_2 l1_3) else (if (l1_2.length : Int) > 12 then (impl_IsRack.j0 k l0 true a1_0 a1_1 l1_2 l1_3) else (if (l1_3.length : Int) = (l1_2.length : Int) then ((impl_allWithin.f k l1_2 20 300).bind fun t224 => (impl_IsRack.j0 k l0 (!t224) a1_0 a1_1 l1_2 l1_3)) else (impl_IsRack.j0 k l0 true a1_0 a1_1 l1_2 l1_3)))) else (impl_IsRack.j0 k l0 true a1_0 a1_1 l1_2 l1_3))) else (impl_IsRack.j0 k l0 true a1_0 a1_1 l1_2 l1_3))
def impl_IsRack.T8 : Bool × List (List Nat × List Nat) := (true, [([], []), ([0], [0]), ([1], [1]), ([2], [2]), ([2], [2]), ([3, 4, 2], [2, 3, 4]), ([5, 2], [2, 5]), ([2], [2]), ([7, 2], [2, 7]), ([2], [2]), ([8, 9, 2], [2, 8, 9]), ([10, 2], [2, 10]), ([6, 11, 2, 2], [2, 6, 11]), ([12, 2], [2, 12]), ([2, 13], [2, 13])])
def impl_IsRack.B8 : List Nat := [0, 1, 3, 7, 7, 31, 63, 7, 135, 7, 903, 1927, 4095, 8191, 16383]
theorem impl_IsRack.tab8 : rtab .any (opsOf Try.f93 8) = impl_IsRack.T8 := by kernel_rfl
theorem impl_IsRack.bits8 : waitsOk impl_IsRack.T8.2 impl_IsRack.B8 = true := by kernel_rfl
set_option maxHeartbeats 8000000 in
set_option maxRecDepth 100000 in
theorem impl_IsRack.calls (k : Nat) (A0 : Option Addr) (c0 : Nat) (l0 : List (S177)) (a1_0 : Int) (a1_1 : Int) (A1_2 : Option Addr) (c1_2 : Nat) (l1_2 : List Int) (A1_3 : Option Addr) (c1_3 : Nat) (l1_3 : List ByteArray) (r : Bool) (w : World) (hr0 : Kd.C k177 w A0 l0.length l0) (hc0 : l0.length ≤ c0) (hr1_2 : Kd.C (Kd.int .i64) w A1_2 l1_2.length l1_2) (hc1_2 : l1_2.length ≤ c1_2) (hr1_3 : Kd.C Kd.string w A1_3 l1_3.length l1_3) (hc1_3 : l1_3.length ≤ c1_3) (h : impl_IsRack.f k l0 a1_0 a1_1 l1_2 l1_3 = some r) :
  Calls Try.prog 93 #[.slice A0 l0.length c0, .agg #[.int .i64 a1_0, .int .i64 a1_1, .slice A1_2 l1_2.length c1_2, .slice A1_3 l1_3.length c1_3]] w fun e w' => e = .returned (.bool r) ∧ Below w.heap.size w w' := by
 have hu106 := Try.underlying106
 have hu177 := Try.underlying177
 have HR0 := Aside0.mk hr0
 have HC0 := Aside0.mk hc0
 clear hr0 hc0
 have HR1_2 := Aside0.mk hr1_2
 have HC1_2 := Aside0.mk hc1_2
 clear hr1_2 hc1_2
 have HR1_3 := Aside0.mk hr1_3
 have HC1_3 := Aside0.mk hc1_3
 clear hr1_3 hc1_3
 have HB := Aside0.mk (Below.refl w.heap.size w)
 have H : ((impl_AreArticles.f k l0).bind fun t222 => (if t222 = true then ((impl_isPlace.f a1_0 a1_1).bind fun t223 => (if t223 = true then (if (l1_2.length : Int) < 1 then (impl_IsRack.j0 k l0 true a1_0 a1_1 l1_2 l1_3) else (if (l1_2.length : Int) > 12 then (impl_IsRack.j0 k l0 true a1_0 a1_1 l1_2 l1_3) else (if (l1_3.length : Int) = (l1_2.length : Int) then ((impl_allWithin.f k l1_2 20 300).bind fun t224 => (impl_IsRack.j0 k l0 (!t224) a1_0 a1_1 l1_2 l1_3)) else (impl_IsRack.j0 k l0 true a1_0 a1_1 l1_2 l1_3)))) else (impl_IsRack.j0 k l0 true a1_0 a1_1 l1_2 l1_3))) else (impl_IsRack.j0 k l0 true a1_0 a1_1 l1_2 l1_3))) = some r := h
 clear h
 have HC3 := Aside0.mk H
 clear H
 go_enter Try.func93, Try.ntmps93
 go_upto_region 1 with (first | ((with_reducible refine gate_dst (N := 3) rfl ?_); (try (refine gate_guard (by rfl) ?_; dsimp only)); refine box_event ?hg (N := 3) ?hd (cs := #[.int .i64 a1_0, .int .i64 a1_1, .slice A1_2 l1_2.length c1_2, .slice A1_3 l1_3.length c1_3]) (t := 106) ?hr ?_; (case hd => rfl); (case hg => rfl); (case hr => first | (go_simp; done) | (go_simp; rfl)); intro gb221 hg w4 hbox hb; have BK221 := Aside0.mk (hbox); have GW221 := Aside0.mk ((by rw [hg]; exact (below_size (bl_ HB.out)) : w.heap.size ≤ gb221)); have GE221 := Aside0.mk ((by rw [hg]; exact (below_size (bl_ HB.out)) : w.heap.size ≤ gb221)); replace HB := Aside0.mk (below_step (bl_ HB.out) hb); clear hb hbox hg))
 (try simp only [Act.put, List.setIfInBounds_toArray, List.set_cons_zero, List.set_cons_succ])
 go_cut [45] (fun v45 wc => ∃ (kq : Nat) (x45_2 : Bool), v45 = .bool x45_2 ∧ Aside0 (impl_IsRack.j0 kq l0 x45_2 a1_0 a1_1 l1_2 l1_3 = some r) ∧ Aside0 (kq ≤ k) ∧ Aside0 (wc.heap[gb221]? = some (.cells #[.int .i64 a1_0, .int .i64 a1_1, (.slice A1_2 l1_2.length c1_2), (.slice A1_3 l1_3.length c1_3)] 106 (0, 0))) ∧ Aside0 (Below w.heap.size w wc))
 case first =>
  have H := HC3.out
  clear HC3
  replace H := Option.bind_eq_some_iff.mp H
  obtain ⟨t222, A50, H⟩ := H
  replace H : (if t222 = true then ((impl_isPlace.f a1_0 a1_1).bind fun t223 => (if t223 = true then (if (l1_2.length : Int) < 1 then (impl_IsRack.j0 k l0 true a1_0 a1_1 l1_2 l1_3) else (if (l1_2.length : Int) > 12 then (impl_IsRack.j0 k l0 true a1_0 a1_1 l1_2 l1_3) else (if (l1_3.length : Int) = (l1_2.length : Int) then ((impl_allWithin.f k l1_2 20 300).bind fun t224 => (impl_IsRack.j0 k l0 (!t224) a1_0 a1_1 l1_2 l1_3)) else (impl_IsRack.j0 k l0 true a1_0 a1_1 l1_2 l1_3)))) else (impl_IsRack.j0 k l0 true a1_0 a1_1 l1_2 l1_3))) else (impl_IsRack.j0 k l0 true a1_0 a1_1 l1_2 l1_3)) = some r := H
  have A5 := Aside0.mk A50
  clear A50
  by_cases c6 : t222 = true
  ·subst c6
   replace H : ((impl_isPlace.f a1_0 a1_1).bind fun t223 => (if t223 = true then (if (l1_2.length : Int) < 1 then (impl_IsRack.j0 k l0 true a1_0 a1_1 l1_2 l1_3) else (if (l1_2.length : Int) > 12 then (impl_IsRack.j0 k l0 true a1_0 a1_1 l1_2 l1_3) else (if (l1_3.length : Int) = (l1_2.length : Int) then ((impl_allWithin.f k l1_2 20 300).bind fun t224 => (impl_IsRack.j0 k l0 (!t224) a1_0 a1_1 l1_2 l1_3)) else (impl_IsRack.j0 k l0 true a1_0 a1_1 l1_2 l1_3)))) else (impl_IsRack.j0 k l0 true a1_0 a1_1 l1_2 l1_3))) = some r := by rw [if_pos rfl] at H; exact H
   replace H := Option.bind_eq_some_iff.mp H
   obtain ⟨t223, A70, H⟩ := H
   replace H : (if t223 = true then (if (l1_2.length : Int) < 1 then (impl_IsRack.j0 k l0 true a1_0 a1_1 l1_2 l1_3) else (if (l1_2.length : Int) > 12 then (impl_IsRack.j0 k l0 true a1_0 a1_1 l1_2 l1_3) else (if (l1_3.length : Int) = (l1_2.length : Int) then ((impl_allWithin.f k l1_2 20 300).bind fun t224 => (impl_IsRack.j0 k l0 (!t224) a1_0 a1_1 l1_2 l1_3)) else (impl_IsRack.j0 k l0 true a1_0 a1_1 l1_2 l1_3)))) else (impl_IsRack.j0 k l0 true a1_0 a1_1 l1_2 l1_3)) = some r := H
   have A7 := Aside0.mk A70
   clear A70
   by_cases c8 : t223 = true
   ·subst c8
    replace H : (if (l1_2.length : Int) < 1 then (impl_IsRack.j0 k l0 true a1_0 a1_1 l1_2 l1_3) else (if (l1_2.length : Int) > 12 then (impl_IsRack.j0 k l0 true a1_0 a1_1 l1_2 l1_3) else (if (l1_3.length : Int) = (l1_2.length : Int) then ((impl_allWithin.f k l1_2 20 300).bind fun t224 => (impl_IsRack.j0 k l0 (!t224) a1_0 a1_1 l1_2 l1_3)) else (impl_IsRack.j0 k l0 true a1_0 a1_1 l1_2 l1_3)))) = some r := by rw [if_pos rfl] at H; exact H
    by_cases c9 : (l1_2.length : Int) < 1
    ·rw [if_pos c9] at H
     have c9b0 : decide ((l1_2.length : Int) < 1) = true := decide_eq_true c9
     have c9b1 : decide (l1_2.length < 1) = true := decide_eq_true (by omega)
     clear c9
     (first | rw [c9b0] | (simp only [i64_w, i32_w]; rw [c9b0]) | skip)
     have H' := Aside0.mk H
     clear H
     go_wp2_with (first | ((with_reducible refine gate_callee (f := 171) rfl ?_); refine goesL_ (some 9) rfl rfl Try.func171 (by kernel_rfl) rfl #[.slice A0 l0.length c0] rfl ag_ ?_; (with_reducible refine (impl_AreArticles.calls k _ _ l0 true _ ?side1 ?side2 A5.out).mono ?_); (case side1 => exact r2_ HR0.out HB.out); (case side2 => exact HC0.out); rintro e w10 ⟨rfl, hb⟩; refine ⟨_, rfl, ?_⟩; replace BK221 := Aside0.mk (blk_below (g := gb221) (o := .cells #[.int .i64 a1_0, .int .i64 a1_1, .slice A1_2 l1_2.length c1_2, .slice A1_3 l1_3.length c1_3] 106 (0, 0)) (r1_ BK221.out) hb); replace HB := Aside0.mk (below_step (r0_ HB.out GE221.out) hb); (try clear hb); (try clear hb2); (try clear hk); (try clear hi); have hcz11_0 : w10.cell? ⟨gb221, 0, none⟩ = some (.int .i64 a1_0) := (blk_cell BK221.out 0).trans rfl; have hcz11_1 : w10.cell? ⟨gb221, 1, none⟩ = some (.int .i64 a1_1) := (blk_cell BK221.out 1).trans rfl; have hcz11_2 : w10.cell? ⟨gb221, 2, none⟩ = some (.slice A1_2 l1_2.length c1_2) := (blk_cell BK221.out 2).trans rfl; have hcz11_3 : w10.cell? ⟨gb221, 3, none⟩ = some (.slice A1_3 l1_3.length c1_3) := (blk_cell BK221.out 3).trans rfl; have hfz11_0 := blk_frozen BK221.out 0; have hfz11_1 := blk_frozen BK221.out 1; have hfz11_2 := blk_frozen BK221.out 2; have hfz11_3 := blk_frozen BK221.out 3) | (go_at_call 150; (with_reducible refine (impl_isPlace.calls a1_0 a1_1 true _ A7.out).mono ?_); rintro e w' ⟨rfl, ⟨nd, rfl⟩⟩))
     go_meet
     case rel => exact ⟨_, (true), (by first | rfl | (simp; done) | (simp [*]; done)), H', ⟨by first | omega | exact Nat.le_refl _⟩, ⟨r1_ BK221.out⟩, ⟨r0_ HB.out GE221.out⟩⟩
    ·rw [if_neg c9] at H
     have c9b0 : decide ((l1_2.length : Int) < 1) = false := decide_eq_false c9
     have c9b1 : decide (l1_2.length < 1) = false := decide_eq_false (by omega)
     clear c9
     (first | rw [c9b0] | (simp only [i64_w, i32_w]; rw [c9b0]) | skip)
     by_cases c12 : (l1_2.length : Int) > 12
     ·rw [if_pos c12] at H
      have c12b0 : decide (12 < (l1_2.length : Int)) = true := decide_eq_true c12
      have c12b1 : decide (12 < l1_2.length) = true := decide_eq_true (by omega)
      clear c12
      have H' := Aside0.mk H
      clear H
      go_wp2_with (first | ((with_reducible refine gate_callee (f := 171) rfl ?_); refine goesL_ (some 9) rfl rfl Try.func171 (by kernel_rfl) rfl #[.slice A0 l0.length c0] rfl ag_ ?_; (with_reducible refine (impl_AreArticles.calls k _ _ l0 true _ ?side1 ?side2 A5.out).mono ?_); (case side1 => exact r2_ HR0.out HB.out); (case side2 => exact HC0.out); rintro e w13 ⟨rfl, hb⟩; refine ⟨_, rfl, ?_⟩; replace BK221 := Aside0.mk (blk_below (g := gb221) (o := .cells #[.int .i64 a1_0, .int .i64 a1_1, .slice A1_2 l1_2.length c1_2, .slice A1_3 l1_3.length c1_3] 106 (0, 0)) (r1_ BK221.out) hb); replace HB := Aside0.mk (below_step (r0_ HB.out GE221.out) hb); (try clear hb); (try clear hb2); (try clear hk); (try clear hi); have hcz14_0 : w13.cell? ⟨gb221, 0, none⟩ = some (.int .i64 a1_0) := (blk_cell BK221.out 0).trans rfl; have hcz14_1 : w13.cell? ⟨gb221, 1, none⟩ = some (.int .i64 a1_1) := (blk_cell BK221.out 1).trans rfl; have hcz14_2 : w13.cell? ⟨gb221, 2, none⟩ = some (.slice A1_2 l1_2.length c1_2) := (blk_cell BK221.out 2).trans rfl; have hcz14_3 : w13.cell? ⟨gb221, 3, none⟩ = some (.slice A1_3 l1_3.length c1_3) := (blk_cell BK221.out 3).trans rfl; have hfz14_0 := blk_frozen BK221.out 0; have hfz14_1 := blk_frozen BK221.out 1; have hfz14_2 := blk_frozen BK221.out 2; have hfz14_3 := blk_frozen BK221.out 3) | (go_at_call 150; (with_reducible refine (impl_isPlace.calls a1_0 a1_1 true _ A7.out).mono ?_); rintro e w' ⟨rfl, ⟨nd, rfl⟩⟩))
      go_meet
      case rel => exact ⟨_, (true), (by first | rfl | (simp; done) | (simp [*]; done)), H', ⟨by first | omega | exact Nat.le_refl _⟩, ⟨r1_ BK221.out⟩, ⟨r0_ HB.out GE221.out⟩⟩
     ·rw [if_neg c12] at H
      have c12b0 : decide (12 < (l1_2.length : Int)) = false := decide_eq_false c12
      have c12b1 : decide (12 < l1_2.length) = false := decide_eq_false (by omega)
      clear c12
      by_cases c15 : (l1_3.length : Int) = (l1_2.length : Int)
      ·rw [if_pos c15] at H
       have c15b0 : ((l1_3.length : Int) == (l1_2.length : Int)) = true := beq_iff_eq.mpr c15
       have c15b1 : ((l1_3.length : Int) != (l1_2.length : Int)) = false := bne_eq_false_iff_eq.mpr c15
       have c15b2 : (l1_3.length == l1_2.length) = true := by first | simpa using c15 | (simp at c15 ⊢; omega)
       clear c15
       replace H := Option.bind_eq_some_iff.mp H
       obtain ⟨t224, A160, H⟩ := H
       replace H : (impl_IsRack.j0 k l0 (!t224) a1_0 a1_1 l1_2 l1_3) = some r := H
       have A16 := Aside0.mk A160
       clear A160
       have H' := Aside0.mk H
       clear H
       go_wp2_with (first | ((with_reducible refine gate_callee (f := 171) rfl ?_); refine goesL_ (some 9) rfl rfl Try.func171 (by kernel_rfl) rfl #[.slice A0 l0.length c0] rfl ag_ ?_; (with_reducible refine (impl_AreArticles.calls k _ _ l0 true _ ?side1 ?side2 A5.out).mono ?_); (case side1 => exact r2_ HR0.out HB.out); (case side2 => exact HC0.out); rintro e w17 ⟨rfl, hb⟩; refine ⟨_, rfl, ?_⟩; replace BK221 := Aside0.mk (blk_below (g := gb221) (o := .cells #[.int .i64 a1_0, .int .i64 a1_1, .slice A1_2 l1_2.length c1_2, .slice A1_3 l1_3.length c1_3] 106 (0, 0)) (r1_ BK221.out) hb); replace HB := Aside0.mk (below_step (r0_ HB.out GE221.out) hb); (try clear hb); (try clear hb2); (try clear hk); (try clear hi); have hcz18_0 : w17.cell? ⟨gb221, 0, none⟩ = some (.int .i64 a1_0) := (blk_cell BK221.out 0).trans rfl; have hcz18_1 : w17.cell? ⟨gb221, 1, none⟩ = some (.int .i64 a1_1) := (blk_cell BK221.out 1).trans rfl; have hcz18_2 : w17.cell? ⟨gb221, 2, none⟩ = some (.slice A1_2 l1_2.length c1_2) := (blk_cell BK221.out 2).trans rfl; have hcz18_3 : w17.cell? ⟨gb221, 3, none⟩ = some (.slice A1_3 l1_3.length c1_3) := (blk_cell BK221.out 3).trans rfl; have hfz18_0 := blk_frozen BK221.out 0; have hfz18_1 := blk_frozen BK221.out 1; have hfz18_2 := blk_frozen BK221.out 2; have hfz18_3 := blk_frozen BK221.out 3) | (go_at_call 150; (with_reducible refine (impl_isPlace.calls a1_0 a1_1 true _ A7.out).mono ?_); rintro e w' ⟨rfl, ⟨nd, rfl⟩⟩) | (go_at_call 110; (with_reducible refine (impl_allWithin.calls k _ _ l1_2 20 300 t224 _ ?side1 ?side2 A16.out).mono ?_); (case side1 => exact r4_ HR1_2.out HB.out GE221.out); (case side2 => exact HC1_2.out); rintro e w' ⟨rfl, ⟨nd, rfl⟩⟩))
       go_meet
       case rel => exact ⟨_, (!t224), (by first | rfl | (simp; done) | (simp [*]; done)), H', ⟨by first | omega | exact Nat.le_refl _⟩, ⟨r1_ BK221.out⟩, ⟨r0_ HB.out GE221.out⟩⟩
      ·rw [if_neg c15] at H
       have c15b0 : ((l1_3.length : Int) == (l1_2.length : Int)) = false := beq_eq_false_iff_ne.mpr c15
       have c15b1 : ((l1_3.length : Int) != (l1_2.length : Int)) = true := bne_iff_ne.mpr c15
       have c15b2 : (l1_3.length == l1_2.length) = false := by first | simpa using c15 | (simp at c15 ⊢; omega)
       have H' := Aside0.mk H
       clear H
       go_wp2_with (first | ((with_reducible refine gate_callee (f := 171) rfl ?_); refine goesL_ (some 9) rfl rfl Try.func171 (by kernel_rfl) rfl #[.slice A0 l0.length c0] rfl ag_ ?_; (with_reducible refine (impl_AreArticles.calls k _ _ l0 true _ ?side1 ?side2 A5.out).mono ?_); (case side1 => exact r2_ HR0.out HB.out); (case side2 => exact HC0.out); rintro e w19 ⟨rfl, hb⟩; refine ⟨_, rfl, ?_⟩; replace BK221 := Aside0.mk (blk_below (g := gb221) (o := .cells #[.int .i64 a1_0, .int .i64 a1_1, .slice A1_2 l1_2.length c1_2, .slice A1_3 l1_3.length c1_3] 106 (0, 0)) (r1_ BK221.out) hb); replace HB := Aside0.mk (below_step (r0_ HB.out GE221.out) hb); (try clear hb); (try clear hb2); (try clear hk); (try clear hi); have hcz20_0 : w19.cell? ⟨gb221, 0, none⟩ = some (.int .i64 a1_0) := (blk_cell BK221.out 0).trans rfl; have hcz20_1 : w19.cell? ⟨gb221, 1, none⟩ = some (.int .i64 a1_1) := (blk_cell BK221.out 1).trans rfl; have hcz20_2 : w19.cell? ⟨gb221, 2, none⟩ = some (.slice A1_2 l1_2.length c1_2) := (blk_cell BK221.out 2).trans rfl; have hcz20_3 : w19.cell? ⟨gb221, 3, none⟩ = some (.slice A1_3 l1_3.length c1_3) := (blk_cell BK221.out 3).trans rfl; have hfz20_0 := blk_frozen BK221.out 0; have hfz20_1 := blk_frozen BK221.out 1; have hfz20_2 := blk_frozen BK221.out 2; have hfz20_3 := blk_frozen BK221.out 3) | (go_at_call 150; (with_reducible refine (impl_isPlace.calls a1_0 a1_1 true _ A7.out).mono ?_); rintro e w' ⟨rfl, ⟨nd, rfl⟩⟩))
       go_meet
       case rel => exact ⟨_, (true), (by first | rfl | (simp; done) | (simp [*]; done)), H', ⟨by first | omega | exact Nat.le_refl _⟩, ⟨r1_ BK221.out⟩, ⟨r0_ HB.out GE221.out⟩⟩
   ·replace c8 := Bool.eq_false_iff.mpr c8
    subst c8
    replace H : (impl_IsRack.j0 k l0 true a1_0 a1_1 l1_2 l1_3) = some r := by rw [if_neg (show ¬ (false = true) by decide)] at H; exact H
    have H' := Aside0.mk H
    clear H
    go_wp2_with (first | ((with_reducible refine gate_callee (f := 171) rfl ?_); refine goesL_ (some 9) rfl rfl Try.func171 (by kernel_rfl) rfl #[.slice A0 l0.length c0] rfl ag_ ?_; (with_reducible refine (impl_AreArticles.calls k _ _ l0 true _ ?side1 ?side2 A5.out).mono ?_); (case side1 => exact r2_ HR0.out HB.out); (case side2 => exact HC0.out); rintro e w21 ⟨rfl, hb⟩; refine ⟨_, rfl, ?_⟩; replace BK221 := Aside0.mk (blk_below (g := gb221) (o := .cells #[.int .i64 a1_0, .int .i64 a1_1, .slice A1_2 l1_2.length c1_2, .slice A1_3 l1_3.length c1_3] 106 (0, 0)) (r1_ BK221.out) hb); replace HB := Aside0.mk (below_step (r0_ HB.out GE221.out) hb); (try clear hb); (try clear hb2); (try clear hk); (try clear hi); have hcz22_0 : w21.cell? ⟨gb221, 0, none⟩ = some (.int .i64 a1_0) := (blk_cell BK221.out 0).trans rfl; have hcz22_1 : w21.cell? ⟨gb221, 1, none⟩ = some (.int .i64 a1_1) := (blk_cell BK221.out 1).trans rfl; have hcz22_2 : w21.cell? ⟨gb221, 2, none⟩ = some (.slice A1_2 l1_2.length c1_2) := (blk_cell BK221.out 2).trans rfl; have hcz22_3 : w21.cell? ⟨gb221, 3, none⟩ = some (.slice A1_3 l1_3.length c1_3) := (blk_cell BK221.out 3).trans rfl; have hfz22_0 := blk_frozen BK221.out 0; have hfz22_1 := blk_frozen BK221.out 1; have hfz22_2 := blk_frozen BK221.out 2; have hfz22_3 := blk_frozen BK221.out 3) | (go_at_call 150; (with_reducible refine (impl_isPlace.calls a1_0 a1_1 false _ A7.out).mono ?_); rintro e w' ⟨rfl, ⟨nd, rfl⟩⟩))
    go_meet
    case rel => exact ⟨_, (true), (by first | rfl | (simp; done) | (simp [*]; done)), H', ⟨by first | omega | exact Nat.le_refl _⟩, ⟨r1_ BK221.out⟩, ⟨r0_ HB.out GE221.out⟩⟩
  ·replace c6 := Bool.eq_false_iff.mpr c6
   subst c6
   replace H : (impl_IsRack.j0 k l0 true a1_0 a1_1 l1_2 l1_3) = some r := by rw [if_neg (show ¬ (false = true) by decide)] at H; exact H
   have H' := Aside0.mk H
   clear H
   go_wp2_with (first | ((with_reducible refine gate_callee (f := 171) rfl ?_); refine goesL_ (some 9) rfl rfl Try.func171 (by kernel_rfl) rfl #[.slice A0 l0.length c0] rfl ag_ ?_; (with_reducible refine (impl_AreArticles.calls k _ _ l0 false _ ?side1 ?side2 A5.out).mono ?_); (case side1 => exact r2_ HR0.out HB.out); (case side2 => exact HC0.out); rintro e w23 ⟨rfl, hb⟩; refine ⟨_, rfl, ?_⟩; replace BK221 := Aside0.mk (blk_below (g := gb221) (o := .cells #[.int .i64 a1_0, .int .i64 a1_1, .slice A1_2 l1_2.length c1_2, .slice A1_3 l1_3.length c1_3] 106 (0, 0)) (r1_ BK221.out) hb); replace HB := Aside0.mk (below_step (r0_ HB.out GE221.out) hb); (try clear hb); (try clear hb2); (try clear hk); (try clear hi)))
   go_meet
   case rel => exact ⟨_, (true), (by first | rfl | (simp; done) | (simp [*]; done)), H', ⟨by first | omega | exact Nat.le_refl _⟩, ⟨r1_ BK221.out⟩, ⟨r0_ HB.out GE221.out⟩⟩
 case rest =>
  clear HC3
  try clear c1
  try clear p2
  try clear c6
  try clear c8
  try clear c9
  try clear c9b0
  try clear c9b1
  try clear c12
  try clear c12b0
  try clear c12b1
  try clear c15
  try clear c15b0
  try clear c15b1
  try clear c15b2
  try clear c17
  try clear hcz11_0
  try clear hcz11_1
  try clear hcz11_2
  try clear hcz11_3
  try clear hcz14_0
  try clear hcz14_1
  try clear hcz14_2
  try clear hcz14_3
  try clear hcz18_0
  try clear hcz18_1
  try clear hcz18_2
  try clear hcz18_3
  try clear hcz20_0
  try clear hcz20_1
  try clear hcz20_2
  try clear hcz20_3
  try clear hcz22_0
  try clear hcz22_1
  try clear hcz22_2
  try clear hcz22_3
  try clear hfz11_0
  try clear hfz11_1
  try clear hfz11_2
  try clear hfz11_3
  try clear hfz14_0
  try clear hfz14_1
  try clear hfz14_2
  try clear hfz14_3
  try clear hfz18_0
  try clear hfz18_1
  try clear hfz18_2
  try clear hfz18_3
  try clear hfz20_0
  try clear hfz20_1
  try clear hfz20_2
  try clear hfz20_3
  try clear hfz22_0
  try clear hfz22_1
  try clear hfz22_2
  try clear hfz22_3
  obtain ⟨kq, x45_2, rfl, HA, HJ2, BK221, HB⟩ := hcut
  cases kq with
  | zero => exact absurd HA.out (by simp [impl_IsRack.j0])
  | succ kj2 =>
   have H := HA.out
   clear HA
   simp only [impl_IsRack.j0] at H
   by_cases c24 : x45_2 = true
   ·subst c24
    replace H : (some false) = some r := by rw [if_pos rfl] at H; exact H
    obtain rfl := Option.some.inj H
    go_wp2
    go_ret
    exact ⟨by first | rfl | (simp [errW_none, errW_some] <;> rfl) | (simp [*, errW_none, errW_some] <;> rfl), r0_ HB.out GE221.out⟩
   ·replace c24 := Bool.eq_false_iff.mpr c24
    subst c24
    replace H : (impl_IsRack.l0 kj2 l0 l1_3 (l1_3.length : Int) 0 a1_0 a1_1 l1_2 l1_3) = some r := by rw [if_neg (show ¬ (false = true) by decide)] at H; exact H
    have H' := Aside0.mk H
    clear H
    have hcz25_0 : wc.cell? ⟨gb221, 0, none⟩ = some (.int .i64 a1_0) := (blk_cell BK221.out 0).trans rfl
    have hcz25_1 : wc.cell? ⟨gb221, 1, none⟩ = some (.int .i64 a1_1) := (blk_cell BK221.out 1).trans rfl
    have hcz25_2 : wc.cell? ⟨gb221, 2, none⟩ = some (.slice A1_2 l1_2.length c1_2) := (blk_cell BK221.out 2).trans rfl
    have hcz25_3 : wc.cell? ⟨gb221, 3, none⟩ = some (.slice A1_3 l1_3.length c1_3) := (blk_cell BK221.out 3).trans rfl
    have hfz25_0 := blk_frozen BK221.out 0
    have hfz25_1 := blk_frozen BK221.out 1
    have hfz25_2 := blk_frozen BK221.out 2
    have hfz25_3 := blk_frozen BK221.out 3
    go_wp2
    go_loopg [49] kj2 (fun kq v49 w' => ∃ (x49_2 : Int), v49 = .int .i64 x49_2 ∧ Aside0 (impl_IsRack.l0 kq l0 l1_3 (l1_3.length : Int) x49_2 a1_0 a1_1 l1_2 l1_3 = some r) ∧ Aside0 (kq ≤ kj2) ∧ Aside0 (w'.heap[gb221]? = some (.cells #[.int .i64 a1_0, .int .i64 a1_1, (.slice A1_2 l1_2.length c1_2), (.slice A1_3 l1_3.length c1_3)] 106 (0, 0))) ∧ Aside0 (Below w.heap.size w w'))
    case atStart => exact ⟨(0), (by first | rfl | (simp; done) | (simp [*]; done)), H', ⟨Nat.le_refl _⟩, ⟨r1_ BK221.out⟩, ⟨r0_ HB.out GE221.out⟩⟩
    case round =>
     clear H'
     try clear c1
     try clear c2
     try clear p2
     try clear c6
     try clear c8
     try clear c9
     try clear c9b0
     try clear c9b1
     try clear c12
     try clear c12b0
     try clear c12b1
     try clear c15
     try clear c15b0
     try clear c15b1
     try clear c15b2
     try clear c17
     try clear c24
     try clear hcz11_0
     try clear hcz11_1
     try clear hcz11_2
     try clear hcz11_3
     try clear hcz14_0
     try clear hcz14_1
     try clear hcz14_2
     try clear hcz14_3
     try clear hcz18_0
     try clear hcz18_1
     try clear hcz18_2
     try clear hcz18_3
     try clear hcz20_0
     try clear hcz20_1
     try clear hcz20_2
     try clear hcz20_3
     try clear hcz22_0
     try clear hcz22_1
     try clear hcz22_2
     try clear hcz22_3
     try clear hcz25_0
     try clear hcz25_1
     try clear hcz25_2
     try clear hcz25_3
     try clear hfz11_0
     try clear hfz11_1
     try clear hfz11_2
     try clear hfz11_3
     try clear hfz14_0
     try clear hfz14_1
     try clear hfz14_2
     try clear hfz14_3
     try clear hfz18_0
     try clear hfz18_1
     try clear hfz18_2
     try clear hfz18_3
     try clear hfz20_0
     try clear hfz20_1
     try clear hfz20_2
     try clear hfz20_3
     try clear hfz22_0
     try clear hfz22_1
     try clear hfz22_2
     try clear hfz22_3
     try clear hfz25_0
     try clear hfz25_1
     try clear hfz25_2
     try clear hfz25_3
     try clear p2
     obtain ⟨x49_2, rfl, HA, HK2, BK221, HB⟩ := hrel
     cases gk with
     | zero => exact absurd HA.out (by simp [impl_IsRack.l0])
     | succ k2 =>
      have H := HA.out
      clear HA
      simp only [impl_IsRack.l0] at H
      by_cases c26 : x49_2 < (l1_3.length : Int)
      ·rw [if_pos c26] at H
       have c26b0 : decide (x49_2 < (l1_3.length : Int)) = true := decide_eq_true c26
       clear c26
       by_cases c27 : 0 ≤ x49_2
       case neg =>
        rw [if_neg c27] at H
        exact absurd H (by simp)
       rw [if_pos c27] at H
       have c27b0 : decide (0 ≤ x49_2) = true := decide_eq_true c27
       clear c27
       by_cases c28 : x49_2 < (l1_3.length : Int)
       case neg =>
        rw [if_neg c28] at H
        exact absurd H (by simp)
       rw [if_pos c28] at H
       have c28b0 : decide (x49_2 < (l1_3.length : Int)) = true := decide_eq_true c28
       clear c28
       by_cases c29 : (rdOf ByteArray.empty l1_3 x49_2).toList = ([] : List UInt8)
       ·rw [if_pos c29] at H
        have c29b0 : ((rdOf ByteArray.empty l1_3 x49_2).toList == ([] : List UInt8)) = true := beq_iff_eq.mpr c29
        have c29b1 : ((rdOf ByteArray.empty l1_3 x49_2).toList != ([] : List UInt8)) = false := bne_eq_false_iff_eq.mpr c29
        clear c29
        have H' := Aside0.mk H
        clear H
        have p225 : 0 ≤ (x49_2 : Int) := od_
        have q225 : x49_2 < (l1_3.length : Int) := od_
        obtain ⟨ad225, e225, hx225_0⟩ := Kd.at_string HR1_3.out x49_2 p225 q225
        cases e225
        replace hx225_0 := bc_ HB.out hx225_0
        replace p225 := eq_true p225
        replace q225 := eq_true q225
        go_wp2
        go_roundg k2
        case measure => have := HJ2.out; have := HK2.out; omega
        case rel => exact ⟨(wrap64 (x49_2 + 1)), (by first | rfl | (simp; done) | (simp [*]; done)), H', ⟨by have := HJ2.out; have := HK2.out; omega⟩, ⟨r1_ BK221.out⟩, ⟨r0_ HB.out GE221.out⟩⟩
       ·rw [if_neg c29] at H
        have c29b0 : ((rdOf ByteArray.empty l1_3 x49_2).toList == ([] : List UInt8)) = false := beq_eq_false_iff_ne.mpr c29
        have c29b1 : ((rdOf ByteArray.empty l1_3 x49_2).toList != ([] : List UInt8)) = true := bne_iff_ne.mpr c29
        replace H := Option.bind_eq_some_iff.mp H
        obtain ⟨t226, A300, H⟩ := H
        replace H : (if t226 < 0 then (some false) else (if 0 ≤ t226 then (if t226 < (l0.length : Int) then (if x49_2 < (l1_2.length : Int) then ((impl_fits.f ((rd_T177 l0 t226).f0) ((rd_T177 l0 t226).f1) ((rd_T177 l0 t226).f2) ((rd_T177 l0 t226).f3) ((rd_T177 l0 t226).f4) ((rd_T177 l0 t226).f5) ((rd_T177 l0 t226).f6) ((rd_T177 l0 t226).f7) ((rd_T177 l0 t226).f8) (rd l1_2 x49_2)).bind fun t229 => (if t229 = true then (impl_IsRack.l0 k2 l0 l1_3 (l1_3.length : Int) (wrap64 (x49_2 + 1)) a1_0 a1_1 l1_2 l1_3) else (some false))) else (none)) else (none)) else (none))) = some r := H
        have A30 := Aside0.mk A300
        clear A300
        by_cases c31 : t226 < 0
        ·rw [if_pos c31] at H
         have c31b0 : decide (t226 < 0) = true := decide_eq_true c31
         clear c31
         obtain rfl := Option.some.inj H
         have p225 : 0 ≤ (x49_2 : Int) := od_
         have q225 : x49_2 < (l1_3.length : Int) := od_
         obtain ⟨ad225, e225, hx225_0⟩ := Kd.at_string HR1_3.out x49_2 p225 q225
         cases e225
         replace hx225_0 := bc_ HB.out hx225_0
         replace p225 := eq_true p225
         replace q225 := eq_true q225
         try go_wp2_with (first | ((with_reducible refine gate_callee (f := 172) rfl ?_); refine goesL_ (some 58) rfl rfl Try.func172 (by kernel_rfl) rfl #[.slice A0 l0.length c0, .string (rdOf ByteArray.empty l1_3 x49_2)] rfl ag_ ?_; (with_reducible refine (impl_articleOf.calls k2 _ _ l0 (rdOf ByteArray.empty l1_3 x49_2) t226 _ ?side1 ?side2 A30.out).mono ?_); (case side1 => exact r2_ HR0.out HB.out); (case side2 => exact HC0.out); rintro e w32 ⟨rfl, hb⟩; refine ⟨_, rfl, ?_⟩; replace BK221 := Aside0.mk (blk_below (g := gb221) (o := .cells #[.int .i64 a1_0, .int .i64 a1_1, .slice A1_2 l1_2.length c1_2, .slice (some ad225) l1_3.length c1_3] 106 (0, 0)) (r1_ BK221.out) hb); replace HB := Aside0.mk (below_step (r0_ HB.out GE221.out) hb); (try clear hb); (try clear hb2); (try clear hk); (try clear hi)))
         replace BK221 := Aside0.mk (blk_drew BK221.out)
         replace HB := Aside0.mk (below_drew1 HB.out)
         refine start_ (n := 15) (S := fun w' => True) (ds := []) #[f_,f_,f_,f_,f_,f_,f_,f_,f_,f_,f_,f_,f_,f_,f_] (by kernel_rfl) rfl rfl trivial (fun hHeld => ?_); refine with_tabW impl_IsRack.tab8 impl_IsRack.bits8 (fun HT_ HW_ => ?_)
         generalize w32.drew = w33 at BK221 HB hHeld ⊢
         refine pu_ 0 59 #[t_,f_,f_,f_,f_,f_,f_,f_,f_,f_,f_,f_,f_,f_,f_] HT_.out ?_
         refine pu_ 1 60 #[t_,t_,f_,f_,f_,f_,f_,f_,f_,f_,f_,f_,f_,f_,f_] HT_.out ?_
         refine pu_ 2 61 #[t_,t_,t_,f_,f_,f_,f_,f_,f_,f_,f_,f_,f_,f_,f_] HT_.out ?_
         refine un_ 3 62 #[t_,t_,t_,t_,f_,f_,f_,f_,f_,f_,f_,f_,f_,f_,f_] HT_.out ?_
         refine un_ 4 63 #[t_,t_,t_,t_,t_,f_,f_,f_,f_,f_,f_,f_,f_,f_,f_] HT_.out ?_
         refine un_ 5 64 #[t_,t_,t_,t_,t_,t_,f_,f_,f_,f_,f_,f_,f_,f_,f_] HT_.out ?_
         refine un_ 6 65 #[t_,t_,t_,t_,t_,t_,t_,f_,f_,f_,f_,f_,f_,f_,f_] HT_.out ?_
         refine un_ 7 66 #[t_,t_,t_,t_,t_,t_,t_,t_,f_,f_,f_,f_,f_,f_,f_] HT_.out ?_
         refine un_ 8 67 #[t_,t_,t_,t_,t_,t_,t_,t_,t_,f_,f_,f_,f_,f_,f_] HT_.out ?_
         refine un_ 9 68 #[t_,t_,t_,t_,t_,t_,t_,t_,t_,t_,f_,f_,f_,f_,f_] HT_.out ?_
         refine un_ 10 69 #[t_,t_,t_,t_,t_,t_,t_,t_,t_,t_,t_,f_,f_,f_,f_] HT_.out ?_
         refine un_ 11 70 #[t_,t_,t_,t_,t_,t_,t_,t_,t_,t_,t_,t_,f_,f_,f_] HT_.out ?_
         refine un_ 12 71 #[t_,t_,t_,t_,t_,t_,t_,t_,t_,t_,t_,t_,t_,f_,f_] HT_.out ?_
         refine un_ 13 72 #[t_,t_,t_,t_,t_,t_,t_,t_,t_,t_,t_,t_,t_,t_,f_] HT_.out ?_
         refine pu_ 14 73 #[t_,t_,t_,t_,t_,t_,t_,t_,t_,t_,t_,t_,t_,t_,t_] HT_.out ?_
         refine done_ (done_of HT_.out (by kernel_rfl)) ?_
         try go_wp2
         go_ret
         exact ⟨by first | rfl | (simp [errW_none, errW_some] <;> rfl) | (simp [*, errW_none, errW_some] <;> rfl), r0_ HB.out GE221.out⟩
        ·rw [if_neg c31] at H
         have c31b0 : decide (t226 < 0) = false := decide_eq_false c31
         clear c31
         by_cases c34 : 0 ≤ t226
         case neg =>
          rw [if_neg c34] at H
          exact absurd H (by simp)
         rw [if_pos c34] at H
         have c34b0 : decide (0 ≤ t226) = true := decide_eq_true c34
         clear c34
         by_cases c35 : t226 < (l0.length : Int)
         case neg =>
          rw [if_neg c35] at H
          exact absurd H (by simp)
         rw [if_pos c35] at H
         have c35b0 : decide (t226 < (l0.length : Int)) = true := decide_eq_true c35
         clear c35
         by_cases c36 : x49_2 < (l1_2.length : Int)
         case neg =>
          rw [if_neg c36] at H
          exact absurd H (by simp)
         rw [if_pos c36] at H
         have c36b0 : decide (x49_2 < (l1_2.length : Int)) = true := decide_eq_true c36
         clear c36
         replace H := Option.bind_eq_some_iff.mp H
         obtain ⟨t229, A370, H⟩ := H
         replace H : (if t229 = true then (impl_IsRack.l0 k2 l0 l1_3 (l1_3.length : Int) (wrap64 (x49_2 + 1)) a1_0 a1_1 l1_2 l1_3) else (some false)) = some r := H
         have A37 := Aside0.mk A370
         clear A370
         by_cases c38 : t229 = true
         ·subst c38
          replace H : (impl_IsRack.l0 k2 l0 l1_3 (l1_3.length : Int) (wrap64 (x49_2 + 1)) a1_0 a1_1 l1_2 l1_3) = some r := by rw [if_pos rfl] at H; exact H
          have H' := Aside0.mk H
          clear H
          have p225 : 0 ≤ (x49_2 : Int) := od_
          have q225 : x49_2 < (l1_3.length : Int) := od_
          obtain ⟨ad225, e225, hx225_0⟩ := Kd.at_string HR1_3.out x49_2 p225 q225
          cases e225
          replace hx225_0 := bc_ HB.out hx225_0
          replace p225 := eq_true p225
          replace q225 := eq_true q225
          try go_wp2_with (first | ((with_reducible refine gate_callee (f := 172) rfl ?_); refine goesL_ (some 58) rfl rfl Try.func172 (by kernel_rfl) rfl #[.slice A0 l0.length c0, .string (rdOf ByteArray.empty l1_3 x49_2)] rfl ag_ ?_; (with_reducible refine (impl_articleOf.calls k2 _ _ l0 (rdOf ByteArray.empty l1_3 x49_2) t226 _ ?side1 ?side2 A30.out).mono ?_); (case side1 => exact r2_ HR0.out HB.out); (case side2 => exact HC0.out); rintro e w39 ⟨rfl, hb⟩; refine ⟨_, rfl, ?_⟩; replace BK221 := Aside0.mk (blk_below (g := gb221) (o := .cells #[.int .i64 a1_0, .int .i64 a1_1, .slice A1_2 l1_2.length c1_2, .slice (some ad225) l1_3.length c1_3] 106 (0, 0)) (r1_ BK221.out) hb); replace HB := Aside0.mk (below_step (r0_ HB.out GE221.out) hb); (try clear hb); (try clear hb2); (try clear hk); (try clear hi)))
          replace BK221 := Aside0.mk (blk_drew BK221.out)
          replace HB := Aside0.mk (below_drew1 HB.out)
          have p227 : 0 ≤ (t226 : Int) := od_
          have q227 : t226 < (l0.length : Int) := od_
          obtain ⟨ad227, e227, hx227_0, hx227_1, hx227_2, hx227_3, hx227_4, hx227_5, hx227_6, hx227_7, hx227_8⟩ := at_T177 HR0.out t226 p227 q227
          have hw227_8 := hx227_8
          have hw227_7 := hx227_7
          have hw227_6 := hx227_6
          have hw227_5 := hx227_5
          have hw227_4 := hx227_4
          have hw227_3 := hx227_3
          have hw227_2 := hx227_2
          have hw227_1 := hx227_1
          have hw227_0 := hx227_0
          cases e227
          replace hx227_0 := bc_ HB.out hx227_0
          replace hx227_1 := bc_ HB.out hx227_1
          replace hx227_2 := bc_ HB.out hx227_2
          replace hx227_3 := bc_ HB.out hx227_3
          replace hx227_4 := bc_ HB.out hx227_4
          replace hx227_5 := bc_ HB.out hx227_5
          replace hx227_6 := bc_ HB.out hx227_6
          replace hx227_7 := bc_ HB.out hx227_7
          replace hx227_8 := bc_ HB.out hx227_8
          replace p227 := eq_true p227
          replace q227 := eq_true q227
          have p228 : 0 ≤ (x49_2 : Int) := od_
          have q228 : x49_2 < (l1_2.length : Int) := od_
          obtain ⟨ad228, e228, hx228_0⟩ := Kd.at_int HR1_2.out x49_2 p228 q228
          have hw228_0 := hx228_0
          cases e228
          replace hx228_0 := bc_ HB.out hx228_0
          replace p228 := eq_true p228
          replace q228 := eq_true q228
          refine start_ (n := 15) (S := fun w' => w'.cell? ⟨gb221, 0, none⟩ = some (.int .i64 a1_0) ∧ w'.cell? ⟨gb221, 1, none⟩ = some (.int .i64 a1_1) ∧ w'.cell? ⟨gb221, 2, none⟩ = some (.slice (some ad228) l1_2.length c1_2) ∧ w'.cell? ⟨gb221, 3, none⟩ = some (.slice (some ad225) l1_3.length c1_3) ∧ w'.cell? (ad227.add ((t226).toNat * 9)) = some (.string ((rd_T177 l0 t226).f0)) ∧ w'.cell? ⟨(ad227.add ((t226).toNat * 9)).block, (ad227.add ((t226).toNat * 9)).off + 1, none⟩ = some (.int .i64 ((rd_T177 l0 t226).f1)) ∧ w'.cell? ⟨(ad227.add ((t226).toNat * 9)).block, (ad227.add ((t226).toNat * 9)).off + 2, none⟩ = some (.int .i64 ((rd_T177 l0 t226).f2)) ∧ w'.cell? ⟨(ad227.add ((t226).toNat * 9)).block, (ad227.add ((t226).toNat * 9)).off + 3, none⟩ = some (.int .i64 ((rd_T177 l0 t226).f3)) ∧ w'.cell? ⟨(ad227.add ((t226).toNat * 9)).block, (ad227.add ((t226).toNat * 9)).off + 4, none⟩ = some (.int .i64 ((rd_T177 l0 t226).f4)) ∧ w'.cell? ⟨(ad227.add ((t226).toNat * 9)).block, (ad227.add ((t226).toNat * 9)).off + 5, none⟩ = some (.int .i64 ((rd_T177 l0 t226).f5)) ∧ w'.cell? ⟨(ad227.add ((t226).toNat * 9)).block, (ad227.add ((t226).toNat * 9)).off + 6, none⟩ = some (.int .i64 ((rd_T177 l0 t226).f6)) ∧ w'.cell? ⟨(ad227.add ((t226).toNat * 9)).block, (ad227.add ((t226).toNat * 9)).off + 7, none⟩ = some (.int .i64 ((rd_T177 l0 t226).f7)) ∧ w'.cell? ⟨(ad227.add ((t226).toNat * 9)).block, (ad227.add ((t226).toNat * 9)).off + 8, none⟩ = some (.int .i64 ((rd_T177 l0 t226).f8)) ∧ w'.cell? (ad228.add (x49_2).toNat) = some (.int .i64 (rd l1_2 x49_2))) (ds := []) #[f_,f_,f_,f_,f_,f_,f_,f_,f_,f_,f_,f_,f_,f_,f_] (by kernel_rfl) rfl rfl ⟨(blk_cell BK221.out 0).trans rfl, (blk_cell BK221.out 1).trans rfl, (blk_cell BK221.out 2).trans rfl, (blk_cell BK221.out 3).trans rfl, (bc_ HB.out hw227_0 :), (bc_ HB.out hw227_1 :), (bc_ HB.out hw227_2 :), (bc_ HB.out hw227_3 :), (bc_ HB.out hw227_4 :), (bc_ HB.out hw227_5 :), (bc_ HB.out hw227_6 :), (bc_ HB.out hw227_7 :), (bc_ HB.out hw227_8 :), (bc_ HB.out hw228_0 :)⟩ (fun hHeld => ?_); refine with_tabW impl_IsRack.tab8 impl_IsRack.bits8 (fun HT_ HW_ => ?_)
          generalize w39.drew = w40 at BK221 HB hx227_0 hx227_1 hx227_2 hx227_3 hx227_4 hx227_5 hx227_6 hx227_7 hx227_8 hx228_0 hHeld ⊢
          refine pu_ 0 59 #[t_,f_,f_,f_,f_,f_,f_,f_,f_,f_,f_,f_,f_,f_,f_] HT_.out ?_
          refine pu_ 1 60 #[t_,t_,f_,f_,f_,f_,f_,f_,f_,f_,f_,f_,f_,f_,f_] HT_.out ?_
          refine pu_ 2 61 #[t_,t_,t_,f_,f_,f_,f_,f_,f_,f_,f_,f_,f_,f_,f_] HT_.out ?_
          refine pu_ 3 62 #[t_,t_,t_,t_,f_,f_,f_,f_,f_,f_,f_,f_,f_,f_,f_] HT_.out ?_
          refine pu_ 4 63 #[t_,t_,t_,t_,t_,f_,f_,f_,f_,f_,f_,f_,f_,f_,f_] HT_.out ?_
          refine pu_ 5 64 #[t_,t_,t_,t_,t_,t_,f_,f_,f_,f_,f_,f_,f_,f_,f_] HT_.out ?_
          refine pu_ 7 66 #[t_,t_,t_,t_,t_,t_,f_,t_,f_,f_,f_,f_,f_,f_,f_] HT_.out ?_
          refine pu_ 9 68 #[t_,t_,t_,t_,t_,t_,f_,t_,f_,t_,f_,f_,f_,f_,f_] HT_.out ?_
          refine take_ (i := 6) (N := some 65) (v := ?_) (a' := ?_) #[t_,t_,t_,t_,t_,t_,t_,t_,f_,t_,f_,f_,f_,f_,f_] rfl rfl (take_ofW HT_.out HW_.out (by kernel_rfl)) (fun _ _ _ h => h) (Or.inl ⟨by rfl, ?_⟩) hHeld ?_ ?_
          rotate_left
          ·rintro w' ⟨s0, s1, s2, s3, s4, s5, s6, s7, s8, s9, s10, s11, s12, s13⟩
           go_simp
           with_reducible rfl
          rotate_left
          ·simp only [pz_]
           rfl
          refine take_ (i := 8) (N := some 67) (v := ?_) (a' := ?_) #[t_,t_,t_,t_,t_,t_,t_,t_,t_,t_,f_,f_,f_,f_,f_] rfl rfl (take_ofW HT_.out HW_.out (by kernel_rfl)) (fun _ _ _ h => h) (Or.inl ⟨by rfl, ?_⟩) hHeld ?_ ?_
          rotate_left
          ·rintro w' ⟨s0, s1, s2, s3, s4, s5, s6, s7, s8, s9, s10, s11, s12, s13⟩
           go_simp
           with_reducible rfl
          rotate_left
          ·simp only [pz_]
           rfl
          refine pu_ 10 69 #[t_,t_,t_,t_,t_,t_,t_,t_,t_,t_,t_,f_,f_,f_,f_] HT_.out ?_
          refine take_ (i := 11) (N := some 70) (v := ?_) (a' := ?_) #[t_,t_,t_,t_,t_,t_,t_,t_,t_,t_,t_,t_,f_,f_,f_] rfl rfl (take_ofW HT_.out HW_.out (by kernel_rfl)) (fun _ _ _ h => h) (Or.inl ⟨by rfl, ?_⟩) hHeld ?_ ?_
          rotate_left
          ·rintro w' ⟨s0, s1, s2, s3, s4, s5, s6, s7, s8, s9, s10, s11, s12, s13⟩
           go_simp
           with_reducible rfl
          rotate_left
          ·simp only [pz_]
           rfl
          refine one_ (i := 12) (N := some 71) #[t_,t_,t_,t_,t_,t_,t_,t_,t_,t_,t_,t_,t_,f_,f_] rfl rfl (one_of HT_.out (by kernel_rfl)) (by decide) (fun K hK => ?_)
          refine goes_ Try.func173 (by kernel_rfl) rfl #[.agg #[.string ((rd_T177 l0 t226).f0), .int .i64 ((rd_T177 l0 t226).f1), .int .i64 ((rd_T177 l0 t226).f2), .int .i64 ((rd_T177 l0 t226).f3), .int .i64 ((rd_T177 l0 t226).f4), .int .i64 ((rd_T177 l0 t226).f5), .int .i64 ((rd_T177 l0 t226).f6), .int .i64 ((rd_T177 l0 t226).f7), .int .i64 ((rd_T177 l0 t226).f8)], .int .i64 (rd l1_2 x49_2)] (by rfl) rfl rfl ag_ ?_
          with_reducible refine (impl_fits.calls ((rd_T177 l0 t226).f0) ((rd_T177 l0 t226).f1) ((rd_T177 l0 t226).f2) ((rd_T177 l0 t226).f3) ((rd_T177 l0 t226).f4) ((rd_T177 l0 t226).f5) ((rd_T177 l0 t226).f6) ((rd_T177 l0 t226).f7) ((rd_T177 l0 t226).f8) (rd l1_2 x49_2) true _ A37.out).mono ?_
          rintro e w41 ⟨rfl, hb⟩
          refine ⟨_, rfl, ?_⟩
          replace BK221 := Aside0.mk (blk_below (g := gb221) (o := .cells #[.int .i64 a1_0, .int .i64 a1_1, .slice (some ad228) l1_2.length c1_2, .slice (some ad225) l1_3.length c1_3] 106 (0, 0)) (r1_ BK221.out) hb)
          replace HB := Aside0.mk (below_step (r0_ HB.out GE221.out) hb)
          (try clear hb)
          (try clear hb2)
          (try clear hk)
          (try clear hi)
          refine hK.out _ _ ⟨(blk_cell BK221.out 0).trans rfl, (blk_cell BK221.out 1).trans rfl, (blk_cell BK221.out 2).trans rfl, (blk_cell BK221.out 3).trans rfl, (bc_ HB.out hw227_0 :), (bc_ HB.out hw227_1 :), (bc_ HB.out hw227_2 :), (bc_ HB.out hw227_3 :), (bc_ HB.out hw227_4 :), (bc_ HB.out hw227_5 :), (bc_ HB.out hw227_6 :), (bc_ HB.out hw227_7 :), (bc_ HB.out hw227_8 :), (bc_ HB.out hw228_0 :)⟩ (fun hHeld => ?_)
          clear hK K
          refine norm_ (a' := ?_) ?_ ?_
          rotate_left
          ·show Act.put _ (some 71) _ = _
           simp only [pz_]
           rfl
          refine pu_ 13 72 #[t_,t_,t_,t_,t_,t_,t_,t_,t_,t_,t_,t_,t_,t_,f_] HT_.out ?_
          refine pu_ 14 73 #[t_,t_,t_,t_,t_,t_,t_,t_,t_,t_,t_,t_,t_,t_,t_] HT_.out ?_
          refine done_ (done_of HT_.out (by kernel_rfl)) ?_
          try go_wp2
          go_roundg k2
          case measure => have := HJ2.out; have := HK2.out; omega
          case rel => exact ⟨(wrap64 (x49_2 + 1)), (by first | rfl | (simp; done) | (simp [*]; done)), H', ⟨by have := HJ2.out; have := HK2.out; omega⟩, ⟨r1_ BK221.out⟩, ⟨r0_ HB.out GE221.out⟩⟩
         ·replace c38 := Bool.eq_false_iff.mpr c38
          subst c38
          replace H : (some false) = some r := by rw [if_neg (show ¬ (false = true) by decide)] at H; exact H
          obtain rfl := Option.some.inj H
          have p225 : 0 ≤ (x49_2 : Int) := od_
          have q225 : x49_2 < (l1_3.length : Int) := od_
          obtain ⟨ad225, e225, hx225_0⟩ := Kd.at_string HR1_3.out x49_2 p225 q225
          cases e225
          replace hx225_0 := bc_ HB.out hx225_0
          replace p225 := eq_true p225
          replace q225 := eq_true q225
          try go_wp2_with (first | ((with_reducible refine gate_callee (f := 172) rfl ?_); refine goesL_ (some 58) rfl rfl Try.func172 (by kernel_rfl) rfl #[.slice A0 l0.length c0, .string (rdOf ByteArray.empty l1_3 x49_2)] rfl ag_ ?_; (with_reducible refine (impl_articleOf.calls k2 _ _ l0 (rdOf ByteArray.empty l1_3 x49_2) t226 _ ?side1 ?side2 A30.out).mono ?_); (case side1 => exact r2_ HR0.out HB.out); (case side2 => exact HC0.out); rintro e w42 ⟨rfl, hb⟩; refine ⟨_, rfl, ?_⟩; replace BK221 := Aside0.mk (blk_below (g := gb221) (o := .cells #[.int .i64 a1_0, .int .i64 a1_1, .slice A1_2 l1_2.length c1_2, .slice (some ad225) l1_3.length c1_3] 106 (0, 0)) (r1_ BK221.out) hb); replace HB := Aside0.mk (below_step (r0_ HB.out GE221.out) hb); (try clear hb); (try clear hb2); (try clear hk); (try clear hi)))
          replace BK221 := Aside0.mk (blk_drew BK221.out)
          replace HB := Aside0.mk (below_drew1 HB.out)
          have p227 : 0 ≤ (t226 : Int) := od_
          have q227 : t226 < (l0.length : Int) := od_
          obtain ⟨ad227, e227, hx227_0, hx227_1, hx227_2, hx227_3, hx227_4, hx227_5, hx227_6, hx227_7, hx227_8⟩ := at_T177 HR0.out t226 p227 q227
          have hw227_8 := hx227_8
          have hw227_7 := hx227_7
          have hw227_6 := hx227_6
          have hw227_5 := hx227_5
          have hw227_4 := hx227_4
          have hw227_3 := hx227_3
          have hw227_2 := hx227_2
          have hw227_1 := hx227_1
          have hw227_0 := hx227_0
          cases e227
          replace hx227_0 := bc_ HB.out hx227_0
          replace hx227_1 := bc_ HB.out hx227_1
          replace hx227_2 := bc_ HB.out hx227_2
          replace hx227_3 := bc_ HB.out hx227_3
          replace hx227_4 := bc_ HB.out hx227_4
          replace hx227_5 := bc_ HB.out hx227_5
          replace hx227_6 := bc_ HB.out hx227_6
          replace hx227_7 := bc_ HB.out hx227_7
          replace hx227_8 := bc_ HB.out hx227_8
          replace p227 := eq_true p227
          replace q227 := eq_true q227
          have p228 : 0 ≤ (x49_2 : Int) := od_
          have q228 : x49_2 < (l1_2.length : Int) := od_
          obtain ⟨ad228, e228, hx228_0⟩ := Kd.at_int HR1_2.out x49_2 p228 q228
          have hw228_0 := hx228_0
          cases e228
          replace hx228_0 := bc_ HB.out hx228_0
          replace p228 := eq_true p228
          replace q228 := eq_true q228
          refine start_ (n := 15) (S := fun w' => w'.cell? ⟨gb221, 0, none⟩ = some (.int .i64 a1_0) ∧ w'.cell? ⟨gb221, 1, none⟩ = some (.int .i64 a1_1) ∧ w'.cell? ⟨gb221, 2, none⟩ = some (.slice (some ad228) l1_2.length c1_2) ∧ w'.cell? ⟨gb221, 3, none⟩ = some (.slice (some ad225) l1_3.length c1_3) ∧ w'.cell? (ad227.add ((t226).toNat * 9)) = some (.string ((rd_T177 l0 t226).f0)) ∧ w'.cell? ⟨(ad227.add ((t226).toNat * 9)).block, (ad227.add ((t226).toNat * 9)).off + 1, none⟩ = some (.int .i64 ((rd_T177 l0 t226).f1)) ∧ w'.cell? ⟨(ad227.add ((t226).toNat * 9)).block, (ad227.add ((t226).toNat * 9)).off + 2, none⟩ = some (.int .i64 ((rd_T177 l0 t226).f2)) ∧ w'.cell? ⟨(ad227.add ((t226).toNat * 9)).block, (ad227.add ((t226).toNat * 9)).off + 3, none⟩ = some (.int .i64 ((rd_T177 l0 t226).f3)) ∧ w'.cell? ⟨(ad227.add ((t226).toNat * 9)).block, (ad227.add ((t226).toNat * 9)).off + 4, none⟩ = some (.int .i64 ((rd_T177 l0 t226).f4)) ∧ w'.cell? ⟨(ad227.add ((t226).toNat * 9)).block, (ad227.add ((t226).toNat * 9)).off + 5, none⟩ = some (.int .i64 ((rd_T177 l0 t226).f5)) ∧ w'.cell? ⟨(ad227.add ((t226).toNat * 9)).block, (ad227.add ((t226).toNat * 9)).off + 6, none⟩ = some (.int .i64 ((rd_T177 l0 t226).f6)) ∧ w'.cell? ⟨(ad227.add ((t226).toNat * 9)).block, (ad227.add ((t226).toNat * 9)).off + 7, none⟩ = some (.int .i64 ((rd_T177 l0 t226).f7)) ∧ w'.cell? ⟨(ad227.add ((t226).toNat * 9)).block, (ad227.add ((t226).toNat * 9)).off + 8, none⟩ = some (.int .i64 ((rd_T177 l0 t226).f8)) ∧ w'.cell? (ad228.add (x49_2).toNat) = some (.int .i64 (rd l1_2 x49_2))) (ds := []) #[f_,f_,f_,f_,f_,f_,f_,f_,f_,f_,f_,f_,f_,f_,f_] (by kernel_rfl) rfl rfl ⟨(blk_cell BK221.out 0).trans rfl, (blk_cell BK221.out 1).trans rfl, (blk_cell BK221.out 2).trans rfl, (blk_cell BK221.out 3).trans rfl, (bc_ HB.out hw227_0 :), (bc_ HB.out hw227_1 :), (bc_ HB.out hw227_2 :), (bc_ HB.out hw227_3 :), (bc_ HB.out hw227_4 :), (bc_ HB.out hw227_5 :), (bc_ HB.out hw227_6 :), (bc_ HB.out hw227_7 :), (bc_ HB.out hw227_8 :), (bc_ HB.out hw228_0 :)⟩ (fun hHeld => ?_); refine with_tabW impl_IsRack.tab8 impl_IsRack.bits8 (fun HT_ HW_ => ?_)
          generalize w42.drew = w43 at BK221 HB hx227_0 hx227_1 hx227_2 hx227_3 hx227_4 hx227_5 hx227_6 hx227_7 hx227_8 hx228_0 hHeld ⊢
          refine pu_ 0 59 #[t_,f_,f_,f_,f_,f_,f_,f_,f_,f_,f_,f_,f_,f_,f_] HT_.out ?_
          refine pu_ 1 60 #[t_,t_,f_,f_,f_,f_,f_,f_,f_,f_,f_,f_,f_,f_,f_] HT_.out ?_
          refine pu_ 2 61 #[t_,t_,t_,f_,f_,f_,f_,f_,f_,f_,f_,f_,f_,f_,f_] HT_.out ?_
          refine pu_ 3 62 #[t_,t_,t_,t_,f_,f_,f_,f_,f_,f_,f_,f_,f_,f_,f_] HT_.out ?_
          refine pu_ 4 63 #[t_,t_,t_,t_,t_,f_,f_,f_,f_,f_,f_,f_,f_,f_,f_] HT_.out ?_
          refine pu_ 5 64 #[t_,t_,t_,t_,t_,t_,f_,f_,f_,f_,f_,f_,f_,f_,f_] HT_.out ?_
          refine pu_ 7 66 #[t_,t_,t_,t_,t_,t_,f_,t_,f_,f_,f_,f_,f_,f_,f_] HT_.out ?_
          refine pu_ 9 68 #[t_,t_,t_,t_,t_,t_,f_,t_,f_,t_,f_,f_,f_,f_,f_] HT_.out ?_
          refine take_ (i := 6) (N := some 65) (v := ?_) (a' := ?_) #[t_,t_,t_,t_,t_,t_,t_,t_,f_,t_,f_,f_,f_,f_,f_] rfl rfl (take_ofW HT_.out HW_.out (by kernel_rfl)) (fun _ _ _ h => h) (Or.inl ⟨by rfl, ?_⟩) hHeld ?_ ?_
          rotate_left
          ·rintro w' ⟨s0, s1, s2, s3, s4, s5, s6, s7, s8, s9, s10, s11, s12, s13⟩
           go_simp
           with_reducible rfl
          rotate_left
          ·simp only [pz_]
           rfl
          refine take_ (i := 8) (N := some 67) (v := ?_) (a' := ?_) #[t_,t_,t_,t_,t_,t_,t_,t_,t_,t_,f_,f_,f_,f_,f_] rfl rfl (take_ofW HT_.out HW_.out (by kernel_rfl)) (fun _ _ _ h => h) (Or.inl ⟨by rfl, ?_⟩) hHeld ?_ ?_
          rotate_left
          ·rintro w' ⟨s0, s1, s2, s3, s4, s5, s6, s7, s8, s9, s10, s11, s12, s13⟩
           go_simp
           with_reducible rfl
          rotate_left
          ·simp only [pz_]
           rfl
          refine pu_ 10 69 #[t_,t_,t_,t_,t_,t_,t_,t_,t_,t_,t_,f_,f_,f_,f_] HT_.out ?_
          refine take_ (i := 11) (N := some 70) (v := ?_) (a' := ?_) #[t_,t_,t_,t_,t_,t_,t_,t_,t_,t_,t_,t_,f_,f_,f_] rfl rfl (take_ofW HT_.out HW_.out (by kernel_rfl)) (fun _ _ _ h => h) (Or.inl ⟨by rfl, ?_⟩) hHeld ?_ ?_
          rotate_left
          ·rintro w' ⟨s0, s1, s2, s3, s4, s5, s6, s7, s8, s9, s10, s11, s12, s13⟩
           go_simp
           with_reducible rfl
          rotate_left
          ·simp only [pz_]
           rfl
          refine one_ (i := 12) (N := some 71) #[t_,t_,t_,t_,t_,t_,t_,t_,t_,t_,t_,t_,t_,f_,f_] rfl rfl (one_of HT_.out (by kernel_rfl)) (by decide) (fun K hK => ?_)
          refine goes_ Try.func173 (by kernel_rfl) rfl #[.agg #[.string ((rd_T177 l0 t226).f0), .int .i64 ((rd_T177 l0 t226).f1), .int .i64 ((rd_T177 l0 t226).f2), .int .i64 ((rd_T177 l0 t226).f3), .int .i64 ((rd_T177 l0 t226).f4), .int .i64 ((rd_T177 l0 t226).f5), .int .i64 ((rd_T177 l0 t226).f6), .int .i64 ((rd_T177 l0 t226).f7), .int .i64 ((rd_T177 l0 t226).f8)], .int .i64 (rd l1_2 x49_2)] (by rfl) rfl rfl ag_ ?_
          with_reducible refine (impl_fits.calls ((rd_T177 l0 t226).f0) ((rd_T177 l0 t226).f1) ((rd_T177 l0 t226).f2) ((rd_T177 l0 t226).f3) ((rd_T177 l0 t226).f4) ((rd_T177 l0 t226).f5) ((rd_T177 l0 t226).f6) ((rd_T177 l0 t226).f7) ((rd_T177 l0 t226).f8) (rd l1_2 x49_2) false _ A37.out).mono ?_
          rintro e w44 ⟨rfl, hb⟩
          refine ⟨_, rfl, ?_⟩
          replace BK221 := Aside0.mk (blk_below (g := gb221) (o := .cells #[.int .i64 a1_0, .int .i64 a1_1, .slice (some ad228) l1_2.length c1_2, .slice (some ad225) l1_3.length c1_3] 106 (0, 0)) (r1_ BK221.out) hb)
          replace HB := Aside0.mk (below_step (r0_ HB.out GE221.out) hb)
          (try clear hb)
          (try clear hb2)
          (try clear hk)
          (try clear hi)
          refine hK.out _ _ ⟨(blk_cell BK221.out 0).trans rfl, (blk_cell BK221.out 1).trans rfl, (blk_cell BK221.out 2).trans rfl, (blk_cell BK221.out 3).trans rfl, (bc_ HB.out hw227_0 :), (bc_ HB.out hw227_1 :), (bc_ HB.out hw227_2 :), (bc_ HB.out hw227_3 :), (bc_ HB.out hw227_4 :), (bc_ HB.out hw227_5 :), (bc_ HB.out hw227_6 :), (bc_ HB.out hw227_7 :), (bc_ HB.out hw227_8 :), (bc_ HB.out hw228_0 :)⟩ (fun hHeld => ?_)
          clear hK K
          refine norm_ (a' := ?_) ?_ ?_
          rotate_left
          ·show Act.put _ (some 71) _ = _
           simp only [pz_]
           rfl
          refine pu_ 13 72 #[t_,t_,t_,t_,t_,t_,t_,t_,t_,t_,t_,t_,t_,t_,f_] HT_.out ?_
          refine pu_ 14 73 #[t_,t_,t_,t_,t_,t_,t_,t_,t_,t_,t_,t_,t_,t_,t_] HT_.out ?_
          refine done_ (done_of HT_.out (by kernel_rfl)) ?_
          try go_wp2
          go_ret
          exact ⟨by first | rfl | (simp [errW_none, errW_some] <;> rfl) | (simp [*, errW_none, errW_some] <;> rfl), r0_ HB.out GE221.out⟩
      ·rw [if_neg c26] at H
       have c26b0 : decide (x49_2 < (l1_3.length : Int)) = false := decide_eq_false c26
       clear c26
       obtain rfl := Option.some.inj H
       go_wp2
       go_ret
       exact ⟨by first | rfl | (simp [errW_none, errW_some] <;> rfl) | (simp [*, errW_none, errW_some] <;> rfl), r0_ HB.out GE221.out⟩
end Go.Proofs.Ytmahecjbejffoaa.PFnExactIsRack
