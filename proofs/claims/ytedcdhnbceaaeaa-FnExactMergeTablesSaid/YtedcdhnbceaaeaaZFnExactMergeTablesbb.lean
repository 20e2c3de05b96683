/- QFnExactMergeTablesc of the law FnExactMergeTables: taken over, declaration by declaration, as far as the law leans on it (the words and the printed functions are the kit's own print). No condition but what each says. -/
import Derived.Test.YtedcdhnbceaaeaaZFnExactMergeTablesav
import Derived.Test.YtedcdhnbceaaeaaZFnExactMergeTablesaw
namespace Go.Proofs.Ytedcdhnbceaaeaa.PFnExactMergeTables
open Go.RowKit Go.Proofs.YtedcdhnbceaaeaaW.PrintWords Go.Proofs.YtedcdhnbceaaeaaW.PrintLast Go.Proofs.YtedcdhnbceaaeaaW.PrintMore
attribute [local go_sem] max2_int min2_int max_two min_two max_three min_three max_four min_four   -- for this text's walks alone
set_option linter.unusedVariables false
set_option linter.unusedSimpArgs false
open Bool renaming true → t_, false → f_
def spec_l01In.f (a0 : Int) (a1 : Int) (a2 : Int) : Option (Bool) := if a0 ≥ a1 then (some (decide (a0 ≤ a2))) else (some false)
set_option maxHeartbeats 8000000 in
set_option maxRecDepth 100000 in
theorem spec_l01In.calls (a0 : Int) (a1 : Int) (a2 : Int) (r : Bool) (w : World) (h : spec_l01In.f a0 a1 a2 = some r) :
    Calls Try.prog 148 #[.int .i64 a0, .int .i64 a1, .int .i64 a2] w fun e w' => e = .returned (.bool r) ∧ Drawn0 w w' := by
  have H : (if a0 ≥ a1 then (some (decide (a0 ≤ a2))) else (some false)) = some r := h
  clear h
  by_cases c4 : a0 ≥ a1
  · rw [if_pos c4] at H
    have c4b0 : decide (a1 ≤ a0) = true := decide_eq_true c4
    clear c4
    obtain rfl := Option.some.inj H
    go_enter Try.func148, Try.ntmps148
    go_wp2
    go_ret
    exact ⟨by first | rfl | (simp; done) | (simp [*]; done), by repeat (first | exact Drawn0.refl _ | apply Drawn0.step)⟩
  · rw [if_neg c4] at H
    have c4b0 : decide (a1 ≤ a0) = false := decide_eq_false c4
    clear c4
    obtain rfl := Option.some.inj H
    go_enter Try.func148, Try.ntmps148
    go_wp2
    go_ret
    exact ⟨by first | rfl | (simp; done) | (simp [*]; done), by repeat (first | exact Drawn0.refl _ | apply Drawn0.step)⟩
def spec_l16Before.f (a0_0 : Int) (a0_1 : Int) (a0_2 : Int) (a1_0 : Int) (a1_1 : Int) (a1_2 : Int) : Option (Bool) := if a0_0 < a1_0 then (some true) else (if a0_0 = a1_0 then (some (decide (a0_1 < a1_1))) else (some false))
set_option maxHeartbeats 8000000 in
set_option maxRecDepth 100000 in
theorem spec_l16Before.calls (a0_0 : Int) (a0_1 : Int) (a0_2 : Int) (a1_0 : Int) (a1_1 : Int) (a1_2 : Int) (r : Bool) (w : World) (h : spec_l16Before.f a0_0 a0_1 a0_2 a1_0 a1_1 a1_2 = some r) :
  Calls Try.prog 150 #[.agg #[.int .i64 a0_0, .int .i64 a0_1, .int .i64 a0_2], .agg #[.int .i64 a1_0, .int .i64 a1_1, .int .i64 a1_2]] w fun e w' => e = .returned (.bool r) ∧ Below w.heap.size w w' := by
 have hu81 := Try.underlying81
 have HB := Aside0.mk (Below.refl w.heap.size w)
 have H : (if a0_0 < a1_0 then (some true) else (if a0_0 = a1_0 then (some (decide (a0_1 < a1_1))) else (some false))) = some r := h
 clear h
 by_cases c3 : a0_0 < a1_0
 ·rw [if_pos c3] at H
  have c3b0 : decide (a0_0 < a1_0) = true := decide_eq_true c3
  clear c3
  obtain rfl := Option.some.inj H
  go_enter Try.func150, Try.ntmps150
  go_wp2_with (first | ((with_reducible refine gate_dst (N := 2) rfl ?_); refine box_event ?hg (N := 2) ?hd (cs := #[.int .i64 a0_0, .int .i64 a0_1, .int .i64 a0_2]) (t := 81) ?hr ?_; (case hd => rfl); (case hg => rfl); (case hr => first | (go_simp; done) | (go_simp; rfl)); intro gb189 hg w4 hbox hb; have BK189 := Aside0.mk (hbox); have GW189 := Aside0.mk ((by rw [hg]; exact (below_size (bl_ HB.out)) : w.heap.size ≤ gb189)); have GE189 := Aside0.mk ((by rw [hg]; exact (below_size (bl_ HB.out)) : w.heap.size ≤ gb189)); replace HB := Aside0.mk (below_step (bl_ HB.out) hb); clear hb hbox hg) | ((with_reducible refine gate_dst (N := 3) rfl ?_); refine box_event ?hg (N := 3) ?hd (cs := #[.int .i64 a1_0, .int .i64 a1_1, .int .i64 a1_2]) (t := 81) ?hr ?_; (case hd => rfl); (case hg => rfl); (case hr => first | (go_simp; done) | (go_simp; rfl)); intro gb190 hg w5 hbox hb; have BK190 := Aside0.mk (hbox); have GW190 := Aside0.mk ((by rw [hg]; exact (below_size (r0_ HB.out GE189.out)) : w.heap.size ≤ gb190)); have GE190 := Aside0.mk ((by rw [hg]; exact (below_size (r0_ HB.out GE189.out)) : w.heap.size ≤ gb190)); replace HB := Aside0.mk (below_step (r0_ HB.out GE189.out) hb); have NB189_190 := Aside0.mk ((by rw [hg]; exact Nat.ne_of_lt (blk_lt (g := gb189) (o := .cells #[.int .i64 a0_0, .int .i64 a0_1, .int .i64 a0_2] 81 (0, 0)) (r1_ BK189.out)) : gb189 ≠ gb190)); have NB190_189 := Aside0.mk ((by rw [hg]; exact Nat.ne_of_gt (blk_lt (g := gb189) (o := .cells #[.int .i64 a0_0, .int .i64 a0_1, .int .i64 a0_2] 81 (0, 0)) (r1_ BK189.out)) : gb190 ≠ gb189)); replace BK189 := Aside0.mk (blk_below (g := gb189) (o := .cells #[.int .i64 a0_0, .int .i64 a0_1, .int .i64 a0_2] 81 (0, 0)) (r1_ BK189.out) hb); clear hb hbox hg; have hnb6 := NB189_190.out; have hnc6 := NB190_189.out; have hcz7_0 : w5.cell? ⟨gb189, 0, none⟩ = some (.int .i64 a0_0) := (blk_cell BK189.out 0).trans rfl; have hcz7_1 : w5.cell? ⟨gb189, 1, none⟩ = some (.int .i64 a0_1) := (blk_cell BK189.out 1).trans rfl; have hcz7_2 : w5.cell? ⟨gb189, 2, none⟩ = some (.int .i64 a0_2) := (blk_cell BK189.out 2).trans rfl; have hfz7_0 := blk_frozen BK189.out 0; have hfz7_1 := blk_frozen BK189.out 1; have hfz7_2 := blk_frozen BK189.out 2; have hcz8_0 : w5.cell? ⟨gb190, 0, none⟩ = some (.int .i64 a1_0) := (blk_cell BK190.out 0).trans rfl; have hcz8_1 : w5.cell? ⟨gb190, 1, none⟩ = some (.int .i64 a1_1) := (blk_cell BK190.out 1).trans rfl; have hcz8_2 : w5.cell? ⟨gb190, 2, none⟩ = some (.int .i64 a1_2) := (blk_cell BK190.out 2).trans rfl; have hfz8_0 := blk_frozen BK190.out 0; have hfz8_1 := blk_frozen BK190.out 1; have hfz8_2 := blk_frozen BK190.out 2))
  go_ret
  exact ⟨by first | rfl | (simp [errW_none, errW_some] <;> rfl) | (simp [*, errW_none, errW_some] <;> rfl), r2_ HB.out GE189.out GE190.out⟩
 ·rw [if_neg c3] at H
  have c3b0 : decide (a0_0 < a1_0) = false := decide_eq_false c3
  clear c3
  by_cases c9 : a0_0 = a1_0
  ·rw [if_pos c9] at H
   have c9b0 : (a0_0 == a1_0) = true := beq_iff_eq.mpr c9
   have c9b1 : (a0_0 != a1_0) = false := bne_eq_false_iff_eq.mpr c9
   clear c9
   obtain rfl := Option.some.inj H
   go_enter Try.func150, Try.ntmps150
   go_wp2_with (first | ((with_reducible refine gate_dst (N := 2) rfl ?_); refine box_event ?hg (N := 2) ?hd (cs := #[.int .i64 a0_0, .int .i64 a0_1, .int .i64 a0_2]) (t := 81) ?hr ?_; (case hd => rfl); (case hg => rfl); (case hr => first | (go_simp; done) | (go_simp; rfl)); intro gb189 hg w10 hbox hb; have BK189 := Aside0.mk (hbox); have GW189 := Aside0.mk ((by rw [hg]; exact (below_size (bl_ HB.out)) : w.heap.size ≤ gb189)); have GE189 := Aside0.mk ((by rw [hg]; exact (below_size (bl_ HB.out)) : w.heap.size ≤ gb189)); replace HB := Aside0.mk (below_step (bl_ HB.out) hb); clear hb hbox hg) | ((with_reducible refine gate_dst (N := 3) rfl ?_); refine box_event ?hg (N := 3) ?hd (cs := #[.int .i64 a1_0, .int .i64 a1_1, .int .i64 a1_2]) (t := 81) ?hr ?_; (case hd => rfl); (case hg => rfl); (case hr => first | (go_simp; done) | (go_simp; rfl)); intro gb190 hg w11 hbox hb; have BK190 := Aside0.mk (hbox); have GW190 := Aside0.mk ((by rw [hg]; exact (below_size (r0_ HB.out GE189.out)) : w.heap.size ≤ gb190)); have GE190 := Aside0.mk ((by rw [hg]; exact (below_size (r0_ HB.out GE189.out)) : w.heap.size ≤ gb190)); replace HB := Aside0.mk (below_step (r0_ HB.out GE189.out) hb); have NB189_190 := Aside0.mk ((by rw [hg]; exact Nat.ne_of_lt (blk_lt (g := gb189) (o := .cells #[.int .i64 a0_0, .int .i64 a0_1, .int .i64 a0_2] 81 (0, 0)) (r1_ BK189.out)) : gb189 ≠ gb190)); have NB190_189 := Aside0.mk ((by rw [hg]; exact Nat.ne_of_gt (blk_lt (g := gb189) (o := .cells #[.int .i64 a0_0, .int .i64 a0_1, .int .i64 a0_2] 81 (0, 0)) (r1_ BK189.out)) : gb190 ≠ gb189)); replace BK189 := Aside0.mk (blk_below (g := gb189) (o := .cells #[.int .i64 a0_0, .int .i64 a0_1, .int .i64 a0_2] 81 (0, 0)) (r1_ BK189.out) hb); clear hb hbox hg; have hnb12 := NB189_190.out; have hnc12 := NB190_189.out; have hcz13_0 : w11.cell? ⟨gb189, 0, none⟩ = some (.int .i64 a0_0) := (blk_cell BK189.out 0).trans rfl; have hcz13_1 : w11.cell? ⟨gb189, 1, none⟩ = some (.int .i64 a0_1) := (blk_cell BK189.out 1).trans rfl; have hcz13_2 : w11.cell? ⟨gb189, 2, none⟩ = some (.int .i64 a0_2) := (blk_cell BK189.out 2).trans rfl; have hfz13_0 := blk_frozen BK189.out 0; have hfz13_1 := blk_frozen BK189.out 1; have hfz13_2 := blk_frozen BK189.out 2; have hcz14_0 : w11.cell? ⟨gb190, 0, none⟩ = some (.int .i64 a1_0) := (blk_cell BK190.out 0).trans rfl; have hcz14_1 : w11.cell? ⟨gb190, 1, none⟩ = some (.int .i64 a1_1) := (blk_cell BK190.out 1).trans rfl; have hcz14_2 : w11.cell? ⟨gb190, 2, none⟩ = some (.int .i64 a1_2) := (blk_cell BK190.out 2).trans rfl; have hfz14_0 := blk_frozen BK190.out 0; have hfz14_1 := blk_frozen BK190.out 1; have hfz14_2 := blk_frozen BK190.out 2))
   go_ret
   exact ⟨by first | rfl | (simp [errW_none, errW_some] <;> rfl) | (simp [*, errW_none, errW_some] <;> rfl), r2_ HB.out GE189.out GE190.out⟩
  ·rw [if_neg c9] at H
   have c9b0 : (a0_0 == a1_0) = false := beq_eq_false_iff_ne.mpr c9
   have c9b1 : (a0_0 != a1_0) = true := bne_iff_ne.mpr c9
   obtain rfl := Option.some.inj H
   go_enter Try.func150, Try.ntmps150
   go_wp2_with (first | ((with_reducible refine gate_dst (N := 2) rfl ?_); refine box_event ?hg (N := 2) ?hd (cs := #[.int .i64 a0_0, .int .i64 a0_1, .int .i64 a0_2]) (t := 81) ?hr ?_; (case hd => rfl); (case hg => rfl); (case hr => first | (go_simp; done) | (go_simp; rfl)); intro gb189 hg w15 hbox hb; have BK189 := Aside0.mk (hbox); have GW189 := Aside0.mk ((by rw [hg]; exact (below_size (bl_ HB.out)) : w.heap.size ≤ gb189)); have GE189 := Aside0.mk ((by rw [hg]; exact (below_size (bl_ HB.out)) : w.heap.size ≤ gb189)); replace HB := Aside0.mk (below_step (bl_ HB.out) hb); clear hb hbox hg) | ((with_reducible refine gate_dst (N := 3) rfl ?_); refine box_event ?hg (N := 3) ?hd (cs := #[.int .i64 a1_0, .int .i64 a1_1, .int .i64 a1_2]) (t := 81) ?hr ?_; (case hd => rfl); (case hg => rfl); (case hr => first | (go_simp; done) | (go_simp; rfl)); intro gb190 hg w16 hbox hb; have BK190 := Aside0.mk (hbox); have GW190 := Aside0.mk ((by rw [hg]; exact (below_size (r0_ HB.out GE189.out)) : w.heap.size ≤ gb190)); have GE190 := Aside0.mk ((by rw [hg]; exact (below_size (r0_ HB.out GE189.out)) : w.heap.size ≤ gb190)); replace HB := Aside0.mk (below_step (r0_ HB.out GE189.out) hb); have NB189_190 := Aside0.mk ((by rw [hg]; exact Nat.ne_of_lt (blk_lt (g := gb189) (o := .cells #[.int .i64 a0_0, .int .i64 a0_1, .int .i64 a0_2] 81 (0, 0)) (r1_ BK189.out)) : gb189 ≠ gb190)); have NB190_189 := Aside0.mk ((by rw [hg]; exact Nat.ne_of_gt (blk_lt (g := gb189) (o := .cells #[.int .i64 a0_0, .int .i64 a0_1, .int .i64 a0_2] 81 (0, 0)) (r1_ BK189.out)) : gb190 ≠ gb189)); replace BK189 := Aside0.mk (blk_below (g := gb189) (o := .cells #[.int .i64 a0_0, .int .i64 a0_1, .int .i64 a0_2] 81 (0, 0)) (r1_ BK189.out) hb); clear hb hbox hg; have hnb17 := NB189_190.out; have hnc17 := NB190_189.out; have hcz18_0 : w16.cell? ⟨gb189, 0, none⟩ = some (.int .i64 a0_0) := (blk_cell BK189.out 0).trans rfl; have hcz18_1 : w16.cell? ⟨gb189, 1, none⟩ = some (.int .i64 a0_1) := (blk_cell BK189.out 1).trans rfl; have hcz18_2 : w16.cell? ⟨gb189, 2, none⟩ = some (.int .i64 a0_2) := (blk_cell BK189.out 2).trans rfl; have hfz18_0 := blk_frozen BK189.out 0; have hfz18_1 := blk_frozen BK189.out 1; have hfz18_2 := blk_frozen BK189.out 2; have hcz19_0 : w16.cell? ⟨gb190, 0, none⟩ = some (.int .i64 a1_0) := (blk_cell BK190.out 0).trans rfl; have hcz19_1 : w16.cell? ⟨gb190, 1, none⟩ = some (.int .i64 a1_1) := (blk_cell BK190.out 1).trans rfl; have hcz19_2 : w16.cell? ⟨gb190, 2, none⟩ = some (.int .i64 a1_2) := (blk_cell BK190.out 2).trans rfl; have hfz19_0 := blk_frozen BK190.out 0; have hfz19_1 := blk_frozen BK190.out 1; have hfz19_2 := blk_frozen BK190.out 2))
   go_ret
   exact ⟨by first | rfl | (simp [errW_none, errW_some] <;> rfl) | (simp [*, errW_none, errW_some] <;> rfl), r2_ HB.out GE189.out GE190.out⟩
mutual
def spec_IsTable.l0 : Nat → List (S81) → Int → Option (Bool)
 | 0, _, _ => none
 | k + 1, x0, x3 => if x3 < (x0.length : Int) then (if 0 ≤ x3 then ((spec_l01In.f ((rd_T81 x0 x3).f0) 0 3).bind fun t193 => (if t193 = true then ((spec_l01In.f ((rd_T81 x0 x3).f1) 20 300).bind fun t194 => (if t194 = true then ((spec_l01In.f ((rd_T81 x0 x3).f2) 0 10000).bind fun t195 => (spec_IsTable.j1 k x0 x3 (!t195) ((rd_T81 x0 x3).f0) ((rd_T81 x0 x3).f1) ((rd_T81 x0 x3).f2))) else (spec_IsTable.j1 k x0 x3 true ((rd_T81 x0 x3).f0) ((rd_T81 x0 x3).f1) ((rd_T81 x0 x3).f2)))) else (spec_IsTable.j1 k x0 x3 true ((rd_T81 x0 x3).f0) ((rd_T81 x0 x3).f1) ((rd_T81 x0 x3).f2)))) else (none)) else (some (decide ((x0.length : Int) ≤ 12)))
def spec_IsTable.j1 : Nat → List (S81) → Int → Bool → Int → Int → Int → Option (Bool)
 | 0, _, _, _, _, _, _ => none
 | k + 1, x0, x3, x30, x193000, x193001, x193002 => if x30 = true then (some false) else (if x3 > 0 then (if 0 ≤ (wrap64 (x3 - 1)) then (if (wrap64 (x3 - 1)) < (x0.length : Int) then ((spec_l16Before.f ((rd_T81 x0 (wrap64 (x3 - 1))).f0) ((rd_T81 x0 (wrap64 (x3 - 1))).f1) ((rd_T81 x0 (wrap64 (x3 - 1))).f2) x193000 x193001 x193002).bind fun t197 => (if t197 = true then (if ((rd_T81 x0 (wrap64 (x3 - 1))).f0) = x193000 then (if ((rd_T81 x0 (wrap64 (x3 - 1))).f2) > x193002 then (some false) else (spec_IsTable.l0 k x0 (wrap64 (x3 + 1)))) else (spec_IsTable.l0 k x0 (wrap64 (x3 + 1)))) else (some false))) else (none)) else (none)) else (spec_IsTable.l0 k x0 (wrap64 (x3 + 1))))
end
def spec_IsTable.f (k : Nat) (l0 : List (S81)) : Option (Bool) := spec_IsTable.l0 k l0 0
def spec_IsTable.T7 : Bool × List (List Nat × List Nat) := (true, [([], []), ([0], [0]), ([1], [1]), ([2], [2]), ([2], [2]), ([4, 2], [2, 4]), ([3, 5, 2], [2, 3, 5]), ([6, 2], [2, 6]), ([2], [2]), ([7, 8, 2, 2], [2, 7, 8]), ([9, 2], [2, 9]), ([10, 9, 2], [2, 10]), ([11], [11]), ([11], [11]), ([13, 11], [11, 13]), ([12, 14, 11], [11, 12, 14]), ([15, 11], [11, 15]), ([16, 11], [11, 16]), ([11], [11]), ([18, 11], [11, 18]), ([17, 19, 11], [11, 17, 19]), ([20, 11, 11], [11, 20]), ([21], [21]), ([21], [21]), ([23, 21], [21, 23]), ([22, 24, 21], [21, 22, 24]), ([25, 21], [21, 25]), ([26, 21], [21, 26]), ([21], [21]), ([28, 21], [21, 28]), ([27, 29, 21], [21, 27, 29]), ([21, 30, 11], [11, 21, 30]), ([11, 31, 2], [2, 11, 31]), ([2, 32], [2, 32])])
def spec_IsTable.B7 : List Nat := [0, 1, 3, 7, 7, 23, 63, 127, 7, 511, 1023, 2047, 4095, 4095, 12287, 32767, 65535, 131071, 4095, 266239, 1048575, 2097151, 4194303, 4194303, 12582911, 33554431, 67108863, 134217727, 4194303, 272629759, 1073741823, 2147483647, 4294967295, 8589934591]
theorem spec_IsTable.tab7 : rtab .any (opsOf Try.f147 7) = spec_IsTable.T7 := by kernel_rfl
theorem spec_IsTable.bits7 : waitsOk spec_IsTable.T7.2 spec_IsTable.B7 = true := by kernel_rfl
set_option maxHeartbeats 8000000 in
set_option maxRecDepth 100000 in
theorem spec_IsTable.calls (k : Nat) (A0 : Option Addr) (c0 : Nat) (l0 : List (S81)) (r : Bool) (w : World) (hr0 : Kd.C k81 w A0 l0.length l0) (hc0 : l0.length ≤ c0) (h : spec_IsTable.f k l0 = some r) :
  Calls Try.prog 147 #[.slice A0 l0.length c0] w fun e w' => e = .returned (.bool r) ∧ Below w.heap.size w w' := by
 have hu81 := Try.underlying81
 have HR0 := Aside0.mk hr0
 have HC0 := Aside0.mk hc0
 clear hr0 hc0
 have HB := Aside0.mk (Below.refl w.heap.size w)
 have H : (spec_IsTable.l0 k l0 0) = some r := h
 clear h
 have H' := Aside0.mk H
 clear H
 go_enter Try.func147, Try.ntmps147
 go_wp2
 go_loopg [3] k (fun kq v3 w' => ∃ (x3_1 : Int), v3 = .int .i64 x3_1 ∧ Aside0 (spec_IsTable.l0 kq l0 x3_1 = some r) ∧ Aside0 (kq ≤ k) ∧ Aside0 (Below w.heap.size w w'))
 case atStart => exact ⟨(0), (by first | rfl | (simp; done) | (simp [*]; done)), H', ⟨Nat.le_refl _⟩, ⟨bl_ HB.out⟩⟩
 case round =>
  clear H'
  try clear c1
  obtain ⟨x3_1, rfl, HA, HK1, HB⟩ := hrel
  cases gk with
  | zero => exact absurd HA.out (by simp [spec_IsTable.l0])
  | succ k1 =>
   have H := HA.out
   clear HA
   simp only [spec_IsTable.l0] at H
   by_cases c2 : x3_1 < (l0.length : Int)
   ·rw [if_pos c2] at H
    have c2b0 : decide (x3_1 < (l0.length : Int)) = true := decide_eq_true c2
    clear c2
    by_cases c3 : 0 ≤ x3_1
    case neg =>
     rw [if_neg c3] at H
     exact absurd H (by simp)
    rw [if_pos c3] at H
    have c3b0 : decide (0 ≤ x3_1) = true := decide_eq_true c3
    clear c3
    have HC4 := Aside0.mk H
    clear H
    have p191 : 0 ≤ (x3_1 : Int) := od_
    have q191 : x3_1 < (l0.length : Int) := od_
    obtain ⟨ad191, e191, hx191_0, hx191_1, hx191_2⟩ := at_T81 HR0.out x3_1 p191 q191
    cases e191
    replace hx191_0 := bc_ HB.out hx191_0
    replace hx191_1 := bc_ HB.out hx191_1
    replace hx191_2 := bc_ HB.out hx191_2
    replace p191 := eq_true p191
    replace q191 := eq_true q191
    go_upto_region 5 with (first | ((with_reducible refine gate_dst (N := 4) rfl ?_); refine box_event ?hg (N := 4) ?hd (cs := #[.int .i64 0, .int .i64 0, .int .i64 0]) (t := 81) ?hr ?_; (case hd => rfl); (case hg => rfl); (case hr => first | (go_simp; done) | (go_simp; rfl)); intro gb192 hg w5 hbox hb; have BK192 := Aside0.mk (hbox); have GW192 := Aside0.mk ((by rw [hg]; exact (below_size (bl_ HB.out)) : w.heap.size ≤ gb192)); have GE192 := Aside0.mk ((by rw [hg]; exact (below_size (bl_ HB.out)) : w.heap.size ≤ gb192)); replace HB := Aside0.mk (below_step (bl_ HB.out) hb); clear hb hbox hg; have hcz6_0 : w5.cell? ⟨gb192, 0, none⟩ = some (.int .i64 0) := (blk_cell BK192.out 0).trans rfl; have hcz6_1 : w5.cell? ⟨gb192, 1, none⟩ = some (.int .i64 0) := (blk_cell BK192.out 1).trans rfl; have hcz6_2 : w5.cell? ⟨gb192, 2, none⟩ = some (.int .i64 0) := (blk_cell BK192.out 2).trans rfl; have hfz6_0 := blk_frozen BK192.out 0; have hfz6_1 := blk_frozen BK192.out 1; have hfz6_2 := blk_frozen BK192.out 2))
    (try simp only [Act.put, List.setIfInBounds_toArray, List.set_cons_zero, List.set_cons_succ])
    go_cut [30] (fun v30 wc => ∃ (kq : Nat) (x30_3 : Bool), v30 = .bool x30_3 ∧ Aside0 (spec_IsTable.j1 kq l0 x3_1 x30_3 ((rd_T81 l0 x3_1).f0) ((rd_T81 l0 x3_1).f1) ((rd_T81 l0 x3_1).f2) = some r) ∧ Aside0 (kq ≤ k1) ∧ Aside0 (wc.heap[gb192]? = some (.cells #[.int .i64 ((rd_T81 l0 x3_1).f0), .int .i64 ((rd_T81 l0 x3_1).f1), .int .i64 ((rd_T81 l0 x3_1).f2)] 81 (0, 0))) ∧ Aside0 (Below w.heap.size w wc))
    case first =>
     have H := HC4.out
     clear HC4
     replace H := Option.bind_eq_some_iff.mp H
     obtain ⟨t193, A70, H⟩ := H
     replace H : (if t193 = true then ((spec_l01In.f ((rd_T81 l0 x3_1).f1) 20 300).bind fun t194 => (if t194 = true then ((spec_l01In.f ((rd_T81 l0 x3_1).f2) 0 10000).bind fun t195 => (spec_IsTable.j1 k1 l0 x3_1 (!t195) ((rd_T81 l0 x3_1).f0) ((rd_T81 l0 x3_1).f1) ((rd_T81 l0 x3_1).f2))) else (spec_IsTable.j1 k1 l0 x3_1 true ((rd_T81 l0 x3_1).f0) ((rd_T81 l0 x3_1).f1) ((rd_T81 l0 x3_1).f2)))) else (spec_IsTable.j1 k1 l0 x3_1 true ((rd_T81 l0 x3_1).f0) ((rd_T81 l0 x3_1).f1) ((rd_T81 l0 x3_1).f2))) = some r := H
     have A7 := Aside0.mk A70
     clear A70
     by_cases c8 : t193 = true
     ·subst c8
      replace H : ((spec_l01In.f ((rd_T81 l0 x3_1).f1) 20 300).bind fun t194 => (if t194 = true then ((spec_l01In.f ((rd_T81 l0 x3_1).f2) 0 10000).bind fun t195 => (spec_IsTable.j1 k1 l0 x3_1 (!t195) ((rd_T81 l0 x3_1).f0) ((rd_T81 l0 x3_1).f1) ((rd_T81 l0 x3_1).f2))) else (spec_IsTable.j1 k1 l0 x3_1 true ((rd_T81 l0 x3_1).f0) ((rd_T81 l0 x3_1).f1) ((rd_T81 l0 x3_1).f2)))) = some r := by rw [if_pos rfl] at H; exact H
      replace H := Option.bind_eq_some_iff.mp H
      obtain ⟨t194, A90, H⟩ := H
      replace H : (if t194 = true then ((spec_l01In.f ((rd_T81 l0 x3_1).f2) 0 10000).bind fun t195 => (spec_IsTable.j1 k1 l0 x3_1 (!t195) ((rd_T81 l0 x3_1).f0) ((rd_T81 l0 x3_1).f1) ((rd_T81 l0 x3_1).f2))) else (spec_IsTable.j1 k1 l0 x3_1 true ((rd_T81 l0 x3_1).f0) ((rd_T81 l0 x3_1).f1) ((rd_T81 l0 x3_1).f2))) = some r := H
      have A9 := Aside0.mk A90
      clear A90
      by_cases c10 : t194 = true
      ·subst c10
       replace H : ((spec_l01In.f ((rd_T81 l0 x3_1).f2) 0 10000).bind fun t195 => (spec_IsTable.j1 k1 l0 x3_1 (!t195) ((rd_T81 l0 x3_1).f0) ((rd_T81 l0 x3_1).f1) ((rd_T81 l0 x3_1).f2))) = some r := by rw [if_pos rfl] at H; exact H
       replace H := Option.bind_eq_some_iff.mp H
       obtain ⟨t195, A110, H⟩ := H
       replace H : (spec_IsTable.j1 k1 l0 x3_1 (!t195) ((rd_T81 l0 x3_1).f0) ((rd_T81 l0 x3_1).f1) ((rd_T81 l0 x3_1).f2)) = some r := H
       have A11 := Aside0.mk A110
       clear A110
       have H' := Aside0.mk H
       clear H
       have hcz12_0 : w5.cell? ⟨gb192, 0, none⟩ = some (.int .i64 0) := (blk_cell BK192.out 0).trans rfl
       have hcz12_1 : w5.cell? ⟨gb192, 1, none⟩ = some (.int .i64 0) := (blk_cell BK192.out 1).trans rfl
       have hcz12_2 : w5.cell? ⟨gb192, 2, none⟩ = some (.int .i64 0) := (blk_cell BK192.out 2).trans rfl
       have hfz12_0 := blk_frozen BK192.out 0
       have hfz12_1 := blk_frozen BK192.out 1
       have hfz12_2 := blk_frozen BK192.out 2
       go_wp2_with (first | ((with_reducible refine gate_callee (f := 148) rfl ?_); refine goesL_ (some 17) rfl rfl Try.func148 (by kernel_rfl) rfl #[.int .i64 ((rd_T81 l0 x3_1).f0), .int .i64 0, .int .i64 3] rfl ag_ ?_; (with_reducible refine (spec_l01In.calls ((rd_T81 l0 x3_1).f0) 0 3 true _ A7.out).mono ?_); rintro e w' ⟨rfl, ⟨nd, rfl⟩⟩; refine ⟨_, rfl, ?_⟩) | (go_at_call 148; (with_reducible refine (spec_l01In.calls ((rd_T81 l0 x3_1).f1) 20 300 true _ A9.out).mono ?_); rintro e w' ⟨rfl, ⟨nd, rfl⟩⟩) | (go_at_call 148; (with_reducible refine (spec_l01In.calls ((rd_T81 l0 x3_1).f2) 0 10000 t195 _ A11.out).mono ?_); rintro e w' ⟨rfl, ⟨nd, rfl⟩⟩))
       go_meet
       case rel => exact ⟨_, (!t195), (by first | rfl | (simp; done) | (simp [*]; done)), H', ⟨by have := HK1.out; first | omega | exact Nat.le_refl _⟩, ⟨by (with_reducible repeat (first | refine blk_drewN ?_ _ | refine blk_drew ?_ | refine blk_alloc ?_ _)); refine blk_put (cs := #[.int .i64 ((rd_T81 l0 x3_1).f0), .int .i64 ((rd_T81 l0 x3_1).f1), .int .i64 0]) ?_ 2 _ rfl; (with_reducible repeat (first | refine blk_drewN ?_ _ | refine blk_drew ?_ | refine blk_alloc ?_ _)); refine blk_put (cs := #[.int .i64 ((rd_T81 l0 x3_1).f0), .int .i64 0, .int .i64 0]) ?_ 1 _ rfl; (with_reducible repeat (first | refine blk_drewN ?_ _ | refine blk_drew ?_ | refine blk_alloc ?_ _)); refine blk_put (cs := #[.int .i64 0, .int .i64 0, .int .i64 0]) ?_ 0 _ rfl; (with_reducible repeat (first | refine blk_drewN ?_ _ | refine blk_drew ?_ | refine blk_alloc ?_ _)); exact BK192.out⟩, ⟨r0_ HB.out GE192.out⟩⟩
      ·replace c10 := Bool.eq_false_iff.mpr c10
       subst c10
       replace H : (spec_IsTable.j1 k1 l0 x3_1 true ((rd_T81 l0 x3_1).f0) ((rd_T81 l0 x3_1).f1) ((rd_T81 l0 x3_1).f2)) = some r := by rw [if_neg (show ¬ (false = true) by decide)] at H; exact H
       have H' := Aside0.mk H
       clear H
       have hcz13_0 : w5.cell? ⟨gb192, 0, none⟩ = some (.int .i64 0) := (blk_cell BK192.out 0).trans rfl
       have hcz13_1 : w5.cell? ⟨gb192, 1, none⟩ = some (.int .i64 0) := (blk_cell BK192.out 1).trans rfl
       have hcz13_2 : w5.cell? ⟨gb192, 2, none⟩ = some (.int .i64 0) := (blk_cell BK192.out 2).trans rfl
       have hfz13_0 := blk_frozen BK192.out 0
       have hfz13_1 := blk_frozen BK192.out 1
       have hfz13_2 := blk_frozen BK192.out 2
       go_wp2_with (first | ((with_reducible refine gate_callee (f := 148) rfl ?_); refine goesL_ (some 17) rfl rfl Try.func148 (by kernel_rfl) rfl #[.int .i64 ((rd_T81 l0 x3_1).f0), .int .i64 0, .int .i64 3] rfl ag_ ?_; (with_reducible refine (spec_l01In.calls ((rd_T81 l0 x3_1).f0) 0 3 true _ A7.out).mono ?_); rintro e w' ⟨rfl, ⟨nd, rfl⟩⟩; refine ⟨_, rfl, ?_⟩) | (go_at_call 148; (with_reducible refine (spec_l01In.calls ((rd_T81 l0 x3_1).f1) 20 300 false _ A9.out).mono ?_); rintro e w' ⟨rfl, ⟨nd, rfl⟩⟩))
       go_meet
       case rel => exact ⟨_, (true), (by first | rfl | (simp; done) | (simp [*]; done)), H', ⟨by have := HK1.out; first | omega | exact Nat.le_refl _⟩, ⟨by (with_reducible repeat (first | refine blk_drewN ?_ _ | refine blk_drew ?_ | refine blk_alloc ?_ _)); refine blk_put (cs := #[.int .i64 ((rd_T81 l0 x3_1).f0), .int .i64 ((rd_T81 l0 x3_1).f1), .int .i64 0]) ?_ 2 _ rfl; (with_reducible repeat (first | refine blk_drewN ?_ _ | refine blk_drew ?_ | refine blk_alloc ?_ _)); refine blk_put (cs := #[.int .i64 ((rd_T81 l0 x3_1).f0), .int .i64 0, .int .i64 0]) ?_ 1 _ rfl; (with_reducible repeat (first | refine blk_drewN ?_ _ | refine blk_drew ?_ | refine blk_alloc ?_ _)); refine blk_put (cs := #[.int .i64 0, .int .i64 0, .int .i64 0]) ?_ 0 _ rfl; (with_reducible repeat (first | refine blk_drewN ?_ _ | refine blk_drew ?_ | refine blk_alloc ?_ _)); exact BK192.out⟩, ⟨r0_ HB.out GE192.out⟩⟩
     ·replace c8 := Bool.eq_false_iff.mpr c8
      subst c8
      replace H : (spec_IsTable.j1 k1 l0 x3_1 true ((rd_T81 l0 x3_1).f0) ((rd_T81 l0 x3_1).f1) ((rd_T81 l0 x3_1).f2)) = some r := by rw [if_neg (show ¬ (false = true) by decide)] at H; exact H
      have H' := Aside0.mk H
      clear H
      have hcz14_0 : w5.cell? ⟨gb192, 0, none⟩ = some (.int .i64 0) := (blk_cell BK192.out 0).trans rfl
      have hcz14_1 : w5.cell? ⟨gb192, 1, none⟩ = some (.int .i64 0) := (blk_cell BK192.out 1).trans rfl
      have hcz14_2 : w5.cell? ⟨gb192, 2, none⟩ = some (.int .i64 0) := (blk_cell BK192.out 2).trans rfl
      have hfz14_0 := blk_frozen BK192.out 0
      have hfz14_1 := blk_frozen BK192.out 1
      have hfz14_2 := blk_frozen BK192.out 2
      go_wp2_with (first | ((with_reducible refine gate_callee (f := 148) rfl ?_); refine goesL_ (some 17) rfl rfl Try.func148 (by kernel_rfl) rfl #[.int .i64 ((rd_T81 l0 x3_1).f0), .int .i64 0, .int .i64 3] rfl ag_ ?_; (with_reducible refine (spec_l01In.calls ((rd_T81 l0 x3_1).f0) 0 3 false _ A7.out).mono ?_); rintro e w' ⟨rfl, ⟨nd, rfl⟩⟩; refine ⟨_, rfl, ?_⟩))
      go_meet
      case rel => exact ⟨_, (true), (by first | rfl | (simp; done) | (simp [*]; done)), H', ⟨by have := HK1.out; first | omega | exact Nat.le_refl _⟩, ⟨by (with_reducible repeat (first | refine blk_drewN ?_ _ | refine blk_drew ?_ | refine blk_alloc ?_ _)); refine blk_put (cs := #[.int .i64 ((rd_T81 l0 x3_1).f0), .int .i64 ((rd_T81 l0 x3_1).f1), .int .i64 0]) ?_ 2 _ rfl; (with_reducible repeat (first | refine blk_drewN ?_ _ | refine blk_drew ?_ | refine blk_alloc ?_ _)); refine blk_put (cs := #[.int .i64 ((rd_T81 l0 x3_1).f0), .int .i64 0, .int .i64 0]) ?_ 1 _ rfl; (with_reducible repeat (first | refine blk_drewN ?_ _ | refine blk_drew ?_ | refine blk_alloc ?_ _)); refine blk_put (cs := #[.int .i64 0, .int .i64 0, .int .i64 0]) ?_ 0 _ rfl; (with_reducible repeat (first | refine blk_drewN ?_ _ | refine blk_drew ?_ | refine blk_alloc ?_ _)); exact BK192.out⟩, ⟨r0_ HB.out GE192.out⟩⟩
    case rest =>
     clear HC4
     try clear c1
     try clear p1
     try clear q1
     try clear hx1
     try clear c2
     try clear c2b0
     try clear p2
     try clear c3
     try clear c3b0
     try clear c8
     try clear c10
     try clear c14
     try clear hcz12_0
     try clear hcz12_1
     try clear hcz12_2
     try clear hcz13_0
     try clear hcz13_1
     try clear hcz13_2
     try clear hcz14_0
     try clear hcz14_1
     try clear hcz14_2
     try clear hcz6_0
     try clear hcz6_1
     try clear hcz6_2
     try clear hfz12_0
     try clear hfz12_1
     try clear hfz12_2
     try clear hfz13_0
     try clear hfz13_1
     try clear hfz13_2
     try clear hfz14_0
     try clear hfz14_1
     try clear hfz14_2
     try clear hfz6_0
     try clear hfz6_1
     try clear hfz6_2
     try clear hx191_0
     try clear hx191_1
     try clear hx191_2
     try clear p191
     try clear q191
     obtain ⟨kq, x30_3, rfl, HA, HJ3, BK192, HB⟩ := hcut
     cases kq with
     | zero => exact absurd HA.out (by simp [spec_IsTable.j1])
     | succ kj3 =>
      have H := HA.out
      clear HA
      simp only [spec_IsTable.j1] at H
      by_cases c15 : x30_3 = true
      ·subst c15
       replace H : (some false) = some r := by rw [if_pos rfl] at H; exact H
       obtain rfl := Option.some.inj H
       go_wp2
       go_ret
       exact ⟨by first | rfl | (simp [errW_none, errW_some] <;> rfl) | (simp [*, errW_none, errW_some] <;> rfl), r0_ HB.out GE192.out⟩
      ·replace c15 := Bool.eq_false_iff.mpr c15
       subst c15
       replace H : (if x3_1 > 0 then (if 0 ≤ (wrap64 (x3_1 - 1)) then (if (wrap64 (x3_1 - 1)) < (l0.length : Int) then ((spec_l16Before.f ((rd_T81 l0 (wrap64 (x3_1 - 1))).f0) ((rd_T81 l0 (wrap64 (x3_1 - 1))).f1) ((rd_T81 l0 (wrap64 (x3_1 - 1))).f2) ((rd_T81 l0 x3_1).f0) ((rd_T81 l0 x3_1).f1) ((rd_T81 l0 x3_1).f2)).bind fun t197 => (if t197 = true then (if ((rd_T81 l0 (wrap64 (x3_1 - 1))).f0) = ((rd_T81 l0 x3_1).f0) then (if ((rd_T81 l0 (wrap64 (x3_1 - 1))).f2) > ((rd_T81 l0 x3_1).f2) then (some false) else (spec_IsTable.l0 kj3 l0 (wrap64 (x3_1 + 1)))) else (spec_IsTable.l0 kj3 l0 (wrap64 (x3_1 + 1)))) else (some false))) else (none)) else (none)) else (spec_IsTable.l0 kj3 l0 (wrap64 (x3_1 + 1)))) = some r := by rw [if_neg (show ¬ (false = true) by decide)] at H; exact H
       by_cases c16 : x3_1 > 0
       ·rw [if_pos c16] at H
        have c16b0 : decide (0 < x3_1) = true := decide_eq_true c16
        clear c16
        obtain ⟨ji17, hji17⟩ : ∃ j_ : Int, (wrap64 (x3_1 - 1)) = j_ := ⟨_, rfl⟩
        replace H : (if 0 ≤ (ji17) then (if (ji17) < (l0.length : Int) then ((spec_l16Before.f ((rd_T81 l0 (ji17)).f0) ((rd_T81 l0 (ji17)).f1) ((rd_T81 l0 (ji17)).f2) ((rd_T81 l0 x3_1).f0) ((rd_T81 l0 x3_1).f1) ((rd_T81 l0 x3_1).f2)).bind fun t197 => (if t197 = true then (if ((rd_T81 l0 (ji17)).f0) = ((rd_T81 l0 x3_1).f0) then (if ((rd_T81 l0 (ji17)).f2) > ((rd_T81 l0 x3_1).f2) then (some false) else (spec_IsTable.l0 kj3 l0 (wrap64 (x3_1 + 1)))) else (spec_IsTable.l0 kj3 l0 (wrap64 (x3_1 + 1)))) else (some false))) else (none)) else (none)) = some r := by first | (rw [hji17] at H; exact H) | (simp only [hji17] at H ⊢; exact H)
        have hji17w : (IntKind.i64.wrap (x3_1 - 1)) = ji17 := (i64_w _).trans hji17
        by_cases c18 : 0 ≤ (ji17)
        case neg =>
         rw [if_neg c18] at H
         exact absurd H (by simp)
        rw [if_pos c18] at H
        have c18b0 : decide (0 ≤ (ji17)) = true := decide_eq_true c18
        clear c18
        by_cases c19 : (ji17) < (l0.length : Int)
        case neg =>
         rw [if_neg c19] at H
         exact absurd H (by simp)
        rw [if_pos c19] at H
        have c19b0 : decide ((ji17) < (l0.length : Int)) = true := decide_eq_true c19
        clear c19
        replace H := Option.bind_eq_some_iff.mp H
        obtain ⟨t197, A200, H⟩ := H
        replace H : (if t197 = true then (if ((rd_T81 l0 (ji17)).f0) = ((rd_T81 l0 x3_1).f0) then (if ((rd_T81 l0 (ji17)).f2) > ((rd_T81 l0 x3_1).f2) then (some false) else (spec_IsTable.l0 kj3 l0 (wrap64 (x3_1 + 1)))) else (spec_IsTable.l0 kj3 l0 (wrap64 (x3_1 + 1)))) else (some false)) = some r := H
        have A20 := Aside0.mk A200
        clear A200
        by_cases c21 : t197 = true
        ·subst c21
         replace H : (if ((rd_T81 l0 (ji17)).f0) = ((rd_T81 l0 x3_1).f0) then (if ((rd_T81 l0 (ji17)).f2) > ((rd_T81 l0 x3_1).f2) then (some false) else (spec_IsTable.l0 kj3 l0 (wrap64 (x3_1 + 1)))) else (spec_IsTable.l0 kj3 l0 (wrap64 (x3_1 + 1)))) = some r := by rw [if_pos rfl] at H; exact H
         by_cases c22 : ((rd_T81 l0 (ji17)).f0) = ((rd_T81 l0 x3_1).f0)
         ·rw [if_pos c22] at H
          have c22b0 : (((rd_T81 l0 (ji17)).f0) == ((rd_T81 l0 x3_1).f0)) = true := beq_iff_eq.mpr c22
          have c22b1 : (((rd_T81 l0 (ji17)).f0) != ((rd_T81 l0 x3_1).f0)) = false := bne_eq_false_iff_eq.mpr c22
          clear c22
          by_cases c23 : ((rd_T81 l0 (ji17)).f2) > ((rd_T81 l0 x3_1).f2)
          ·rw [if_pos c23] at H
           have c23b0 : decide (((rd_T81 l0 x3_1).f2) < ((rd_T81 l0 (ji17)).f2)) = true := decide_eq_true c23
           clear c23
           obtain rfl := Option.some.inj H
           try go_wp2
           replace BK192 := Aside0.mk (blk_drew BK192.out)
           replace HB := Aside0.mk (below_drew1 HB.out)
           have p196 : 0 ≤ ((ji17) : Int) := od_
           have q196 : (ji17) < (l0.length : Int) := od_
           obtain ⟨ad196, e196, hx196_0, hx196_1, hx196_2⟩ := at_T81 HR0.out (ji17) p196 q196
           have hw196_2 := hx196_2
           have hw196_1 := hx196_1
           have hw196_0 := hx196_0
           obtain rfl : ad191 = ad196 := (by injection e196)
           replace hx196_0 := bc_ HB.out hx196_0
           replace hx196_1 := bc_ HB.out hx196_1
           replace hx196_2 := bc_ HB.out hx196_2
           replace p196 := eq_true p196
           replace q196 := eq_true q196
           have p198 : 0 ≤ ((ji17) : Int) := od_
           have q198 : (ji17) < (l0.length : Int) := od_
           obtain ⟨ad198, e198, hx198_0, hx198_1, hx198_2⟩ := at_T81 HR0.out (ji17) p198 q198
           have hw198_2 := hx198_2
           have hw198_1 := hx198_1
           have hw198_0 := hx198_0
           obtain rfl : ad191 = ad198 := (by injection e198)
           replace hx198_0 := bc_ HB.out hx198_0
           replace hx198_1 := bc_ HB.out hx198_1
           replace hx198_2 := bc_ HB.out hx198_2
           replace p198 := eq_true p198
           replace q198 := eq_true q198
           have p199 : 0 ≤ ((ji17) : Int) := od_
           have q199 : (ji17) < (l0.length : Int) := od_
           obtain ⟨ad199, e199, hx199_0, hx199_1, hx199_2⟩ := at_T81 HR0.out (ji17) p199 q199
           have hw199_2 := hx199_2
           have hw199_1 := hx199_1
           have hw199_0 := hx199_0
           obtain rfl : ad191 = ad199 := (by injection e199)
           replace hx199_0 := bc_ HB.out hx199_0
           replace hx199_1 := bc_ HB.out hx199_1
           replace hx199_2 := bc_ HB.out hx199_2
           replace p199 := eq_true p199
           replace q199 := eq_true q199
           refine start_ (n := 34) (S := fun w' => w'.cell? ⟨gb192, 0, none⟩ = some (.int .i64 ((rd_T81 l0 x3_1).f0)) ∧ w'.cell? ⟨gb192, 1, none⟩ = some (.int .i64 ((rd_T81 l0 x3_1).f1)) ∧ w'.cell? ⟨gb192, 2, none⟩ = some (.int .i64 ((rd_T81 l0 x3_1).f2)) ∧ w'.cell? (ad191.add (((ji17)).toNat * 3)) = some (.int .i64 ((rd_T81 l0 (ji17)).f0)) ∧ w'.cell? ⟨(ad191.add (((ji17)).toNat * 3)).block, (ad191.add (((ji17)).toNat * 3)).off + 1, none⟩ = some (.int .i64 ((rd_T81 l0 (ji17)).f1)) ∧ w'.cell? ⟨(ad191.add (((ji17)).toNat * 3)).block, (ad191.add (((ji17)).toNat * 3)).off + 2, none⟩ = some (.int .i64 ((rd_T81 l0 (ji17)).f2)) ∧ w'.cell? (ad191.add (((ji17)).toNat * 3)) = some (.int .i64 ((rd_T81 l0 (ji17)).f0)) ∧ w'.cell? ⟨(ad191.add (((ji17)).toNat * 3)).block, (ad191.add (((ji17)).toNat * 3)).off + 1, none⟩ = some (.int .i64 ((rd_T81 l0 (ji17)).f1)) ∧ w'.cell? ⟨(ad191.add (((ji17)).toNat * 3)).block, (ad191.add (((ji17)).toNat * 3)).off + 2, none⟩ = some (.int .i64 ((rd_T81 l0 (ji17)).f2)) ∧ w'.cell? (ad191.add (((ji17)).toNat * 3)) = some (.int .i64 ((rd_T81 l0 (ji17)).f0)) ∧ w'.cell? ⟨(ad191.add (((ji17)).toNat * 3)).block, (ad191.add (((ji17)).toNat * 3)).off + 1, none⟩ = some (.int .i64 ((rd_T81 l0 (ji17)).f1)) ∧ w'.cell? ⟨(ad191.add (((ji17)).toNat * 3)).block, (ad191.add (((ji17)).toNat * 3)).off + 2, none⟩ = some (.int .i64 ((rd_T81 l0 (ji17)).f2))) (ds := []) #[f_,f_,f_,f_,f_,f_,f_,f_,f_,f_,f_,f_,f_,f_,f_,f_,f_,f_,f_,f_,f_,f_,f_,f_,f_,f_,f_,f_,f_,f_,f_,f_,f_,f_] (by kernel_rfl) rfl rfl ⟨(blk_cell BK192.out 0).trans rfl, (blk_cell BK192.out 1).trans rfl, (blk_cell BK192.out 2).trans rfl, (bc_ HB.out hw196_0 :), (bc_ HB.out hw196_1 :), (bc_ HB.out hw196_2 :), (bc_ HB.out hw198_0 :), (bc_ HB.out hw198_1 :), (bc_ HB.out hw198_2 :), (bc_ HB.out hw199_0 :), (bc_ HB.out hw199_1 :), (bc_ HB.out hw199_2 :)⟩ (fun hHeld => ?_); refine with_tabW spec_IsTable.tab7 spec_IsTable.bits7 (fun HT_ HW_ => ?_)
           generalize wc.drew = w24 at BK192 HB hx196_0 hx196_1 hx196_2 hx198_0 hx198_1 hx198_2 hx199_0 hx199_1 hx199_2 hHeld ⊢
           refine pu_ 0 31 #[t_,f_,f_,f_,f_,f_,f_,f_,f_,f_,f_,f_,f_,f_,f_,f_,f_,f_,f_,f_,f_,f_,f_,f_,f_,f_,f_,f_,f_,f_,f_,f_,f_,f_] HT_.out ?_
           refine pu_ 1 32 #[t_,t_,f_,f_,f_,f_,f_,f_,f_,f_,f_,f_,f_,f_,f_,f_,f_,f_,f_,f_,f_,f_,f_,f_,f_,f_,f_,f_,f_,f_,f_,f_,f_,f_] HT_.out ?_
           refine pu_ 2 33 #[t_,t_,t_,f_,f_,f_,f_,f_,f_,f_,f_,f_,f_,f_,f_,f_,f_,f_,f_,f_,f_,f_,f_,f_,f_,f_,f_,f_,f_,f_,f_,f_,f_,f_] HT_.out ?_
           refine pu_ 3 34 #[t_,t_,t_,t_,f_,f_,f_,f_,f_,f_,f_,f_,f_,f_,f_,f_,f_,f_,f_,f_,f_,f_,f_,f_,f_,f_,f_,f_,f_,f_,f_,f_,f_,f_] HT_.out ?_
           refine pu_ 4 35 #[t_,t_,t_,t_,t_,f_,f_,f_,f_,f_,f_,f_,f_,f_,f_,f_,f_,f_,f_,f_,f_,f_,f_,f_,f_,f_,f_,f_,f_,f_,f_,f_,f_,f_] HT_.out ?_
           refine pu_ 5 36 #[t_,t_,t_,t_,t_,t_,f_,f_,f_,f_,f_,f_,f_,f_,f_,f_,f_,f_,f_,f_,f_,f_,f_,f_,f_,f_,f_,f_,f_,f_,f_,f_,f_,f_] HT_.out ?_
           refine pu_ 6 37 #[t_,t_,t_,t_,t_,t_,t_,f_,f_,f_,f_,f_,f_,f_,f_,f_,f_,f_,f_,f_,f_,f_,f_,f_,f_,f_,f_,f_,f_,f_,f_,f_,f_,f_] HT_.out ?_
           refine take_ (i := 7) (N := some 38) (v := ?_) (a' := ?_) #[t_,t_,t_,t_,t_,t_,t_,t_,f_,f_,f_,f_,f_,f_,f_,f_,f_,f_,f_,f_,f_,f_,f_,f_,f_,f_,f_,f_,f_,f_,f_,f_,f_,f_] rfl rfl (take_ofW HT_.out HW_.out (by kernel_rfl)) (fun _ _ _ h => h) (Or.inl ⟨by rfl, ?_⟩) hHeld ?_ ?_
           rotate_left
           ·rintro w' ⟨s0, s1, s2, s3, s4, s5, s6, s7, s8, s9, s10, s11⟩
            go_simp
            with_reducible rfl
           rotate_left
           ·simp only [pz_]
            rfl
           refine take_ (i := 8) (N := some 39) (v := ?_) (a' := ?_) #[t_,t_,t_,t_,t_,t_,t_,t_,t_,f_,f_,f_,f_,f_,f_,f_,f_,f_,f_,f_,f_,f_,f_,f_,f_,f_,f_,f_,f_,f_,f_,f_,f_,f_] rfl rfl (take_ofW HT_.out HW_.out (by kernel_rfl)) (fun _ _ _ h => h) (Or.inl ⟨by rfl, ?_⟩) hHeld ?_ ?_
           rotate_left
           ·rintro w' ⟨s0, s1, s2, s3, s4, s5, s6, s7, s8, s9, s10, s11⟩
            go_simp
            with_reducible rfl
           rotate_left
           ·simp only [pz_]
            rfl
           refine one_ (i := 9) (N := some 40) #[t_,t_,t_,t_,t_,t_,t_,t_,t_,t_,f_,f_,f_,f_,f_,f_,f_,f_,f_,f_,f_,f_,f_,f_,f_,f_,f_,f_,f_,f_,f_,f_,f_,f_] rfl rfl (one_of HT_.out (by kernel_rfl)) (by decide) (fun K hK => ?_)
           refine goes_ Try.func150 (by kernel_rfl) rfl #[.agg #[.int .i64 ((rd_T81 l0 (ji17)).f0), .int .i64 ((rd_T81 l0 (ji17)).f1), .int .i64 ((rd_T81 l0 (ji17)).f2)], .agg #[.int .i64 ((rd_T81 l0 x3_1).f0), .int .i64 ((rd_T81 l0 x3_1).f1), .int .i64 ((rd_T81 l0 x3_1).f2)]] (by rfl) rfl rfl (by (try simp only [List.map_toArray, List.map_cons, List.map_nil]); first | done | (simp only [hji17]; rfl) | rfl | (simp only [List.length_drop, List.length_take]; rfl)) ?_
           with_reducible refine (spec_l16Before.calls ((rd_T81 l0 (ji17)).f0) ((rd_T81 l0 (ji17)).f1) ((rd_T81 l0 (ji17)).f2) ((rd_T81 l0 x3_1).f0) ((rd_T81 l0 x3_1).f1) ((rd_T81 l0 x3_1).f2) true _ A20.out).mono ?_
           rintro e w25 ⟨rfl, hb⟩
           refine ⟨_, rfl, ?_⟩
           replace BK192 := Aside0.mk (blk_below (g := gb192) (o := .cells #[.int .i64 ((rd_T81 l0 x3_1).f0), .int .i64 ((rd_T81 l0 x3_1).f1), .int .i64 ((rd_T81 l0 x3_1).f2)] 81 (0, 0)) (r1_ BK192.out) hb)
           replace HB := Aside0.mk (below_step (r0_ HB.out GE192.out) hb)
           (try clear hb)
           (try clear hb2)
           (try clear hk)
           (try clear hi)
           refine hK.out _ _ ⟨(blk_cell BK192.out 0).trans rfl, (blk_cell BK192.out 1).trans rfl, (blk_cell BK192.out 2).trans rfl, (bc_ HB.out hw196_0 :), (bc_ HB.out hw196_1 :), (bc_ HB.out hw196_2 :), (bc_ HB.out hw198_0 :), (bc_ HB.out hw198_1 :), (bc_ HB.out hw198_2 :), (bc_ HB.out hw199_0 :), (bc_ HB.out hw199_1 :), (bc_ HB.out hw199_2 :)⟩ (fun hHeld => ?_)
           clear hK K
           refine norm_ (a' := ?_) ?_ ?_
           rotate_left
           ·show Act.put _ (some 40) _ = _
            simp only [pz_]
            rfl
           refine pu_ 10 41 #[t_,t_,t_,t_,t_,t_,t_,t_,t_,t_,t_,f_,f_,f_,f_,f_,f_,f_,f_,f_,f_,f_,f_,f_,f_,f_,f_,f_,f_,f_,f_,f_,f_,f_] HT_.out ?_
           refine pu_ 11 42 #[t_,t_,t_,t_,t_,t_,t_,t_,t_,t_,t_,t_,f_,f_,f_,f_,f_,f_,f_,f_,f_,f_,f_,f_,f_,f_,f_,f_,f_,f_,f_,f_,f_,f_] HT_.out ?_
           refine pu_ 12 43 #[t_,t_,t_,t_,t_,t_,t_,t_,t_,t_,t_,t_,t_,f_,f_,f_,f_,f_,f_,f_,f_,f_,f_,f_,f_,f_,f_,f_,f_,f_,f_,f_,f_,f_] HT_.out ?_
           refine pu_ 13 44 #[t_,t_,t_,t_,t_,t_,t_,t_,t_,t_,t_,t_,t_,t_,f_,f_,f_,f_,f_,f_,f_,f_,f_,f_,f_,f_,f_,f_,f_,f_,f_,f_,f_,f_] HT_.out ?_
           refine pu_ 14 45 #[t_,t_,t_,t_,t_,t_,t_,t_,t_,t_,t_,t_,t_,t_,t_,f_,f_,f_,f_,f_,f_,f_,f_,f_,f_,f_,f_,f_,f_,f_,f_,f_,f_,f_] HT_.out ?_
           refine pu_ 15 46 #[t_,t_,t_,t_,t_,t_,t_,t_,t_,t_,t_,t_,t_,t_,t_,t_,f_,f_,f_,f_,f_,f_,f_,f_,f_,f_,f_,f_,f_,f_,f_,f_,f_,f_] HT_.out ?_
           refine pu_ 16 47 #[t_,t_,t_,t_,t_,t_,t_,t_,t_,t_,t_,t_,t_,t_,t_,t_,t_,f_,f_,f_,f_,f_,f_,f_,f_,f_,f_,f_,f_,f_,f_,f_,f_,f_] HT_.out ?_
           refine pu_ 18 49 #[t_,t_,t_,t_,t_,t_,t_,t_,t_,t_,t_,t_,t_,t_,t_,t_,t_,f_,t_,f_,f_,f_,f_,f_,f_,f_,f_,f_,f_,f_,f_,f_,f_,f_] HT_.out ?_
           refine take_ (i := 17) (N := some 48) (v := ?_) (a' := ?_) #[t_,t_,t_,t_,t_,t_,t_,t_,t_,t_,t_,t_,t_,t_,t_,t_,t_,t_,t_,f_,f_,f_,f_,f_,f_,f_,f_,f_,f_,f_,f_,f_,f_,f_] rfl rfl (take_ofW HT_.out HW_.out (by kernel_rfl)) (fun _ _ _ h => h) (Or.inl ⟨by rfl, ?_⟩) hHeld ?_ ?_
           rotate_left
           ·rintro w' ⟨s0, s1, s2, s3, s4, s5, s6, s7, s8, s9, s10, s11⟩
            go_simp
            with_reducible rfl
           rotate_left
           ·simp only [pz_]
            rfl
           refine take_ (i := 19) (N := some 50) (v := ?_) (a' := ?_) #[t_,t_,t_,t_,t_,t_,t_,t_,t_,t_,t_,t_,t_,t_,t_,t_,t_,t_,t_,t_,f_,f_,f_,f_,f_,f_,f_,f_,f_,f_,f_,f_,f_,f_] rfl rfl (take_ofW HT_.out HW_.out (by kernel_rfl)) (fun _ _ _ h => h) (Or.inl ⟨by rfl, ?_⟩) hHeld ?_ ?_
           rotate_left
           ·rintro w' ⟨s0, s1, s2, s3, s4, s5, s6, s7, s8, s9, s10, s11⟩
            go_simp
            with_reducible rfl
           rotate_left
           ·simp only [pz_]
            rfl
           refine pu_ 20 51 #[t_,t_,t_,t_,t_,t_,t_,t_,t_,t_,t_,t_,t_,t_,t_,t_,t_,t_,t_,t_,t_,f_,f_,f_,f_,f_,f_,f_,f_,f_,f_,f_,f_,f_] HT_.out ?_
           refine pu_ 21 52 #[t_,t_,t_,t_,t_,t_,t_,t_,t_,t_,t_,t_,t_,t_,t_,t_,t_,t_,t_,t_,t_,t_,f_,f_,f_,f_,f_,f_,f_,f_,f_,f_,f_,f_] HT_.out ?_
           refine pu_ 22 53 #[t_,t_,t_,t_,t_,t_,t_,t_,t_,t_,t_,t_,t_,t_,t_,t_,t_,t_,t_,t_,t_,t_,t_,f_,f_,f_,f_,f_,f_,f_,f_,f_,f_,f_] HT_.out ?_
           refine pu_ 23 54 #[t_,t_,t_,t_,t_,t_,t_,t_,t_,t_,t_,t_,t_,t_,t_,t_,t_,t_,t_,t_,t_,t_,t_,t_,f_,f_,f_,f_,f_,f_,f_,f_,f_,f_] HT_.out ?_
           refine pu_ 24 55 #[t_,t_,t_,t_,t_,t_,t_,t_,t_,t_,t_,t_,t_,t_,t_,t_,t_,t_,t_,t_,t_,t_,t_,t_,t_,f_,f_,f_,f_,f_,f_,f_,f_,f_] HT_.out ?_
           refine pu_ 25 56 #[t_,t_,t_,t_,t_,t_,t_,t_,t_,t_,t_,t_,t_,t_,t_,t_,t_,t_,t_,t_,t_,t_,t_,t_,t_,t_,f_,f_,f_,f_,f_,f_,f_,f_] HT_.out ?_
           refine pu_ 26 57 #[t_,t_,t_,t_,t_,t_,t_,t_,t_,t_,t_,t_,t_,t_,t_,t_,t_,t_,t_,t_,t_,t_,t_,t_,t_,t_,t_,f_,f_,f_,f_,f_,f_,f_] HT_.out ?_
           refine pu_ 28 59 #[t_,t_,t_,t_,t_,t_,t_,t_,t_,t_,t_,t_,t_,t_,t_,t_,t_,t_,t_,t_,t_,t_,t_,t_,t_,t_,t_,f_,t_,f_,f_,f_,f_,f_] HT_.out ?_
           refine take_ (i := 27) (N := some 58) (v := ?_) (a' := ?_) #[t_,t_,t_,t_,t_,t_,t_,t_,t_,t_,t_,t_,t_,t_,t_,t_,t_,t_,t_,t_,t_,t_,t_,t_,t_,t_,t_,t_,t_,f_,f_,f_,f_,f_] rfl rfl (take_ofW HT_.out HW_.out (by kernel_rfl)) (fun _ _ _ h => h) (Or.inl ⟨by rfl, ?_⟩) hHeld ?_ ?_
           rotate_left
           ·rintro w' ⟨s0, s1, s2, s3, s4, s5, s6, s7, s8, s9, s10, s11⟩
            go_simp
            with_reducible rfl
           rotate_left
           ·simp only [pz_]
            rfl
           refine take_ (i := 29) (N := some 60) (v := ?_) (a' := ?_) #[t_,t_,t_,t_,t_,t_,t_,t_,t_,t_,t_,t_,t_,t_,t_,t_,t_,t_,t_,t_,t_,t_,t_,t_,t_,t_,t_,t_,t_,t_,f_,f_,f_,f_] rfl rfl (take_ofW HT_.out HW_.out (by kernel_rfl)) (fun _ _ _ h => h) (Or.inl ⟨by rfl, ?_⟩) hHeld ?_ ?_
           rotate_left
           ·rintro w' ⟨s0, s1, s2, s3, s4, s5, s6, s7, s8, s9, s10, s11⟩
            go_simp
            with_reducible rfl
           rotate_left
           ·simp only [pz_]
            rfl
           refine pu_ 30 61 #[t_,t_,t_,t_,t_,t_,t_,t_,t_,t_,t_,t_,t_,t_,t_,t_,t_,t_,t_,t_,t_,t_,t_,t_,t_,t_,t_,t_,t_,t_,t_,f_,f_,f_] HT_.out ?_
           refine pu_ 31 62 #[t_,t_,t_,t_,t_,t_,t_,t_,t_,t_,t_,t_,t_,t_,t_,t_,t_,t_,t_,t_,t_,t_,t_,t_,t_,t_,t_,t_,t_,t_,t_,t_,f_,f_] HT_.out ?_
           refine pu_ 32 63 #[t_,t_,t_,t_,t_,t_,t_,t_,t_,t_,t_,t_,t_,t_,t_,t_,t_,t_,t_,t_,t_,t_,t_,t_,t_,t_,t_,t_,t_,t_,t_,t_,t_,f_] HT_.out ?_
           refine pu_ 33 64 #[t_,t_,t_,t_,t_,t_,t_,t_,t_,t_,t_,t_,t_,t_,t_,t_,t_,t_,t_,t_,t_,t_,t_,t_,t_,t_,t_,t_,t_,t_,t_,t_,t_,t_] HT_.out ?_
           refine done_ (done_of HT_.out (by kernel_rfl)) ?_
           try go_wp2
           go_ret
           exact ⟨by first | rfl | (simp [errW_none, errW_some] <;> rfl) | (simp only [← hji17]; first | rfl | (simp [errW_none, errW_some] <;> rfl)) | (simp [*, errW_none, errW_some] <;> rfl), r0_ HB.out GE192.out⟩
          ·rw [if_neg c23] at H
           have c23b0 : decide (((rd_T81 l0 x3_1).f2) < ((rd_T81 l0 (ji17)).f2)) = false := decide_eq_false c23
           clear c23
           have H' := Aside0.mk H
           clear H
           try go_wp2
           replace BK192 := Aside0.mk (blk_drew BK192.out)
           replace HB := Aside0.mk (below_drew1 HB.out)
           have p196 : 0 ≤ ((ji17) : Int) := od_
           have q196 : (ji17) < (l0.length : Int) := od_
           obtain ⟨ad196, e196, hx196_0, hx196_1, hx196_2⟩ := at_T81 HR0.out (ji17) p196 q196
           have hw196_2 := hx196_2
           have hw196_1 := hx196_1
           have hw196_0 := hx196_0
           obtain rfl : ad191 = ad196 := (by injection e196)
           replace hx196_0 := bc_ HB.out hx196_0
           replace hx196_1 := bc_ HB.out hx196_1
           replace hx196_2 := bc_ HB.out hx196_2
           replace p196 := eq_true p196
           replace q196 := eq_true q196
           have p198 : 0 ≤ ((ji17) : Int) := od_
           have q198 : (ji17) < (l0.length : Int) := od_
           obtain ⟨ad198, e198, hx198_0, hx198_1, hx198_2⟩ := at_T81 HR0.out (ji17) p198 q198
           have hw198_2 := hx198_2
           have hw198_1 := hx198_1
           have hw198_0 := hx198_0
           obtain rfl : ad191 = ad198 := (by injection e198)
           replace hx198_0 := bc_ HB.out hx198_0
           replace hx198_1 := bc_ HB.out hx198_1
           replace hx198_2 := bc_ HB.out hx198_2
           replace p198 := eq_true p198
           replace q198 := eq_true q198
           have p199 : 0 ≤ ((ji17) : Int) := od_
           have q199 : (ji17) < (l0.length : Int) := od_
           obtain ⟨ad199, e199, hx199_0, hx199_1, hx199_2⟩ := at_T81 HR0.out (ji17) p199 q199
           have hw199_2 := hx199_2
           have hw199_1 := hx199_1
           have hw199_0 := hx199_0
           obtain rfl : ad191 = ad199 := (by injection e199)
           replace hx199_0 := bc_ HB.out hx199_0
           replace hx199_1 := bc_ HB.out hx199_1
           replace hx199_2 := bc_ HB.out hx199_2
           replace p199 := eq_true p199
           replace q199 := eq_true q199
           refine start_ (n := 34) (S := fun w' => w'.cell? ⟨gb192, 0, none⟩ = some (.int .i64 ((rd_T81 l0 x3_1).f0)) ∧ w'.cell? ⟨gb192, 1, none⟩ = some (.int .i64 ((rd_T81 l0 x3_1).f1)) ∧ w'.cell? ⟨gb192, 2, none⟩ = some (.int .i64 ((rd_T81 l0 x3_1).f2)) ∧ w'.cell? (ad191.add (((ji17)).toNat * 3)) = some (.int .i64 ((rd_T81 l0 (ji17)).f0)) ∧ w'.cell? ⟨(ad191.add (((ji17)).toNat * 3)).block, (ad191.add (((ji17)).toNat * 3)).off + 1, none⟩ = some (.int .i64 ((rd_T81 l0 (ji17)).f1)) ∧ w'.cell? ⟨(ad191.add (((ji17)).toNat * 3)).block, (ad191.add (((ji17)).toNat * 3)).off + 2, none⟩ = some (.int .i64 ((rd_T81 l0 (ji17)).f2)) ∧ w'.cell? (ad191.add (((ji17)).toNat * 3)) = some (.int .i64 ((rd_T81 l0 (ji17)).f0)) ∧ w'.cell? ⟨(ad191.add (((ji17)).toNat * 3)).block, (ad191.add (((ji17)).toNat * 3)).off + 1, none⟩ = some (.int .i64 ((rd_T81 l0 (ji17)).f1)) ∧ w'.cell? ⟨(ad191.add (((ji17)).toNat * 3)).block, (ad191.add (((ji17)).toNat * 3)).off + 2, none⟩ = some (.int .i64 ((rd_T81 l0 (ji17)).f2)) ∧ w'.cell? (ad191.add (((ji17)).toNat * 3)) = some (.int .i64 ((rd_T81 l0 (ji17)).f0)) ∧ w'.cell? ⟨(ad191.add (((ji17)).toNat * 3)).block, (ad191.add (((ji17)).toNat * 3)).off + 1, none⟩ = some (.int .i64 ((rd_T81 l0 (ji17)).f1)) ∧ w'.cell? ⟨(ad191.add (((ji17)).toNat * 3)).block, (ad191.add (((ji17)).toNat * 3)).off + 2, none⟩ = some (.int .i64 ((rd_T81 l0 (ji17)).f2))) (ds := []) #[f_,f_,f_,f_,f_,f_,f_,f_,f_,f_,f_,f_,f_,f_,f_,f_,f_,f_,f_,f_,f_,f_,f_,f_,f_,f_,f_,f_,f_,f_,f_,f_,f_,f_] (by kernel_rfl) rfl rfl ⟨(blk_cell BK192.out 0).trans rfl, (blk_cell BK192.out 1).trans rfl, (blk_cell BK192.out 2).trans rfl, (bc_ HB.out hw196_0 :), (bc_ HB.out hw196_1 :), (bc_ HB.out hw196_2 :), (bc_ HB.out hw198_0 :), (bc_ HB.out hw198_1 :), (bc_ HB.out hw198_2 :), (bc_ HB.out hw199_0 :), (bc_ HB.out hw199_1 :), (bc_ HB.out hw199_2 :)⟩ (fun hHeld => ?_); refine with_tabW spec_IsTable.tab7 spec_IsTable.bits7 (fun HT_ HW_ => ?_)
           generalize wc.drew = w26 at BK192 HB hx196_0 hx196_1 hx196_2 hx198_0 hx198_1 hx198_2 hx199_0 hx199_1 hx199_2 hHeld ⊢
           refine pu_ 0 31 #[t_,f_,f_,f_,f_,f_,f_,f_,f_,f_,f_,f_,f_,f_,f_,f_,f_,f_,f_,f_,f_,f_,f_,f_,f_,f_,f_,f_,f_,f_,f_,f_,f_,f_] HT_.out ?_
           refine pu_ 1 32 #[t_,t_,f_,f_,f_,f_,f_,f_,f_,f_,f_,f_,f_,f_,f_,f_,f_,f_,f_,f_,f_,f_,f_,f_,f_,f_,f_,f_,f_,f_,f_,f_,f_,f_] HT_.out ?_
           refine pu_ 2 33 #[t_,t_,t_,f_,f_,f_,f_,f_,f_,f_,f_,f_,f_,f_,f_,f_,f_,f_,f_,f_,f_,f_,f_,f_,f_,f_,f_,f_,f_,f_,f_,f_,f_,f_] HT_.out ?_
           refine pu_ 3 34 #[t_,t_,t_,t_,f_,f_,f_,f_,f_,f_,f_,f_,f_,f_,f_,f_,f_,f_,f_,f_,f_,f_,f_,f_,f_,f_,f_,f_,f_,f_,f_,f_,f_,f_] HT_.out ?_
           refine pu_ 4 35 #[t_,t_,t_,t_,t_,f_,f_,f_,f_,f_,f_,f_,f_,f_,f_,f_,f_,f_,f_,f_,f_,f_,f_,f_,f_,f_,f_,f_,f_,f_,f_,f_,f_,f_] HT_.out ?_
           refine pu_ 5 36 #[t_,t_,t_,t_,t_,t_,f_,f_,f_,f_,f_,f_,f_,f_,f_,f_,f_,f_,f_,f_,f_,f_,f_,f_,f_,f_,f_,f_,f_,f_,f_,f_,f_,f_] HT_.out ?_
           refine pu_ 6 37 #[t_,t_,t_,t_,t_,t_,t_,f_,f_,f_,f_,f_,f_,f_,f_,f_,f_,f_,f_,f_,f_,f_,f_,f_,f_,f_,f_,f_,f_,f_,f_,f_,f_,f_] HT_.out ?_
           refine take_ (i := 7) (N := some 38) (v := ?_) (a' := ?_) #[t_,t_,t_,t_,t_,t_,t_,t_,f_,f_,f_,f_,f_,f_,f_,f_,f_,f_,f_,f_,f_,f_,f_,f_,f_,f_,f_,f_,f_,f_,f_,f_,f_,f_] rfl rfl (take_ofW HT_.out HW_.out (by kernel_rfl)) (fun _ _ _ h => h) (Or.inl ⟨by rfl, ?_⟩) hHeld ?_ ?_
           rotate_left
           ·rintro w' ⟨s0, s1, s2, s3, s4, s5, s6, s7, s8, s9, s10, s11⟩
            go_simp
            with_reducible rfl
           rotate_left
           ·simp only [pz_]
            rfl
           refine take_ (i := 8) (N := some 39) (v := ?_) (a' := ?_) #[t_,t_,t_,t_,t_,t_,t_,t_,t_,f_,f_,f_,f_,f_,f_,f_,f_,f_,f_,f_,f_,f_,f_,f_,f_,f_,f_,f_,f_,f_,f_,f_,f_,f_] rfl rfl (take_ofW HT_.out HW_.out (by kernel_rfl)) (fun _ _ _ h => h) (Or.inl ⟨by rfl, ?_⟩) hHeld ?_ ?_
           rotate_left
           ·rintro w' ⟨s0, s1, s2, s3, s4, s5, s6, s7, s8, s9, s10, s11⟩
            go_simp
            with_reducible rfl
           rotate_left
           ·simp only [pz_]
            rfl
           refine one_ (i := 9) (N := some 40) #[t_,t_,t_,t_,t_,t_,t_,t_,t_,t_,f_,f_,f_,f_,f_,f_,f_,f_,f_,f_,f_,f_,f_,f_,f_,f_,f_,f_,f_,f_,f_,f_,f_,f_] rfl rfl (one_of HT_.out (by kernel_rfl)) (by decide) (fun K hK => ?_)
           refine goes_ Try.func150 (by kernel_rfl) rfl #[.agg #[.int .i64 ((rd_T81 l0 (ji17)).f0), .int .i64 ((rd_T81 l0 (ji17)).f1), .int .i64 ((rd_T81 l0 (ji17)).f2)], .agg #[.int .i64 ((rd_T81 l0 x3_1).f0), .int .i64 ((rd_T81 l0 x3_1).f1), .int .i64 ((rd_T81 l0 x3_1).f2)]] (by rfl) rfl rfl (by (try simp only [List.map_toArray, List.map_cons, List.map_nil]); first | done | (simp only [hji17]; rfl) | rfl | (simp only [List.length_drop, List.length_take]; rfl)) ?_
           with_reducible refine (spec_l16Before.calls ((rd_T81 l0 (ji17)).f0) ((rd_T81 l0 (ji17)).f1) ((rd_T81 l0 (ji17)).f2) ((rd_T81 l0 x3_1).f0) ((rd_T81 l0 x3_1).f1) ((rd_T81 l0 x3_1).f2) true _ A20.out).mono ?_
           rintro e w27 ⟨rfl, hb⟩
           refine ⟨_, rfl, ?_⟩
           replace BK192 := Aside0.mk (blk_below (g := gb192) (o := .cells #[.int .i64 ((rd_T81 l0 x3_1).f0), .int .i64 ((rd_T81 l0 x3_1).f1), .int .i64 ((rd_T81 l0 x3_1).f2)] 81 (0, 0)) (r1_ BK192.out) hb)
           replace HB := Aside0.mk (below_step (r0_ HB.out GE192.out) hb)
           (try clear hb)
           (try clear hb2)
           (try clear hk)
           (try clear hi)
           refine hK.out _ _ ⟨(blk_cell BK192.out 0).trans rfl, (blk_cell BK192.out 1).trans rfl, (blk_cell BK192.out 2).trans rfl, (bc_ HB.out hw196_0 :), (bc_ HB.out hw196_1 :), (bc_ HB.out hw196_2 :), (bc_ HB.out hw198_0 :), (bc_ HB.out hw198_1 :), (bc_ HB.out hw198_2 :), (bc_ HB.out hw199_0 :), (bc_ HB.out hw199_1 :), (bc_ HB.out hw199_2 :)⟩ (fun hHeld => ?_)
           clear hK K
           refine norm_ (a' := ?_) ?_ ?_
           rotate_left
           ·show Act.put _ (some 40) _ = _
            simp only [pz_]
            rfl
           refine pu_ 10 41 #[t_,t_,t_,t_,t_,t_,t_,t_,t_,t_,t_,f_,f_,f_,f_,f_,f_,f_,f_,f_,f_,f_,f_,f_,f_,f_,f_,f_,f_,f_,f_,f_,f_,f_] HT_.out ?_
           refine pu_ 11 42 #[t_,t_,t_,t_,t_,t_,t_,t_,t_,t_,t_,t_,f_,f_,f_,f_,f_,f_,f_,f_,f_,f_,f_,f_,f_,f_,f_,f_,f_,f_,f_,f_,f_,f_] HT_.out ?_
           refine pu_ 12 43 #[t_,t_,t_,t_,t_,t_,t_,t_,t_,t_,t_,t_,t_,f_,f_,f_,f_,f_,f_,f_,f_,f_,f_,f_,f_,f_,f_,f_,f_,f_,f_,f_,f_,f_] HT_.out ?_
           refine pu_ 13 44 #[t_,t_,t_,t_,t_,t_,t_,t_,t_,t_,t_,t_,t_,t_,f_,f_,f_,f_,f_,f_,f_,f_,f_,f_,f_,f_,f_,f_,f_,f_,f_,f_,f_,f_] HT_.out ?_
           refine pu_ 14 45 #[t_,t_,t_,t_,t_,t_,t_,t_,t_,t_,t_,t_,t_,t_,t_,f_,f_,f_,f_,f_,f_,f_,f_,f_,f_,f_,f_,f_,f_,f_,f_,f_,f_,f_] HT_.out ?_
           refine pu_ 15 46 #[t_,t_,t_,t_,t_,t_,t_,t_,t_,t_,t_,t_,t_,t_,t_,t_,f_,f_,f_,f_,f_,f_,f_,f_,f_,f_,f_,f_,f_,f_,f_,f_,f_,f_] HT_.out ?_
           refine pu_ 16 47 #[t_,t_,t_,t_,t_,t_,t_,t_,t_,t_,t_,t_,t_,t_,t_,t_,t_,f_,f_,f_,f_,f_,f_,f_,f_,f_,f_,f_,f_,f_,f_,f_,f_,f_] HT_.out ?_
           refine pu_ 18 49 #[t_,t_,t_,t_,t_,t_,t_,t_,t_,t_,t_,t_,t_,t_,t_,t_,t_,f_,t_,f_,f_,f_,f_,f_,f_,f_,f_,f_,f_,f_,f_,f_,f_,f_] HT_.out ?_
           refine take_ (i := 17) (N := some 48) (v := ?_) (a' := ?_) #[t_,t_,t_,t_,t_,t_,t_,t_,t_,t_,t_,t_,t_,t_,t_,t_,t_,t_,t_,f_,f_,f_,f_,f_,f_,f_,f_,f_,f_,f_,f_,f_,f_,f_] rfl rfl (take_ofW HT_.out HW_.out (by kernel_rfl)) (fun _ _ _ h => h) (Or.inl ⟨by rfl, ?_⟩) hHeld ?_ ?_
           rotate_left
           ·rintro w' ⟨s0, s1, s2, s3, s4, s5, s6, s7, s8, s9, s10, s11⟩
            go_simp
            with_reducible rfl
           rotate_left
           ·simp only [pz_]
            rfl
           refine take_ (i := 19) (N := some 50) (v := ?_) (a' := ?_) #[t_,t_,t_,t_,t_,t_,t_,t_,t_,t_,t_,t_,t_,t_,t_,t_,t_,t_,t_,t_,f_,f_,f_,f_,f_,f_,f_,f_,f_,f_,f_,f_,f_,f_] rfl rfl (take_ofW HT_.out HW_.out (by kernel_rfl)) (fun _ _ _ h => h) (Or.inl ⟨by rfl, ?_⟩) hHeld ?_ ?_
           rotate_left
           ·rintro w' ⟨s0, s1, s2, s3, s4, s5, s6, s7, s8, s9, s10, s11⟩
            go_simp
            with_reducible rfl
           rotate_left
           ·simp only [pz_]
            rfl
           refine pu_ 20 51 #[t_,t_,t_,t_,t_,t_,t_,t_,t_,t_,t_,t_,t_,t_,t_,t_,t_,t_,t_,t_,t_,f_,f_,f_,f_,f_,f_,f_,f_,f_,f_,f_,f_,f_] HT_.out ?_
           refine pu_ 21 52 #[t_,t_,t_,t_,t_,t_,t_,t_,t_,t_,t_,t_,t_,t_,t_,t_,t_,t_,t_,t_,t_,t_,f_,f_,f_,f_,f_,f_,f_,f_,f_,f_,f_,f_] HT_.out ?_
           refine pu_ 22 53 #[t_,t_,t_,t_,t_,t_,t_,t_,t_,t_,t_,t_,t_,t_,t_,t_,t_,t_,t_,t_,t_,t_,t_,f_,f_,f_,f_,f_,f_,f_,f_,f_,f_,f_] HT_.out ?_
           refine pu_ 23 54 #[t_,t_,t_,t_,t_,t_,t_,t_,t_,t_,t_,t_,t_,t_,t_,t_,t_,t_,t_,t_,t_,t_,t_,t_,f_,f_,f_,f_,f_,f_,f_,f_,f_,f_] HT_.out ?_
           refine pu_ 24 55 #[t_,t_,t_,t_,t_,t_,t_,t_,t_,t_,t_,t_,t_,t_,t_,t_,t_,t_,t_,t_,t_,t_,t_,t_,t_,f_,f_,f_,f_,f_,f_,f_,f_,f_] HT_.out ?_
           refine pu_ 25 56 #[t_,t_,t_,t_,t_,t_,t_,t_,t_,t_,t_,t_,t_,t_,t_,t_,t_,t_,t_,t_,t_,t_,t_,t_,t_,t_,f_,f_,f_,f_,f_,f_,f_,f_] HT_.out ?_
           refine pu_ 26 57 #[t_,t_,t_,t_,t_,t_,t_,t_,t_,t_,t_,t_,t_,t_,t_,t_,t_,t_,t_,t_,t_,t_,t_,t_,t_,t_,t_,f_,f_,f_,f_,f_,f_,f_] HT_.out ?_
           refine pu_ 28 59 #[t_,t_,t_,t_,t_,t_,t_,t_,t_,t_,t_,t_,t_,t_,t_,t_,t_,t_,t_,t_,t_,t_,t_,t_,t_,t_,t_,f_,t_,f_,f_,f_,f_,f_] HT_.out ?_
           refine take_ (i := 27) (N := some 58) (v := ?_) (a' := ?_) #[t_,t_,t_,t_,t_,t_,t_,t_,t_,t_,t_,t_,t_,t_,t_,t_,t_,t_,t_,t_,t_,t_,t_,t_,t_,t_,t_,t_,t_,f_,f_,f_,f_,f_] rfl rfl (take_ofW HT_.out HW_.out (by kernel_rfl)) (fun _ _ _ h => h) (Or.inl ⟨by rfl, ?_⟩) hHeld ?_ ?_
           rotate_left
           ·rintro w' ⟨s0, s1, s2, s3, s4, s5, s6, s7, s8, s9, s10, s11⟩
            go_simp
            with_reducible rfl
           rotate_left
           ·simp only [pz_]
            rfl
           refine take_ (i := 29) (N := some 60) (v := ?_) (a' := ?_) #[t_,t_,t_,t_,t_,t_,t_,t_,t_,t_,t_,t_,t_,t_,t_,t_,t_,t_,t_,t_,t_,t_,t_,t_,t_,t_,t_,t_,t_,t_,f_,f_,f_,f_] rfl rfl (take_ofW HT_.out HW_.out (by kernel_rfl)) (fun _ _ _ h => h) (Or.inl ⟨by rfl, ?_⟩) hHeld ?_ ?_
           rotate_left
           ·rintro w' ⟨s0, s1, s2, s3, s4, s5, s6, s7, s8, s9, s10, s11⟩
            go_simp
            with_reducible rfl
           rotate_left
           ·simp only [pz_]
            rfl
           refine pu_ 30 61 #[t_,t_,t_,t_,t_,t_,t_,t_,t_,t_,t_,t_,t_,t_,t_,t_,t_,t_,t_,t_,t_,t_,t_,t_,t_,t_,t_,t_,t_,t_,t_,f_,f_,f_] HT_.out ?_
           refine pu_ 31 62 #[t_,t_,t_,t_,t_,t_,t_,t_,t_,t_,t_,t_,t_,t_,t_,t_,t_,t_,t_,t_,t_,t_,t_,t_,t_,t_,t_,t_,t_,t_,t_,t_,f_,f_] HT_.out ?_
           refine pu_ 32 63 #[t_,t_,t_,t_,t_,t_,t_,t_,t_,t_,t_,t_,t_,t_,t_,t_,t_,t_,t_,t_,t_,t_,t_,t_,t_,t_,t_,t_,t_,t_,t_,t_,t_,f_] HT_.out ?_
           refine pu_ 33 64 #[t_,t_,t_,t_,t_,t_,t_,t_,t_,t_,t_,t_,t_,t_,t_,t_,t_,t_,t_,t_,t_,t_,t_,t_,t_,t_,t_,t_,t_,t_,t_,t_,t_,t_] HT_.out ?_
           refine done_ (done_of HT_.out (by kernel_rfl)) ?_
           try go_wp2
           go_roundg kj3
           case measure => have := HK1.out; have := HJ3.out; omega
           case rel => exact ⟨(wrap64 (x3_1 + 1)), (by first | rfl | (simp; done) | (simp [*]; done)), H', ⟨by have := HK1.out; have := HJ3.out; omega⟩, ⟨r0_ HB.out GE192.out⟩⟩
         ·rw [if_neg c22] at H
          have c22b0 : (((rd_T81 l0 (ji17)).f0) == ((rd_T81 l0 x3_1).f0)) = false := beq_eq_false_iff_ne.mpr c22
          have c22b1 : (((rd_T81 l0 (ji17)).f0) != ((rd_T81 l0 x3_1).f0)) = true := bne_iff_ne.mpr c22
          have H' := Aside0.mk H
          clear H
          try go_wp2
          replace BK192 := Aside0.mk (blk_drew BK192.out)
          replace HB := Aside0.mk (below_drew1 HB.out)
          have p196 : 0 ≤ ((ji17) : Int) := od_
          have q196 : (ji17) < (l0.length : Int) := od_
          obtain ⟨ad196, e196, hx196_0, hx196_1, hx196_2⟩ := at_T81 HR0.out (ji17) p196 q196
          have hw196_2 := hx196_2
          have hw196_1 := hx196_1
          have hw196_0 := hx196_0
          obtain rfl : ad191 = ad196 := (by injection e196)
          replace hx196_0 := bc_ HB.out hx196_0
          replace hx196_1 := bc_ HB.out hx196_1
          replace hx196_2 := bc_ HB.out hx196_2
          replace p196 := eq_true p196
          replace q196 := eq_true q196
          have p198 : 0 ≤ ((ji17) : Int) := od_
          have q198 : (ji17) < (l0.length : Int) := od_
          obtain ⟨ad198, e198, hx198_0, hx198_1, hx198_2⟩ := at_T81 HR0.out (ji17) p198 q198
          have hw198_2 := hx198_2
          have hw198_1 := hx198_1
          have hw198_0 := hx198_0
          obtain rfl : ad191 = ad198 := (by injection e198)
          replace hx198_0 := bc_ HB.out hx198_0
          replace hx198_1 := bc_ HB.out hx198_1
          replace hx198_2 := bc_ HB.out hx198_2
          replace p198 := eq_true p198
          replace q198 := eq_true q198
          refine start_ (n := 34) (S := fun w' => w'.cell? ⟨gb192, 0, none⟩ = some (.int .i64 ((rd_T81 l0 x3_1).f0)) ∧ w'.cell? ⟨gb192, 1, none⟩ = some (.int .i64 ((rd_T81 l0 x3_1).f1)) ∧ w'.cell? ⟨gb192, 2, none⟩ = some (.int .i64 ((rd_T81 l0 x3_1).f2)) ∧ w'.cell? (ad191.add (((ji17)).toNat * 3)) = some (.int .i64 ((rd_T81 l0 (ji17)).f0)) ∧ w'.cell? ⟨(ad191.add (((ji17)).toNat * 3)).block, (ad191.add (((ji17)).toNat * 3)).off + 1, none⟩ = some (.int .i64 ((rd_T81 l0 (ji17)).f1)) ∧ w'.cell? ⟨(ad191.add (((ji17)).toNat * 3)).block, (ad191.add (((ji17)).toNat * 3)).off + 2, none⟩ = some (.int .i64 ((rd_T81 l0 (ji17)).f2)) ∧ w'.cell? (ad191.add (((ji17)).toNat * 3)) = some (.int .i64 ((rd_T81 l0 (ji17)).f0)) ∧ w'.cell? ⟨(ad191.add (((ji17)).toNat * 3)).block, (ad191.add (((ji17)).toNat * 3)).off + 1, none⟩ = some (.int .i64 ((rd_T81 l0 (ji17)).f1)) ∧ w'.cell? ⟨(ad191.add (((ji17)).toNat * 3)).block, (ad191.add (((ji17)).toNat * 3)).off + 2, none⟩ = some (.int .i64 ((rd_T81 l0 (ji17)).f2))) (ds := []) #[f_,f_,f_,f_,f_,f_,f_,f_,f_,f_,f_,f_,f_,f_,f_,f_,f_,f_,f_,f_,f_,f_,f_,f_,f_,f_,f_,f_,f_,f_,f_,f_,f_,f_] (by kernel_rfl) rfl rfl ⟨(blk_cell BK192.out 0).trans rfl, (blk_cell BK192.out 1).trans rfl, (blk_cell BK192.out 2).trans rfl, (bc_ HB.out hw196_0 :), (bc_ HB.out hw196_1 :), (bc_ HB.out hw196_2 :), (bc_ HB.out hw198_0 :), (bc_ HB.out hw198_1 :), (bc_ HB.out hw198_2 :)⟩ (fun hHeld => ?_); refine with_tabW spec_IsTable.tab7 spec_IsTable.bits7 (fun HT_ HW_ => ?_)
          generalize wc.drew = w28 at BK192 HB hx196_0 hx196_1 hx196_2 hx198_0 hx198_1 hx198_2 hHeld ⊢
          refine pu_ 0 31 #[t_,f_,f_,f_,f_,f_,f_,f_,f_,f_,f_,f_,f_,f_,f_,f_,f_,f_,f_,f_,f_,f_,f_,f_,f_,f_,f_,f_,f_,f_,f_,f_,f_,f_] HT_.out ?_
          refine pu_ 1 32 #[t_,t_,f_,f_,f_,f_,f_,f_,f_,f_,f_,f_,f_,f_,f_,f_,f_,f_,f_,f_,f_,f_,f_,f_,f_,f_,f_,f_,f_,f_,f_,f_,f_,f_] HT_.out ?_
          refine pu_ 2 33 #[t_,t_,t_,f_,f_,f_,f_,f_,f_,f_,f_,f_,f_,f_,f_,f_,f_,f_,f_,f_,f_,f_,f_,f_,f_,f_,f_,f_,f_,f_,f_,f_,f_,f_] HT_.out ?_
          refine pu_ 3 34 #[t_,t_,t_,t_,f_,f_,f_,f_,f_,f_,f_,f_,f_,f_,f_,f_,f_,f_,f_,f_,f_,f_,f_,f_,f_,f_,f_,f_,f_,f_,f_,f_,f_,f_] HT_.out ?_
          refine pu_ 4 35 #[t_,t_,t_,t_,t_,f_,f_,f_,f_,f_,f_,f_,f_,f_,f_,f_,f_,f_,f_,f_,f_,f_,f_,f_,f_,f_,f_,f_,f_,f_,f_,f_,f_,f_] HT_.out ?_
          refine pu_ 5 36 #[t_,t_,t_,t_,t_,t_,f_,f_,f_,f_,f_,f_,f_,f_,f_,f_,f_,f_,f_,f_,f_,f_,f_,f_,f_,f_,f_,f_,f_,f_,f_,f_,f_,f_] HT_.out ?_
          refine pu_ 6 37 #[t_,t_,t_,t_,t_,t_,t_,f_,f_,f_,f_,f_,f_,f_,f_,f_,f_,f_,f_,f_,f_,f_,f_,f_,f_,f_,f_,f_,f_,f_,f_,f_,f_,f_] HT_.out ?_
          refine take_ (i := 7) (N := some 38) (v := ?_) (a' := ?_) #[t_,t_,t_,t_,t_,t_,t_,t_,f_,f_,f_,f_,f_,f_,f_,f_,f_,f_,f_,f_,f_,f_,f_,f_,f_,f_,f_,f_,f_,f_,f_,f_,f_,f_] rfl rfl (take_ofW HT_.out HW_.out (by kernel_rfl)) (fun _ _ _ h => h) (Or.inl ⟨by rfl, ?_⟩) hHeld ?_ ?_
          rotate_left
          ·rintro w' ⟨s0, s1, s2, s3, s4, s5, s6, s7, s8⟩
           go_simp
           with_reducible rfl
          rotate_left
          ·simp only [pz_]
           rfl
          refine take_ (i := 8) (N := some 39) (v := ?_) (a' := ?_) #[t_,t_,t_,t_,t_,t_,t_,t_,t_,f_,f_,f_,f_,f_,f_,f_,f_,f_,f_,f_,f_,f_,f_,f_,f_,f_,f_,f_,f_,f_,f_,f_,f_,f_] rfl rfl (take_ofW HT_.out HW_.out (by kernel_rfl)) (fun _ _ _ h => h) (Or.inl ⟨by rfl, ?_⟩) hHeld ?_ ?_
          rotate_left
          ·rintro w' ⟨s0, s1, s2, s3, s4, s5, s6, s7, s8⟩
           go_simp
           with_reducible rfl
          rotate_left
          ·simp only [pz_]
           rfl
          refine one_ (i := 9) (N := some 40) #[t_,t_,t_,t_,t_,t_,t_,t_,t_,t_,f_,f_,f_,f_,f_,f_,f_,f_,f_,f_,f_,f_,f_,f_,f_,f_,f_,f_,f_,f_,f_,f_,f_,f_] rfl rfl (one_of HT_.out (by kernel_rfl)) (by decide) (fun K hK => ?_)
          refine goes_ Try.func150 (by kernel_rfl) rfl #[.agg #[.int .i64 ((rd_T81 l0 (ji17)).f0), .int .i64 ((rd_T81 l0 (ji17)).f1), .int .i64 ((rd_T81 l0 (ji17)).f2)], .agg #[.int .i64 ((rd_T81 l0 x3_1).f0), .int .i64 ((rd_T81 l0 x3_1).f1), .int .i64 ((rd_T81 l0 x3_1).f2)]] (by rfl) rfl rfl (by (try simp only [List.map_toArray, List.map_cons, List.map_nil]); first | done | (simp only [hji17]; rfl) | rfl | (simp only [List.length_drop, List.length_take]; rfl)) ?_
          with_reducible refine (spec_l16Before.calls ((rd_T81 l0 (ji17)).f0) ((rd_T81 l0 (ji17)).f1) ((rd_T81 l0 (ji17)).f2) ((rd_T81 l0 x3_1).f0) ((rd_T81 l0 x3_1).f1) ((rd_T81 l0 x3_1).f2) true _ A20.out).mono ?_
          rintro e w29 ⟨rfl, hb⟩
          refine ⟨_, rfl, ?_⟩
          replace BK192 := Aside0.mk (blk_below (g := gb192) (o := .cells #[.int .i64 ((rd_T81 l0 x3_1).f0), .int .i64 ((rd_T81 l0 x3_1).f1), .int .i64 ((rd_T81 l0 x3_1).f2)] 81 (0, 0)) (r1_ BK192.out) hb)
          replace HB := Aside0.mk (below_step (r0_ HB.out GE192.out) hb)
          (try clear hb)
          (try clear hb2)
          (try clear hk)
          (try clear hi)
          refine hK.out _ _ ⟨(blk_cell BK192.out 0).trans rfl, (blk_cell BK192.out 1).trans rfl, (blk_cell BK192.out 2).trans rfl, (bc_ HB.out hw196_0 :), (bc_ HB.out hw196_1 :), (bc_ HB.out hw196_2 :), (bc_ HB.out hw198_0 :), (bc_ HB.out hw198_1 :), (bc_ HB.out hw198_2 :)⟩ (fun hHeld => ?_)
          clear hK K
          refine norm_ (a' := ?_) ?_ ?_
          rotate_left
          ·show Act.put _ (some 40) _ = _
           simp only [pz_]
           rfl
          refine pu_ 10 41 #[t_,t_,t_,t_,t_,t_,t_,t_,t_,t_,t_,f_,f_,f_,f_,f_,f_,f_,f_,f_,f_,f_,f_,f_,f_,f_,f_,f_,f_,f_,f_,f_,f_,f_] HT_.out ?_
          refine pu_ 11 42 #[t_,t_,t_,t_,t_,t_,t_,t_,t_,t_,t_,t_,f_,f_,f_,f_,f_,f_,f_,f_,f_,f_,f_,f_,f_,f_,f_,f_,f_,f_,f_,f_,f_,f_] HT_.out ?_
          refine pu_ 12 43 #[t_,t_,t_,t_,t_,t_,t_,t_,t_,t_,t_,t_,t_,f_,f_,f_,f_,f_,f_,f_,f_,f_,f_,f_,f_,f_,f_,f_,f_,f_,f_,f_,f_,f_] HT_.out ?_
          refine pu_ 13 44 #[t_,t_,t_,t_,t_,t_,t_,t_,t_,t_,t_,t_,t_,t_,f_,f_,f_,f_,f_,f_,f_,f_,f_,f_,f_,f_,f_,f_,f_,f_,f_,f_,f_,f_] HT_.out ?_
          refine pu_ 14 45 #[t_,t_,t_,t_,t_,t_,t_,t_,t_,t_,t_,t_,t_,t_,t_,f_,f_,f_,f_,f_,f_,f_,f_,f_,f_,f_,f_,f_,f_,f_,f_,f_,f_,f_] HT_.out ?_
          refine pu_ 15 46 #[t_,t_,t_,t_,t_,t_,t_,t_,t_,t_,t_,t_,t_,t_,t_,t_,f_,f_,f_,f_,f_,f_,f_,f_,f_,f_,f_,f_,f_,f_,f_,f_,f_,f_] HT_.out ?_
          refine pu_ 16 47 #[t_,t_,t_,t_,t_,t_,t_,t_,t_,t_,t_,t_,t_,t_,t_,t_,t_,f_,f_,f_,f_,f_,f_,f_,f_,f_,f_,f_,f_,f_,f_,f_,f_,f_] HT_.out ?_
          refine pu_ 18 49 #[t_,t_,t_,t_,t_,t_,t_,t_,t_,t_,t_,t_,t_,t_,t_,t_,t_,f_,t_,f_,f_,f_,f_,f_,f_,f_,f_,f_,f_,f_,f_,f_,f_,f_] HT_.out ?_
          refine take_ (i := 17) (N := some 48) (v := ?_) (a' := ?_) #[t_,t_,t_,t_,t_,t_,t_,t_,t_,t_,t_,t_,t_,t_,t_,t_,t_,t_,t_,f_,f_,f_,f_,f_,f_,f_,f_,f_,f_,f_,f_,f_,f_,f_] rfl rfl (take_ofW HT_.out HW_.out (by kernel_rfl)) (fun _ _ _ h => h) (Or.inl ⟨by rfl, ?_⟩) hHeld ?_ ?_
          rotate_left
          ·rintro w' ⟨s0, s1, s2, s3, s4, s5, s6, s7, s8⟩
           go_simp
           with_reducible rfl
          rotate_left
          ·simp only [pz_]
           rfl
          refine take_ (i := 19) (N := some 50) (v := ?_) (a' := ?_) #[t_,t_,t_,t_,t_,t_,t_,t_,t_,t_,t_,t_,t_,t_,t_,t_,t_,t_,t_,t_,f_,f_,f_,f_,f_,f_,f_,f_,f_,f_,f_,f_,f_,f_] rfl rfl (take_ofW HT_.out HW_.out (by kernel_rfl)) (fun _ _ _ h => h) (Or.inl ⟨by rfl, ?_⟩) hHeld ?_ ?_
          rotate_left
          ·rintro w' ⟨s0, s1, s2, s3, s4, s5, s6, s7, s8⟩
           go_simp
           with_reducible rfl
          rotate_left
          ·simp only [pz_]
           rfl
          refine pu_ 20 51 #[t_,t_,t_,t_,t_,t_,t_,t_,t_,t_,t_,t_,t_,t_,t_,t_,t_,t_,t_,t_,t_,f_,f_,f_,f_,f_,f_,f_,f_,f_,f_,f_,f_,f_] HT_.out ?_
          refine pu_ 21 52 #[t_,t_,t_,t_,t_,t_,t_,t_,t_,t_,t_,t_,t_,t_,t_,t_,t_,t_,t_,t_,t_,t_,f_,f_,f_,f_,f_,f_,f_,f_,f_,f_,f_,f_] HT_.out ?_
          refine un_ 22 53 #[t_,t_,t_,t_,t_,t_,t_,t_,t_,t_,t_,t_,t_,t_,t_,t_,t_,t_,t_,t_,t_,t_,t_,f_,f_,f_,f_,f_,f_,f_,f_,f_,f_,f_] HT_.out ?_
          refine un_ 23 54 #[t_,t_,t_,t_,t_,t_,t_,t_,t_,t_,t_,t_,t_,t_,t_,t_,t_,t_,t_,t_,t_,t_,t_,t_,f_,f_,f_,f_,f_,f_,f_,f_,f_,f_] HT_.out ?_
          refine un_ 24 55 #[t_,t_,t_,t_,t_,t_,t_,t_,t_,t_,t_,t_,t_,t_,t_,t_,t_,t_,t_,t_,t_,t_,t_,t_,t_,f_,f_,f_,f_,f_,f_,f_,f_,f_] HT_.out ?_
          refine un_ 25 56 #[t_,t_,t_,t_,t_,t_,t_,t_,t_,t_,t_,t_,t_,t_,t_,t_,t_,t_,t_,t_,t_,t_,t_,t_,t_,t_,f_,f_,f_,f_,f_,f_,f_,f_] HT_.out ?_
          refine un_ 26 57 #[t_,t_,t_,t_,t_,t_,t_,t_,t_,t_,t_,t_,t_,t_,t_,t_,t_,t_,t_,t_,t_,t_,t_,t_,t_,t_,t_,f_,f_,f_,f_,f_,f_,f_] HT_.out ?_
          refine un_ 27 58 #[t_,t_,t_,t_,t_,t_,t_,t_,t_,t_,t_,t_,t_,t_,t_,t_,t_,t_,t_,t_,t_,t_,t_,t_,t_,t_,t_,t_,f_,f_,f_,f_,f_,f_] HT_.out ?_
          refine un_ 28 59 #[t_,t_,t_,t_,t_,t_,t_,t_,t_,t_,t_,t_,t_,t_,t_,t_,t_,t_,t_,t_,t_,t_,t_,t_,t_,t_,t_,t_,t_,f_,f_,f_,f_,f_] HT_.out ?_
          refine un_ 29 60 #[t_,t_,t_,t_,t_,t_,t_,t_,t_,t_,t_,t_,t_,t_,t_,t_,t_,t_,t_,t_,t_,t_,t_,t_,t_,t_,t_,t_,t_,t_,f_,f_,f_,f_] HT_.out ?_
          refine un_ 30 61 #[t_,t_,t_,t_,t_,t_,t_,t_,t_,t_,t_,t_,t_,t_,t_,t_,t_,t_,t_,t_,t_,t_,t_,t_,t_,t_,t_,t_,t_,t_,t_,f_,f_,f_] HT_.out ?_
          refine pu_ 31 62 #[t_,t_,t_,t_,t_,t_,t_,t_,t_,t_,t_,t_,t_,t_,t_,t_,t_,t_,t_,t_,t_,t_,t_,t_,t_,t_,t_,t_,t_,t_,t_,t_,f_,f_] HT_.out ?_
          refine pu_ 32 63 #[t_,t_,t_,t_,t_,t_,t_,t_,t_,t_,t_,t_,t_,t_,t_,t_,t_,t_,t_,t_,t_,t_,t_,t_,t_,t_,t_,t_,t_,t_,t_,t_,t_,f_] HT_.out ?_
          refine pu_ 33 64 #[t_,t_,t_,t_,t_,t_,t_,t_,t_,t_,t_,t_,t_,t_,t_,t_,t_,t_,t_,t_,t_,t_,t_,t_,t_,t_,t_,t_,t_,t_,t_,t_,t_,t_] HT_.out ?_
          refine done_ (done_of HT_.out (by kernel_rfl)) ?_
          try go_wp2
          go_roundg kj3
          case measure => have := HK1.out; have := HJ3.out; omega
          case rel => exact ⟨(wrap64 (x3_1 + 1)), (by first | rfl | (simp; done) | (simp [*]; done)), H', ⟨by have := HK1.out; have := HJ3.out; omega⟩, ⟨r0_ HB.out GE192.out⟩⟩
        ·replace c21 := Bool.eq_false_iff.mpr c21
         subst c21
         replace H : (some false) = some r := by rw [if_neg (show ¬ (false = true) by decide)] at H; exact H
         obtain rfl := Option.some.inj H
         try go_wp2
         replace BK192 := Aside0.mk (blk_drew BK192.out)
         replace HB := Aside0.mk (below_drew1 HB.out)
         have p196 : 0 ≤ ((ji17) : Int) := od_
         have q196 : (ji17) < (l0.length : Int) := od_
         obtain ⟨ad196, e196, hx196_0, hx196_1, hx196_2⟩ := at_T81 HR0.out (ji17) p196 q196
         have hw196_2 := hx196_2
         have hw196_1 := hx196_1
         have hw196_0 := hx196_0
         obtain rfl : ad191 = ad196 := (by injection e196)
         replace hx196_0 := bc_ HB.out hx196_0
         replace hx196_1 := bc_ HB.out hx196_1
         replace hx196_2 := bc_ HB.out hx196_2
         replace p196 := eq_true p196
         replace q196 := eq_true q196
         refine start_ (n := 34) (S := fun w' => w'.cell? ⟨gb192, 0, none⟩ = some (.int .i64 ((rd_T81 l0 x3_1).f0)) ∧ w'.cell? ⟨gb192, 1, none⟩ = some (.int .i64 ((rd_T81 l0 x3_1).f1)) ∧ w'.cell? ⟨gb192, 2, none⟩ = some (.int .i64 ((rd_T81 l0 x3_1).f2)) ∧ w'.cell? (ad191.add (((ji17)).toNat * 3)) = some (.int .i64 ((rd_T81 l0 (ji17)).f0)) ∧ w'.cell? ⟨(ad191.add (((ji17)).toNat * 3)).block, (ad191.add (((ji17)).toNat * 3)).off + 1, none⟩ = some (.int .i64 ((rd_T81 l0 (ji17)).f1)) ∧ w'.cell? ⟨(ad191.add (((ji17)).toNat * 3)).block, (ad191.add (((ji17)).toNat * 3)).off + 2, none⟩ = some (.int .i64 ((rd_T81 l0 (ji17)).f2))) (ds := []) #[f_,f_,f_,f_,f_,f_,f_,f_,f_,f_,f_,f_,f_,f_,f_,f_,f_,f_,f_,f_,f_,f_,f_,f_,f_,f_,f_,f_,f_,f_,f_,f_,f_,f_] (by kernel_rfl) rfl rfl ⟨(blk_cell BK192.out 0).trans rfl, (blk_cell BK192.out 1).trans rfl, (blk_cell BK192.out 2).trans rfl, (bc_ HB.out hw196_0 :), (bc_ HB.out hw196_1 :), (bc_ HB.out hw196_2 :)⟩ (fun hHeld => ?_); refine with_tabW spec_IsTable.tab7 spec_IsTable.bits7 (fun HT_ HW_ => ?_)
         generalize wc.drew = w30 at BK192 HB hx196_0 hx196_1 hx196_2 hHeld ⊢
         refine pu_ 0 31 #[t_,f_,f_,f_,f_,f_,f_,f_,f_,f_,f_,f_,f_,f_,f_,f_,f_,f_,f_,f_,f_,f_,f_,f_,f_,f_,f_,f_,f_,f_,f_,f_,f_,f_] HT_.out ?_
         refine pu_ 1 32 #[t_,t_,f_,f_,f_,f_,f_,f_,f_,f_,f_,f_,f_,f_,f_,f_,f_,f_,f_,f_,f_,f_,f_,f_,f_,f_,f_,f_,f_,f_,f_,f_,f_,f_] HT_.out ?_
         refine pu_ 2 33 #[t_,t_,t_,f_,f_,f_,f_,f_,f_,f_,f_,f_,f_,f_,f_,f_,f_,f_,f_,f_,f_,f_,f_,f_,f_,f_,f_,f_,f_,f_,f_,f_,f_,f_] HT_.out ?_
         refine pu_ 3 34 #[t_,t_,t_,t_,f_,f_,f_,f_,f_,f_,f_,f_,f_,f_,f_,f_,f_,f_,f_,f_,f_,f_,f_,f_,f_,f_,f_,f_,f_,f_,f_,f_,f_,f_] HT_.out ?_
         refine pu_ 4 35 #[t_,t_,t_,t_,t_,f_,f_,f_,f_,f_,f_,f_,f_,f_,f_,f_,f_,f_,f_,f_,f_,f_,f_,f_,f_,f_,f_,f_,f_,f_,f_,f_,f_,f_] HT_.out ?_
         refine pu_ 5 36 #[t_,t_,t_,t_,t_,t_,f_,f_,f_,f_,f_,f_,f_,f_,f_,f_,f_,f_,f_,f_,f_,f_,f_,f_,f_,f_,f_,f_,f_,f_,f_,f_,f_,f_] HT_.out ?_
         refine pu_ 6 37 #[t_,t_,t_,t_,t_,t_,t_,f_,f_,f_,f_,f_,f_,f_,f_,f_,f_,f_,f_,f_,f_,f_,f_,f_,f_,f_,f_,f_,f_,f_,f_,f_,f_,f_] HT_.out ?_
         refine take_ (i := 7) (N := some 38) (v := ?_) (a' := ?_) #[t_,t_,t_,t_,t_,t_,t_,t_,f_,f_,f_,f_,f_,f_,f_,f_,f_,f_,f_,f_,f_,f_,f_,f_,f_,f_,f_,f_,f_,f_,f_,f_,f_,f_] rfl rfl (take_ofW HT_.out HW_.out (by kernel_rfl)) (fun _ _ _ h => h) (Or.inl ⟨by rfl, ?_⟩) hHeld ?_ ?_
         rotate_left
         ·rintro w' ⟨s0, s1, s2, s3, s4, s5⟩
          go_simp
          with_reducible rfl
         rotate_left
         ·simp only [pz_]
          rfl
         refine take_ (i := 8) (N := some 39) (v := ?_) (a' := ?_) #[t_,t_,t_,t_,t_,t_,t_,t_,t_,f_,f_,f_,f_,f_,f_,f_,f_,f_,f_,f_,f_,f_,f_,f_,f_,f_,f_,f_,f_,f_,f_,f_,f_,f_] rfl rfl (take_ofW HT_.out HW_.out (by kernel_rfl)) (fun _ _ _ h => h) (Or.inl ⟨by rfl, ?_⟩) hHeld ?_ ?_
         rotate_left
         ·rintro w' ⟨s0, s1, s2, s3, s4, s5⟩
          go_simp
          with_reducible rfl
         rotate_left
         ·simp only [pz_]
          rfl
         refine one_ (i := 9) (N := some 40) #[t_,t_,t_,t_,t_,t_,t_,t_,t_,t_,f_,f_,f_,f_,f_,f_,f_,f_,f_,f_,f_,f_,f_,f_,f_,f_,f_,f_,f_,f_,f_,f_,f_,f_] rfl rfl (one_of HT_.out (by kernel_rfl)) (by decide) (fun K hK => ?_)
         refine goes_ Try.func150 (by kernel_rfl) rfl #[.agg #[.int .i64 ((rd_T81 l0 (ji17)).f0), .int .i64 ((rd_T81 l0 (ji17)).f1), .int .i64 ((rd_T81 l0 (ji17)).f2)], .agg #[.int .i64 ((rd_T81 l0 x3_1).f0), .int .i64 ((rd_T81 l0 x3_1).f1), .int .i64 ((rd_T81 l0 x3_1).f2)]] (by rfl) rfl rfl (by (try simp only [List.map_toArray, List.map_cons, List.map_nil]); first | done | (simp only [hji17]; rfl) | rfl | (simp only [List.length_drop, List.length_take]; rfl)) ?_
         with_reducible refine (spec_l16Before.calls ((rd_T81 l0 (ji17)).f0) ((rd_T81 l0 (ji17)).f1) ((rd_T81 l0 (ji17)).f2) ((rd_T81 l0 x3_1).f0) ((rd_T81 l0 x3_1).f1) ((rd_T81 l0 x3_1).f2) false _ A20.out).mono ?_
         rintro e w31 ⟨rfl, hb⟩
         refine ⟨_, rfl, ?_⟩
         replace BK192 := Aside0.mk (blk_below (g := gb192) (o := .cells #[.int .i64 ((rd_T81 l0 x3_1).f0), .int .i64 ((rd_T81 l0 x3_1).f1), .int .i64 ((rd_T81 l0 x3_1).f2)] 81 (0, 0)) (r1_ BK192.out) hb)
         replace HB := Aside0.mk (below_step (r0_ HB.out GE192.out) hb)
         (try clear hb)
         (try clear hb2)
         (try clear hk)
         (try clear hi)
         refine hK.out _ _ ⟨(blk_cell BK192.out 0).trans rfl, (blk_cell BK192.out 1).trans rfl, (blk_cell BK192.out 2).trans rfl, (bc_ HB.out hw196_0 :), (bc_ HB.out hw196_1 :), (bc_ HB.out hw196_2 :)⟩ (fun hHeld => ?_)
         clear hK K
         refine norm_ (a' := ?_) ?_ ?_
         rotate_left
         ·show Act.put _ (some 40) _ = _
          simp only [pz_]
          rfl
         refine pu_ 10 41 #[t_,t_,t_,t_,t_,t_,t_,t_,t_,t_,t_,f_,f_,f_,f_,f_,f_,f_,f_,f_,f_,f_,f_,f_,f_,f_,f_,f_,f_,f_,f_,f_,f_,f_] HT_.out ?_
         refine pu_ 11 42 #[t_,t_,t_,t_,t_,t_,t_,t_,t_,t_,t_,t_,f_,f_,f_,f_,f_,f_,f_,f_,f_,f_,f_,f_,f_,f_,f_,f_,f_,f_,f_,f_,f_,f_] HT_.out ?_
         refine un_ 12 43 #[t_,t_,t_,t_,t_,t_,t_,t_,t_,t_,t_,t_,t_,f_,f_,f_,f_,f_,f_,f_,f_,f_,f_,f_,f_,f_,f_,f_,f_,f_,f_,f_,f_,f_] HT_.out ?_
         refine un_ 13 44 #[t_,t_,t_,t_,t_,t_,t_,t_,t_,t_,t_,t_,t_,t_,f_,f_,f_,f_,f_,f_,f_,f_,f_,f_,f_,f_,f_,f_,f_,f_,f_,f_,f_,f_] HT_.out ?_
         refine un_ 14 45 #[t_,t_,t_,t_,t_,t_,t_,t_,t_,t_,t_,t_,t_,t_,t_,f_,f_,f_,f_,f_,f_,f_,f_,f_,f_,f_,f_,f_,f_,f_,f_,f_,f_,f_] HT_.out ?_
         refine un_ 15 46 #[t_,t_,t_,t_,t_,t_,t_,t_,t_,t_,t_,t_,t_,t_,t_,t_,f_,f_,f_,f_,f_,f_,f_,f_,f_,f_,f_,f_,f_,f_,f_,f_,f_,f_] HT_.out ?_
         refine un_ 16 47 #[t_,t_,t_,t_,t_,t_,t_,t_,t_,t_,t_,t_,t_,t_,t_,t_,t_,f_,f_,f_,f_,f_,f_,f_,f_,f_,f_,f_,f_,f_,f_,f_,f_,f_] HT_.out ?_
         refine un_ 17 48 #[t_,t_,t_,t_,t_,t_,t_,t_,t_,t_,t_,t_,t_,t_,t_,t_,t_,t_,f_,f_,f_,f_,f_,f_,f_,f_,f_,f_,f_,f_,f_,f_,f_,f_] HT_.out ?_
         refine un_ 18 49 #[t_,t_,t_,t_,t_,t_,t_,t_,t_,t_,t_,t_,t_,t_,t_,t_,t_,t_,t_,f_,f_,f_,f_,f_,f_,f_,f_,f_,f_,f_,f_,f_,f_,f_] HT_.out ?_
         refine un_ 19 50 #[t_,t_,t_,t_,t_,t_,t_,t_,t_,t_,t_,t_,t_,t_,t_,t_,t_,t_,t_,t_,f_,f_,f_,f_,f_,f_,f_,f_,f_,f_,f_,f_,f_,f_] HT_.out ?_
         refine un_ 20 51 #[t_,t_,t_,t_,t_,t_,t_,t_,t_,t_,t_,t_,t_,t_,t_,t_,t_,t_,t_,t_,t_,f_,f_,f_,f_,f_,f_,f_,f_,f_,f_,f_,f_,f_] HT_.out ?_
         refine un_ 21 52 #[t_,t_,t_,t_,t_,t_,t_,t_,t_,t_,t_,t_,t_,t_,t_,t_,t_,t_,t_,t_,t_,t_,f_,f_,f_,f_,f_,f_,f_,f_,f_,f_,f_,f_] HT_.out ?_
         refine un_ 22 53 #[t_,t_,t_,t_,t_,t_,t_,t_,t_,t_,t_,t_,t_,t_,t_,t_,t_,t_,t_,t_,t_,t_,t_,f_,f_,f_,f_,f_,f_,f_,f_,f_,f_,f_] HT_.out ?_
         refine un_ 23 54 #[t_,t_,t_,t_,t_,t_,t_,t_,t_,t_,t_,t_,t_,t_,t_,t_,t_,t_,t_,t_,t_,t_,t_,t_,f_,f_,f_,f_,f_,f_,f_,f_,f_,f_] HT_.out ?_
         refine un_ 24 55 #[t_,t_,t_,t_,t_,t_,t_,t_,t_,t_,t_,t_,t_,t_,t_,t_,t_,t_,t_,t_,t_,t_,t_,t_,t_,f_,f_,f_,f_,f_,f_,f_,f_,f_] HT_.out ?_
         refine un_ 25 56 #[t_,t_,t_,t_,t_,t_,t_,t_,t_,t_,t_,t_,t_,t_,t_,t_,t_,t_,t_,t_,t_,t_,t_,t_,t_,t_,f_,f_,f_,f_,f_,f_,f_,f_] HT_.out ?_
         refine un_ 26 57 #[t_,t_,t_,t_,t_,t_,t_,t_,t_,t_,t_,t_,t_,t_,t_,t_,t_,t_,t_,t_,t_,t_,t_,t_,t_,t_,t_,f_,f_,f_,f_,f_,f_,f_] HT_.out ?_
         refine un_ 27 58 #[t_,t_,t_,t_,t_,t_,t_,t_,t_,t_,t_,t_,t_,t_,t_,t_,t_,t_,t_,t_,t_,t_,t_,t_,t_,t_,t_,t_,f_,f_,f_,f_,f_,f_] HT_.out ?_
         refine un_ 28 59 #[t_,t_,t_,t_,t_,t_,t_,t_,t_,t_,t_,t_,t_,t_,t_,t_,t_,t_,t_,t_,t_,t_,t_,t_,t_,t_,t_,t_,t_,f_,f_,f_,f_,f_] HT_.out ?_
         refine un_ 29 60 #[t_,t_,t_,t_,t_,t_,t_,t_,t_,t_,t_,t_,t_,t_,t_,t_,t_,t_,t_,t_,t_,t_,t_,t_,t_,t_,t_,t_,t_,t_,f_,f_,f_,f_] HT_.out ?_
         refine un_ 30 61 #[t_,t_,t_,t_,t_,t_,t_,t_,t_,t_,t_,t_,t_,t_,t_,t_,t_,t_,t_,t_,t_,t_,t_,t_,t_,t_,t_,t_,t_,t_,t_,f_,f_,f_] HT_.out ?_
         refine un_ 31 62 #[t_,t_,t_,t_,t_,t_,t_,t_,t_,t_,t_,t_,t_,t_,t_,t_,t_,t_,t_,t_,t_,t_,t_,t_,t_,t_,t_,t_,t_,t_,t_,t_,f_,f_] HT_.out ?_
         refine pu_ 32 63 #[t_,t_,t_,t_,t_,t_,t_,t_,t_,t_,t_,t_,t_,t_,t_,t_,t_,t_,t_,t_,t_,t_,t_,t_,t_,t_,t_,t_,t_,t_,t_,t_,t_,f_] HT_.out ?_
         refine pu_ 33 64 #[t_,t_,t_,t_,t_,t_,t_,t_,t_,t_,t_,t_,t_,t_,t_,t_,t_,t_,t_,t_,t_,t_,t_,t_,t_,t_,t_,t_,t_,t_,t_,t_,t_,t_] HT_.out ?_
         refine done_ (done_of HT_.out (by kernel_rfl)) ?_
         try go_wp2
         go_ret
         exact ⟨by first | rfl | (simp [errW_none, errW_some] <;> rfl) | (simp only [← hji17]; first | rfl | (simp [errW_none, errW_some] <;> rfl)) | (simp [*, errW_none, errW_some] <;> rfl), r0_ HB.out GE192.out⟩
       ·rw [if_neg c16] at H
        have c16b0 : decide (0 < x3_1) = false := decide_eq_false c16
        clear c16
        have H' := Aside0.mk H
        clear H
        try go_wp2
        replace BK192 := Aside0.mk (blk_drew BK192.out)
        replace HB := Aside0.mk (below_drew1 HB.out)
        refine start_ (n := 34) (S := fun w' => True) (ds := []) #[f_,f_,f_,f_,f_,f_,f_,f_,f_,f_,f_,f_,f_,f_,f_,f_,f_,f_,f_,f_,f_,f_,f_,f_,f_,f_,f_,f_,f_,f_,f_,f_,f_,f_] (by kernel_rfl) rfl rfl trivial (fun hHeld => ?_); refine with_tabW spec_IsTable.tab7 spec_IsTable.bits7 (fun HT_ HW_ => ?_)
        generalize wc.drew = w32 at BK192 HB hHeld ⊢
        refine pu_ 0 31 #[t_,f_,f_,f_,f_,f_,f_,f_,f_,f_,f_,f_,f_,f_,f_,f_,f_,f_,f_,f_,f_,f_,f_,f_,f_,f_,f_,f_,f_,f_,f_,f_,f_,f_] HT_.out ?_
        refine pu_ 1 32 #[t_,t_,f_,f_,f_,f_,f_,f_,f_,f_,f_,f_,f_,f_,f_,f_,f_,f_,f_,f_,f_,f_,f_,f_,f_,f_,f_,f_,f_,f_,f_,f_,f_,f_] HT_.out ?_
        refine pu_ 2 33 #[t_,t_,t_,f_,f_,f_,f_,f_,f_,f_,f_,f_,f_,f_,f_,f_,f_,f_,f_,f_,f_,f_,f_,f_,f_,f_,f_,f_,f_,f_,f_,f_,f_,f_] HT_.out ?_
        refine un_ 3 34 #[t_,t_,t_,t_,f_,f_,f_,f_,f_,f_,f_,f_,f_,f_,f_,f_,f_,f_,f_,f_,f_,f_,f_,f_,f_,f_,f_,f_,f_,f_,f_,f_,f_,f_] HT_.out ?_
        refine un_ 4 35 #[t_,t_,t_,t_,t_,f_,f_,f_,f_,f_,f_,f_,f_,f_,f_,f_,f_,f_,f_,f_,f_,f_,f_,f_,f_,f_,f_,f_,f_,f_,f_,f_,f_,f_] HT_.out ?_
        refine un_ 5 36 #[t_,t_,t_,t_,t_,t_,f_,f_,f_,f_,f_,f_,f_,f_,f_,f_,f_,f_,f_,f_,f_,f_,f_,f_,f_,f_,f_,f_,f_,f_,f_,f_,f_,f_] HT_.out ?_
        refine un_ 6 37 #[t_,t_,t_,t_,t_,t_,t_,f_,f_,f_,f_,f_,f_,f_,f_,f_,f_,f_,f_,f_,f_,f_,f_,f_,f_,f_,f_,f_,f_,f_,f_,f_,f_,f_] HT_.out ?_
        refine un_ 7 38 #[t_,t_,t_,t_,t_,t_,t_,t_,f_,f_,f_,f_,f_,f_,f_,f_,f_,f_,f_,f_,f_,f_,f_,f_,f_,f_,f_,f_,f_,f_,f_,f_,f_,f_] HT_.out ?_
        refine un_ 8 39 #[t_,t_,t_,t_,t_,t_,t_,t_,t_,f_,f_,f_,f_,f_,f_,f_,f_,f_,f_,f_,f_,f_,f_,f_,f_,f_,f_,f_,f_,f_,f_,f_,f_,f_] HT_.out ?_
        refine un_ 9 40 #[t_,t_,t_,t_,t_,t_,t_,t_,t_,t_,f_,f_,f_,f_,f_,f_,f_,f_,f_,f_,f_,f_,f_,f_,f_,f_,f_,f_,f_,f_,f_,f_,f_,f_] HT_.out ?_
        refine un_ 10 41 #[t_,t_,t_,t_,t_,t_,t_,t_,t_,t_,t_,f_,f_,f_,f_,f_,f_,f_,f_,f_,f_,f_,f_,f_,f_,f_,f_,f_,f_,f_,f_,f_,f_,f_] HT_.out ?_
        refine un_ 11 42 #[t_,t_,t_,t_,t_,t_,t_,t_,t_,t_,t_,t_,f_,f_,f_,f_,f_,f_,f_,f_,f_,f_,f_,f_,f_,f_,f_,f_,f_,f_,f_,f_,f_,f_] HT_.out ?_
        refine un_ 12 43 #[t_,t_,t_,t_,t_,t_,t_,t_,t_,t_,t_,t_,t_,f_,f_,f_,f_,f_,f_,f_,f_,f_,f_,f_,f_,f_,f_,f_,f_,f_,f_,f_,f_,f_] HT_.out ?_
        refine un_ 13 44 #[t_,t_,t_,t_,t_,t_,t_,t_,t_,t_,t_,t_,t_,t_,f_,f_,f_,f_,f_,f_,f_,f_,f_,f_,f_,f_,f_,f_,f_,f_,f_,f_,f_,f_] HT_.out ?_
        refine un_ 14 45 #[t_,t_,t_,t_,t_,t_,t_,t_,t_,t_,t_,t_,t_,t_,t_,f_,f_,f_,f_,f_,f_,f_,f_,f_,f_,f_,f_,f_,f_,f_,f_,f_,f_,f_] HT_.out ?_
        refine un_ 15 46 #[t_,t_,t_,t_,t_,t_,t_,t_,t_,t_,t_,t_,t_,t_,t_,t_,f_,f_,f_,f_,f_,f_,f_,f_,f_,f_,f_,f_,f_,f_,f_,f_,f_,f_] HT_.out ?_
        refine un_ 16 47 #[t_,t_,t_,t_,t_,t_,t_,t_,t_,t_,t_,t_,t_,t_,t_,t_,t_,f_,f_,f_,f_,f_,f_,f_,f_,f_,f_,f_,f_,f_,f_,f_,f_,f_] HT_.out ?_
        refine un_ 17 48 #[t_,t_,t_,t_,t_,t_,t_,t_,t_,t_,t_,t_,t_,t_,t_,t_,t_,t_,f_,f_,f_,f_,f_,f_,f_,f_,f_,f_,f_,f_,f_,f_,f_,f_] HT_.out ?_
        refine un_ 18 49 #[t_,t_,t_,t_,t_,t_,t_,t_,t_,t_,t_,t_,t_,t_,t_,t_,t_,t_,t_,f_,f_,f_,f_,f_,f_,f_,f_,f_,f_,f_,f_,f_,f_,f_] HT_.out ?_
        refine un_ 19 50 #[t_,t_,t_,t_,t_,t_,t_,t_,t_,t_,t_,t_,t_,t_,t_,t_,t_,t_,t_,t_,f_,f_,f_,f_,f_,f_,f_,f_,f_,f_,f_,f_,f_,f_] HT_.out ?_
        refine un_ 20 51 #[t_,t_,t_,t_,t_,t_,t_,t_,t_,t_,t_,t_,t_,t_,t_,t_,t_,t_,t_,t_,t_,f_,f_,f_,f_,f_,f_,f_,f_,f_,f_,f_,f_,f_] HT_.out ?_
        refine un_ 21 52 #[t_,t_,t_,t_,t_,t_,t_,t_,t_,t_,t_,t_,t_,t_,t_,t_,t_,t_,t_,t_,t_,t_,f_,f_,f_,f_,f_,f_,f_,f_,f_,f_,f_,f_] HT_.out ?_
        refine un_ 22 53 #[t_,t_,t_,t_,t_,t_,t_,t_,t_,t_,t_,t_,t_,t_,t_,t_,t_,t_,t_,t_,t_,t_,t_,f_,f_,f_,f_,f_,f_,f_,f_,f_,f_,f_] HT_.out ?_
        refine un_ 23 54 #[t_,t_,t_,t_,t_,t_,t_,t_,t_,t_,t_,t_,t_,t_,t_,t_,t_,t_,t_,t_,t_,t_,t_,t_,f_,f_,f_,f_,f_,f_,f_,f_,f_,f_] HT_.out ?_
        refine un_ 24 55 #[t_,t_,t_,t_,t_,t_,t_,t_,t_,t_,t_,t_,t_,t_,t_,t_,t_,t_,t_,t_,t_,t_,t_,t_,t_,f_,f_,f_,f_,f_,f_,f_,f_,f_] HT_.out ?_
        refine un_ 25 56 #[t_,t_,t_,t_,t_,t_,t_,t_,t_,t_,t_,t_,t_,t_,t_,t_,t_,t_,t_,t_,t_,t_,t_,t_,t_,t_,f_,f_,f_,f_,f_,f_,f_,f_] HT_.out ?_
        refine un_ 26 57 #[t_,t_,t_,t_,t_,t_,t_,t_,t_,t_,t_,t_,t_,t_,t_,t_,t_,t_,t_,t_,t_,t_,t_,t_,t_,t_,t_,f_,f_,f_,f_,f_,f_,f_] HT_.out ?_
        refine un_ 27 58 #[t_,t_,t_,t_,t_,t_,t_,t_,t_,t_,t_,t_,t_,t_,t_,t_,t_,t_,t_,t_,t_,t_,t_,t_,t_,t_,t_,t_,f_,f_,f_,f_,f_,f_] HT_.out ?_
        refine un_ 28 59 #[t_,t_,t_,t_,t_,t_,t_,t_,t_,t_,t_,t_,t_,t_,t_,t_,t_,t_,t_,t_,t_,t_,t_,t_,t_,t_,t_,t_,t_,f_,f_,f_,f_,f_] HT_.out ?_
        refine un_ 29 60 #[t_,t_,t_,t_,t_,t_,t_,t_,t_,t_,t_,t_,t_,t_,t_,t_,t_,t_,t_,t_,t_,t_,t_,t_,t_,t_,t_,t_,t_,t_,f_,f_,f_,f_] HT_.out ?_
        refine un_ 30 61 #[t_,t_,t_,t_,t_,t_,t_,t_,t_,t_,t_,t_,t_,t_,t_,t_,t_,t_,t_,t_,t_,t_,t_,t_,t_,t_,t_,t_,t_,t_,t_,f_,f_,f_] HT_.out ?_
        refine un_ 31 62 #[t_,t_,t_,t_,t_,t_,t_,t_,t_,t_,t_,t_,t_,t_,t_,t_,t_,t_,t_,t_,t_,t_,t_,t_,t_,t_,t_,t_,t_,t_,t_,t_,f_,f_] HT_.out ?_
        refine un_ 32 63 #[t_,t_,t_,t_,t_,t_,t_,t_,t_,t_,t_,t_,t_,t_,t_,t_,t_,t_,t_,t_,t_,t_,t_,t_,t_,t_,t_,t_,t_,t_,t_,t_,t_,f_] HT_.out ?_
        refine pu_ 33 64 #[t_,t_,t_,t_,t_,t_,t_,t_,t_,t_,t_,t_,t_,t_,t_,t_,t_,t_,t_,t_,t_,t_,t_,t_,t_,t_,t_,t_,t_,t_,t_,t_,t_,t_] HT_.out ?_
        refine done_ (done_of HT_.out (by kernel_rfl)) ?_
        try go_wp2
        go_roundg kj3
        case measure => have := HK1.out; have := HJ3.out; omega
        case rel => exact ⟨(wrap64 (x3_1 + 1)), (by first | rfl | (simp; done) | (simp [*]; done)), H', ⟨by have := HK1.out; have := HJ3.out; omega⟩, ⟨r0_ HB.out GE192.out⟩⟩
   ·rw [if_neg c2] at H
    have c2b0 : decide (x3_1 < (l0.length : Int)) = false := decide_eq_false c2
    clear c2
    obtain rfl := Option.some.inj H
    go_wp2
    go_ret
    exact ⟨by first | rfl | (simp [errW_none, errW_some] <;> rfl) | (simp [*, errW_none, errW_some] <;> rfl), bl_ HB.out⟩
end Go.Proofs.Ytedcdhnbceaaeaa.PFnExactMergeTables
