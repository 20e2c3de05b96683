/- QFnTablesa of the law FnTables: taken over, declaration by declaration, as far as the law leans on it (the words and the printed functions are the kit's own print). No condition but what each says. -/
import Derived.Test.YtedcdhnbceaaeaaZFnTablesav
import Derived.Test.YtedcdhnbceaaeaaZFnTablesaw
namespace Go.Proofs.Ytedcdhnbceaaeaa.PFnTables
open Go.RowKit Go.Proofs.YtedcdhnbceaaeaaW.PrintWords Go.Proofs.YtedcdhnbceaaeaaW.PrintLast Go.Proofs.YtedcdhnbceaaeaaW.PrintMore
attribute [local go_sem] max2_int min2_int max_two min_two max_three min_three max_four min_four   -- for this text's walks alone
set_option linter.unusedVariables false
set_option linter.unusedSimpArgs false
open Bool renaming true → t_, false → f_
theorem eqA81 (d : Nat) (w : World) (x0 y0 : Int) (x1 y1 : Int) (x2 y2 : Int) :
    (Op.equalIn (d + 2) 81 (.agg #[.int .i64 x0, .int .i64 x1, .int .i64 x2]) (.agg #[.int .i64 y0, .int .i64 y1, .int .i64 y2])).run Try.prog w = .ok (x0 == y0 && (x1 == y1 && (x2 == y2))) w := by
  refine eqA_of Try.underlying81 (by kernel_rfl) ?_
  refine eqf_cons (by rfl) (by go_simp; rfl) (by go_simp; rfl) (by go_simp) ?_
  refine eqf_cons (by rfl) (by go_simp; rfl) (by go_simp; rfl) (by go_simp) ?_
  exact eqf_last (by rfl) (by go_simp; rfl) (by go_simp; rfl) (by go_simp)
def spec_l01In.f (a0 : Int) (a1 : Int) (a2 : Int) : Option (Bool) := if a0 ≥ a1 then (some (decide (a0 ≤ a2))) else (some false)
set_option maxHeartbeats 8000000 in
set_option maxRecDepth 100000 in
theorem spec_l01In.calls (a0 : Int) (a1 : Int) (a2 : Int) (r : Bool) (w : World) (h : spec_l01In.f a0 a1 a2 = some r) :
    Calls Try.prog 148 #[.int .i64 a0, .int .i64 a1, .int .i64 a2] w fun e w' => e = .returned (.bool r) ∧ Drawn0 w w' := by
  have H : (if a0 ≥ a1 then (some (decide (a0 ≤ a2))) else (some false)) = some r := h
  clear h
  by_cases c4 : a0 ≥ a1
  · rw [if_pos c4] at H
    have c4b0 : decide (a1 ≤ a0) = true := decide_eq_true c4
    clear c4
    obtain rfl := Option.some.inj H
    go_enter Try.func148, Try.ntmps148
    go_wp2
    go_ret
    exact ⟨by first | rfl | (simp; done) | (simp [*]; done), by repeat (first | exact Drawn0.refl _ | apply Drawn0.step)⟩
  · rw [if_neg c4] at H
    have c4b0 : decide (a1 ≤ a0) = false := decide_eq_false c4
    clear c4
    obtain rfl := Option.some.inj H
    go_enter Try.func148, Try.ntmps148
    go_wp2
    go_ret
    exact ⟨by first | rfl | (simp; done) | (simp [*]; done), by repeat (first | exact Drawn0.refl _ | apply Drawn0.step)⟩
def spec_l16Before.f (a0_0 : Int) (a0_1 : Int) (a0_2 : Int) (a1_0 : Int) (a1_1 : Int) (a1_2 : Int) : Option (Bool) := if a0_0 < a1_0 then (some true) else (if a0_0 = a1_0 then (some (decide (a0_1 < a1_1))) else (some false))
set_option maxHeartbeats 8000000 in
set_option maxRecDepth 100000 in
theorem spec_l16Before.calls (a0_0 : Int) (a0_1 : Int) (a0_2 : Int) (a1_0 : Int) (a1_1 : Int) (a1_2 : Int) (r : Bool) (w : World) (h : spec_l16Before.f a0_0 a0_1 a0_2 a1_0 a1_1 a1_2 = some r) :
  Calls Try.prog 150 #[.agg #[.int .i64 a0_0, .int .i64 a0_1, .int .i64 a0_2], .agg #[.int .i64 a1_0, .int .i64 a1_1, .int .i64 a1_2]] w fun e w' => e = .returned (.bool r) ∧ Below w.heap.size w w' := by
 have hu81 := Try.underlying81
 have HB := Aside0.mk (Below.refl w.heap.size w)
 have H : (if a0_0 < a1_0 then (some true) else (if a0_0 = a1_0 then (some (decide (a0_1 < a1_1))) else (some false))) = some r := h
 clear h
 by_cases c3 : a0_0 < a1_0
 case pos =>
  rw [if_pos c3] at H
  have c3b0 := decide_eq_true c3
  clear c3
  obtain rfl := Option.some.inj H
  go_enter Try.func150, Try.ntmps150
  go_wp2_with (first | ((with_reducible refine gate_dst (N := 2) rfl ?_); refine box_event ?hg (N := 2) ?hd (cs := #[.int .i64 a0_0, .int .i64 a0_1, .int .i64 a0_2]) (t := 81) ?hr ?_; (case hd => rfl); (case hg => rfl); (case hr => first | (go_simp; done) | (go_simp; rfl)); intro gb101 hg w4 hbox hb; have BK101 := Aside0.mk (hbox); have GW101 := Aside0.mk ((by rw [hg]; exact (below_size (bl_ HB.out)) : w.heap.size ≤ gb101)); have GE101 := Aside0.mk ((by rw [hg]; exact (below_size (bl_ HB.out)) : w.heap.size ≤ gb101)); replace HB := Aside0.mk (below_step (bl_ HB.out) hb); clear hb hbox hg) | ((with_reducible refine gate_dst (N := 3) rfl ?_); refine box_event ?hg (N := 3) ?hd (cs := #[.int .i64 a1_0, .int .i64 a1_1, .int .i64 a1_2]) (t := 81) ?hr ?_; (case hd => rfl); (case hg => rfl); (case hr => first | (go_simp; done) | (go_simp; rfl)); intro gb102 hg w5 hbox hb; have BK102 := Aside0.mk (hbox); have GW102 := Aside0.mk ((by rw [hg]; exact (below_size (r3_ HB.out GE101.out)) : w.heap.size ≤ gb102)); have GE102 := Aside0.mk ((by rw [hg]; exact (below_size (r3_ HB.out GE101.out)) : w.heap.size ≤ gb102)); replace HB := Aside0.mk (below_step (r3_ HB.out GE101.out) hb); have NB101_102 := Aside0.mk ((by rw [hg]; exact Nat.ne_of_lt (blk_lt (g := gb101) (o := .cells #[.int .i64 a0_0, .int .i64 a0_1, .int .i64 a0_2] 81 (0, 0)) (r5_ BK101.out)) : gb101 ≠ gb102)); have NB102_101 := Aside0.mk ((by rw [hg]; exact Nat.ne_of_gt (blk_lt (g := gb101) (o := .cells #[.int .i64 a0_0, .int .i64 a0_1, .int .i64 a0_2] 81 (0, 0)) (r5_ BK101.out)) : gb102 ≠ gb101)); replace BK101 := Aside0.mk (blk_below (g := gb101) (o := .cells #[.int .i64 a0_0, .int .i64 a0_1, .int .i64 a0_2] 81 (0, 0)) (r5_ BK101.out) hb); clear hb hbox hg; have hnb6 := NB101_102.out; have hnc6 := NB102_101.out; obtain ⟨hcz7_0, hcz7_1, hcz7_2, hfz7_0, hfz7_1, hfz7_2⟩ := bk3_ BK101.out; obtain ⟨hcz8_0, hcz8_1, hcz8_2, hfz8_0, hfz8_1, hfz8_2⟩ := bk3_ BK102.out))
  go_ret
  exact ⟨(re_), r16_ HB.out GE101.out GE102.out⟩
 rw [if_neg c3] at H
 have c3b0 := decide_eq_false c3
 clear c3
 by_cases c9 : a0_0 = a1_0
 case pos =>
  rw [if_pos c9] at H
  have c9b0 := beq_iff_eq.mpr c9
  have c9b1 := bne_eq_false_iff_eq.mpr c9
  clear c9
  obtain rfl := Option.some.inj H
  go_enter Try.func150, Try.ntmps150
  go_wp2_with (first | ((with_reducible refine gate_dst (N := 2) rfl ?_); refine box_event ?hg (N := 2) ?hd (cs := #[.int .i64 a0_0, .int .i64 a0_1, .int .i64 a0_2]) (t := 81) ?hr ?_; (case hd => rfl); (case hg => rfl); (case hr => first | (go_simp; done) | (go_simp; rfl)); intro gb101 hg w10 hbox hb; have BK101 := Aside0.mk (hbox); have GW101 := Aside0.mk ((by rw [hg]; exact (below_size (bl_ HB.out)) : w.heap.size ≤ gb101)); have GE101 := Aside0.mk ((by rw [hg]; exact (below_size (bl_ HB.out)) : w.heap.size ≤ gb101)); replace HB := Aside0.mk (below_step (bl_ HB.out) hb); clear hb hbox hg) | ((with_reducible refine gate_dst (N := 3) rfl ?_); refine box_event ?hg (N := 3) ?hd (cs := #[.int .i64 a1_0, .int .i64 a1_1, .int .i64 a1_2]) (t := 81) ?hr ?_; (case hd => rfl); (case hg => rfl); (case hr => first | (go_simp; done) | (go_simp; rfl)); intro gb102 hg w11 hbox hb; have BK102 := Aside0.mk (hbox); have GW102 := Aside0.mk ((by rw [hg]; exact (below_size (r3_ HB.out GE101.out)) : w.heap.size ≤ gb102)); have GE102 := Aside0.mk ((by rw [hg]; exact (below_size (r3_ HB.out GE101.out)) : w.heap.size ≤ gb102)); replace HB := Aside0.mk (below_step (r3_ HB.out GE101.out) hb); have NB101_102 := Aside0.mk ((by rw [hg]; exact Nat.ne_of_lt (blk_lt (g := gb101) (o := .cells #[.int .i64 a0_0, .int .i64 a0_1, .int .i64 a0_2] 81 (0, 0)) (r5_ BK101.out)) : gb101 ≠ gb102)); have NB102_101 := Aside0.mk ((by rw [hg]; exact Nat.ne_of_gt (blk_lt (g := gb101) (o := .cells #[.int .i64 a0_0, .int .i64 a0_1, .int .i64 a0_2] 81 (0, 0)) (r5_ BK101.out)) : gb102 ≠ gb101)); replace BK101 := Aside0.mk (blk_below (g := gb101) (o := .cells #[.int .i64 a0_0, .int .i64 a0_1, .int .i64 a0_2] 81 (0, 0)) (r5_ BK101.out) hb); clear hb hbox hg; have hnb12 := NB101_102.out; have hnc12 := NB102_101.out; obtain ⟨hcz13_0, hcz13_1, hcz13_2, hfz13_0, hfz13_1, hfz13_2⟩ := bk3_ BK101.out; obtain ⟨hcz14_0, hcz14_1, hcz14_2, hfz14_0, hfz14_1, hfz14_2⟩ := bk3_ BK102.out))
  go_ret
  exact ⟨(re_), r16_ HB.out GE101.out GE102.out⟩
 rw [if_neg c9] at H
 have c9b0 := beq_eq_false_iff_ne.mpr c9
 have c9b1 := bne_iff_ne.mpr c9
 obtain rfl := Option.some.inj H
 go_enter Try.func150, Try.ntmps150
 go_wp2_with (first | ((with_reducible refine gate_dst (N := 2) rfl ?_); refine box_event ?hg (N := 2) ?hd (cs := #[.int .i64 a0_0, .int .i64 a0_1, .int .i64 a0_2]) (t := 81) ?hr ?_; (case hd => rfl); (case hg => rfl); (case hr => first | (go_simp; done) | (go_simp; rfl)); intro gb101 hg w15 hbox hb; have BK101 := Aside0.mk (hbox); have GW101 := Aside0.mk ((by rw [hg]; exact (below_size (bl_ HB.out)) : w.heap.size ≤ gb101)); have GE101 := Aside0.mk ((by rw [hg]; exact (below_size (bl_ HB.out)) : w.heap.size ≤ gb101)); replace HB := Aside0.mk (below_step (bl_ HB.out) hb); clear hb hbox hg) | ((with_reducible refine gate_dst (N := 3) rfl ?_); refine box_event ?hg (N := 3) ?hd (cs := #[.int .i64 a1_0, .int .i64 a1_1, .int .i64 a1_2]) (t := 81) ?hr ?_; (case hd => rfl); (case hg => rfl); (case hr => first | (go_simp; done) | (go_simp; rfl)); intro gb102 hg w16 hbox hb; have BK102 := Aside0.mk (hbox); have GW102 := Aside0.mk ((by rw [hg]; exact (below_size (r3_ HB.out GE101.out)) : w.heap.size ≤ gb102)); have GE102 := Aside0.mk ((by rw [hg]; exact (below_size (r3_ HB.out GE101.out)) : w.heap.size ≤ gb102)); replace HB := Aside0.mk (below_step (r3_ HB.out GE101.out) hb); have NB101_102 := Aside0.mk ((by rw [hg]; exact Nat.ne_of_lt (blk_lt (g := gb101) (o := .cells #[.int .i64 a0_0, .int .i64 a0_1, .int .i64 a0_2] 81 (0, 0)) (r5_ BK101.out)) : gb101 ≠ gb102)); have NB102_101 := Aside0.mk ((by rw [hg]; exact Nat.ne_of_gt (blk_lt (g := gb101) (o := .cells #[.int .i64 a0_0, .int .i64 a0_1, .int .i64 a0_2] 81 (0, 0)) (r5_ BK101.out)) : gb102 ≠ gb101)); replace BK101 := Aside0.mk (blk_below (g := gb101) (o := .cells #[.int .i64 a0_0, .int .i64 a0_1, .int .i64 a0_2] 81 (0, 0)) (r5_ BK101.out) hb); clear hb hbox hg; have hnb17 := NB101_102.out; have hnc17 := NB102_101.out; obtain ⟨hcz18_0, hcz18_1, hcz18_2, hfz18_0, hfz18_1, hfz18_2⟩ := bk3_ BK101.out; obtain ⟨hcz19_0, hcz19_1, hcz19_2, hfz19_0, hfz19_1, hfz19_2⟩ := bk3_ BK102.out))
 go_ret
 exact ⟨(re_), r16_ HB.out GE101.out GE102.out⟩
mutual
def spec_IsTable.l0 : Nat → List (S81) → Int → Option (Bool)
 | 0, _, _ => none
 | k + 1, x0, x3 => if x3 < (x0.length : Int) then (if 0 ≤ x3 then ((spec_l01In.f ((rd_T81 x0 x3).f0) 0 3).bind fun t105 => (if t105 = true then ((spec_l01In.f ((rd_T81 x0 x3).f1) 20 300).bind fun t106 => (if t106 = true then ((spec_l01In.f ((rd_T81 x0 x3).f2) 0 10000).bind fun t107 => (spec_IsTable.j1 k x0 x3 (!t107) ((rd_T81 x0 x3).f0) ((rd_T81 x0 x3).f1) ((rd_T81 x0 x3).f2))) else (spec_IsTable.j1 k x0 x3 true ((rd_T81 x0 x3).f0) ((rd_T81 x0 x3).f1) ((rd_T81 x0 x3).f2)))) else (spec_IsTable.j1 k x0 x3 true ((rd_T81 x0 x3).f0) ((rd_T81 x0 x3).f1) ((rd_T81 x0 x3).f2)))) else (none)) else (some (decide ((x0.length : Int) ≤ 12)))
def spec_IsTable.j1 : Nat → List (S81) → Int → Bool → Int → Int → Int → Option (Bool)
 | 0, _, _, _, _, _, _ => none
 | k + 1, x0, x3, x30, x105000, x105001, x105002 => if x30 = true then (some false) else (if x3 > 0 then (if 0 ≤ (wrap64 (x3 - 1)) then (if (wrap64 (x3 - 1)) < (x0.length : Int) then ((spec_l16Before.f ((rd_T81 x0 (wrap64 (x3 - 1))).f0) ((rd_T81 x0 (wrap64 (x3 - 1))).f1) ((rd_T81 x0 (wrap64 (x3 - 1))).f2) x105000 x105001 x105002).bind fun t109 => (if t109 = true then (if ((rd_T81 x0 (wrap64 (x3 - 1))).f0) = x105000 then (if ((rd_T81 x0 (wrap64 (x3 - 1))).f2) > x105002 then (some false) else (spec_IsTable.l0 k x0 (wrap64 (x3 + 1)))) else (spec_IsTable.l0 k x0 (wrap64 (x3 + 1)))) else (some false))) else (none)) else (none)) else (spec_IsTable.l0 k x0 (wrap64 (x3 + 1))))
end
def spec_IsTable.f (k : Nat) (l0 : List (S81)) : Option (Bool) := spec_IsTable.l0 k l0 0
def spec_IsTable.T7 : Bool × List (List Nat × List Nat) := (true, [([], []), ([0], [0]), ([1], [1]), ([2], [2]), ([2], [2]), ([4, 2], [2, 4]), ([3, 5, 2], [2, 3, 5]), ([6, 2], [2, 6]), ([2], [2]), ([7, 8, 2, 2], [2, 7, 8]), ([9, 2], [2, 9]), ([10, 9, 2], [2, 10]), ([11], [11]), ([11], [11]), ([13, 11], [11, 13]), ([12, 14, 11], [11, 12, 14]), ([15, 11], [11, 15]), ([16, 11], [11, 16]), ([11], [11]), ([18, 11], [11, 18]), ([17, 19, 11], [11, 17, 19]), ([20, 11, 11], [11, 20]), ([21], [21]), ([21], [21]), ([23, 21], [21, 23]), ([22, 24, 21], [21, 22, 24]), ([25, 21], [21, 25]), ([26, 21], [21, 26]), ([21], [21]), ([28, 21], [21, 28]), ([27, 29, 21], [21, 27, 29]), ([21, 30, 11], [11, 21, 30]), ([11, 31, 2], [2, 11, 31]), ([2, 32], [2, 32])])
def spec_IsTable.B7 : List Nat := [0, 1, 3, 7, 7, 23, 63, 127, 7, 511, 1023, 2047, 4095, 4095, 12287, 32767, 65535, 131071, 4095, 266239, 1048575, 2097151, 4194303, 4194303, 12582911, 33554431, 67108863, 134217727, 4194303, 272629759, 1073741823, 2147483647, 4294967295, 8589934591]
theorem spec_IsTable.tab7 : rtab .any (opsOf Try.f147 7) = spec_IsTable.T7 := by kernel_rfl
theorem spec_IsTable.bits7 : waitsOk spec_IsTable.T7.2 spec_IsTable.B7 = true := by kernel_rfl
set_option maxHeartbeats 8000000 in
set_option maxRecDepth 100000 in
theorem spec_IsTable.calls (k : Nat) (A0 : Option Addr) (c0 : Nat) (l0 : List (S81)) (r : Bool) (w : World) (hr0 : Kd.C k81 w A0 l0.length l0) (hc0 : l0.length ≤ c0) (h : spec_IsTable.f k l0 = some r) :
  Calls Try.prog 147 #[.slice A0 l0.length c0] w fun e w' => e = .returned (.bool r) ∧ Below w.heap.size w w' := by
 have hu81 := Try.underlying81
 have HR0 := Aside0.mk hr0
 have HC0 := Aside0.mk hc0
 clear hr0 hc0
 have HB := Aside0.mk (Below.refl w.heap.size w)
 have H : (spec_IsTable.l0 k l0 0) = some r := h
 clear h
 have H' := Aside0.mk H
 clear H
 go_enter Try.func147, Try.ntmps147
 go_wp2
 go_loopg [3] k (fun kq v3 w' => ∃ (x3_1 : Int), v3 = .int .i64 x3_1 ∧ Aside0 (spec_IsTable.l0 kq l0 x3_1 = some r) ∧ Aside0 (kq ≤ k) ∧ Aside0 (Below w.heap.size w w'))
 case atStart => exact ⟨(0), rs_, H', ⟨Nat.le_refl _⟩, ⟨bl_ HB.out⟩⟩
 case round =>
  clear H'
  try clear c1
  obtain ⟨x3_1, rfl, HA, HK1, HB⟩ := hrel
  cases gk with
  | zero => exact absurd HA.out (by simp [spec_IsTable.l0])
  | succ k1 =>
   have H := HA.out
   clear HA
   simp only [spec_IsTable.l0] at H
   by_cases c2 : x3_1 < (l0.length : Int)
   case neg =>
    rw [if_neg c2] at H
    have c2b0 := decide_eq_false c2
    clear c2
    obtain rfl := Option.some.inj H
    go_wp2
    go_ret
    exact ⟨(re_), bl_ HB.out⟩


   rw [if_pos c2] at H
   have c2b0 := decide_eq_true c2
   clear c2
   by_cases c3 : 0 ≤ x3_1
   case neg =>
    rw [if_neg c3] at H
    exact absurd H (by simp)
   rw [if_pos c3] at H
   have c3b0 := decide_eq_true c3
   clear c3
   have HC4 := Aside0.mk H
   clear H
   have p103 : 0 ≤ (x3_1 : Int) := od_
   have q103 : x3_1 < (l0.length : Int) := od_
   obtain ⟨ad103, e103, hx103_0, hx103_1, hx103_2⟩ := at_T81 HR0.out x3_1 p103 q103
   cases e103
   replace hx103_0 := bc_ HB.out hx103_0
   replace hx103_1 := bc_ HB.out hx103_1
   replace hx103_2 := bc_ HB.out hx103_2
   replace p103 := eq_true p103
   replace q103 := eq_true q103
   go_upto_region 5 with (first | ((with_reducible refine gate_dst (N := 4) rfl ?_); refine box_event ?hg (N := 4) ?hd (cs := #[.int .i64 0, .int .i64 0, .int .i64 0]) (t := 81) ?hr ?_; (case hd => rfl); (case hg => rfl); (case hr => first | (go_simp; done) | (go_simp; rfl)); intro gb104 hg w5 hbox hb; have BK104 := Aside0.mk (hbox); have GW104 := Aside0.mk ((by rw [hg]; exact (below_size (bl_ HB.out)) : w.heap.size ≤ gb104)); have GE104 := Aside0.mk ((by rw [hg]; exact (below_size (bl_ HB.out)) : w.heap.size ≤ gb104)); replace HB := Aside0.mk (below_step (bl_ HB.out) hb); clear hb hbox hg; obtain ⟨hcz6_0, hcz6_1, hcz6_2, hfz6_0, hfz6_1, hfz6_2⟩ := bk3_ BK104.out))
   (try simp only [Act.put, List.setIfInBounds_toArray, List.set_cons_zero, List.set_cons_succ])
   go_cut [30] (fun v30 wc => ∃ (kq : Nat) (x30_3 : Bool), v30 = .bool x30_3 ∧ Aside0 (spec_IsTable.j1 kq l0 x3_1 x30_3 ((rd_T81 l0 x3_1).f0) ((rd_T81 l0 x3_1).f1) ((rd_T81 l0 x3_1).f2) = some r) ∧ Aside0 (kq ≤ k1) ∧ Aside0 (wc.heap[gb104]? = some (.cells #[.int .i64 ((rd_T81 l0 x3_1).f0), .int .i64 ((rd_T81 l0 x3_1).f1), .int .i64 ((rd_T81 l0 x3_1).f2)] 81 (0, 0))) ∧ Aside0 (Below w.heap.size w wc))
   case first =>
    have H := HC4.out
    clear HC4
    replace H := Option.bind_eq_some_iff.mp H
    obtain ⟨t105, A70, H⟩ := H
    try dsimp only at H
    have A7 := Aside0.mk A70
    clear A70
    by_cases c8 : t105 = true
    case neg =>
     replace c8 := Bool.eq_false_iff.mpr c8
     subst c8
     rw [if_neg (show ¬ (false = true) by decide)] at H
     have H' := Aside0.mk H
     clear H
     obtain ⟨hcz14_0, hcz14_1, hcz14_2, hfz14_0, hfz14_1, hfz14_2⟩ := bk3_ BK104.out
     go_wp2_with (first | ((with_reducible refine gate_callee (f := 148) rfl ?_); refine goesL_ (some 17) rfl rfl Try.func148 (by kernel_rfl) rfl #[.int .i64 ((rd_T81 l0 x3_1).f0), .int .i64 0, .int .i64 3] rfl ag_ ?_; (with_reducible refine (spec_l01In.calls ((rd_T81 l0 x3_1).f0) 0 3 false _ A7.out).mono ?_); rintro e w' ⟨rfl, ⟨nd, rfl⟩⟩; refine ⟨_, rfl, ?_⟩))
     go_meet
     case rel => exact ⟨_, (true), rs_, H', ⟨by have := HK1.out; first | omega | exact Nat.le_refl _⟩, ⟨by (with_reducible repeat (first | refine blk_drewN ?_ _ | refine blk_drew ?_ | refine blk_alloc ?_ _)); exact bp3_ BK104.out⟩, ⟨r3_ HB.out GE104.out⟩⟩
    subst c8
    rw [if_pos rfl] at H
    replace H := Option.bind_eq_some_iff.mp H
    obtain ⟨t106, A90, H⟩ := H
    try dsimp only at H
    have A9 := Aside0.mk A90
    clear A90
    by_cases c10 : t106 = true
    case neg =>
     replace c10 := Bool.eq_false_iff.mpr c10
     subst c10
     rw [if_neg (show ¬ (false = true) by decide)] at H
     have H' := Aside0.mk H
     clear H
     obtain ⟨hcz13_0, hcz13_1, hcz13_2, hfz13_0, hfz13_1, hfz13_2⟩ := bk3_ BK104.out
     go_wp2_with (first | ((with_reducible refine gate_callee (f := 148) rfl ?_); refine goesL_ (some 17) rfl rfl Try.func148 (by kernel_rfl) rfl #[.int .i64 ((rd_T81 l0 x3_1).f0), .int .i64 0, .int .i64 3] rfl ag_ ?_; (with_reducible refine (spec_l01In.calls ((rd_T81 l0 x3_1).f0) 0 3 true _ A7.out).mono ?_); rintro e w' ⟨rfl, ⟨nd, rfl⟩⟩; refine ⟨_, rfl, ?_⟩) | (go_at_call 148; (with_reducible refine (spec_l01In.calls ((rd_T81 l0 x3_1).f1) 20 300 false _ A9.out).mono ?_); rintro e w' ⟨rfl, ⟨nd, rfl⟩⟩))
     go_meet
     case rel => exact ⟨_, (true), rs_, H', ⟨by have := HK1.out; first | omega | exact Nat.le_refl _⟩, ⟨by (with_reducible repeat (first | refine blk_drewN ?_ _ | refine blk_drew ?_ | refine blk_alloc ?_ _)); exact bp3_ BK104.out⟩, ⟨r3_ HB.out GE104.out⟩⟩
    subst c10
    rw [if_pos rfl] at H
    replace H := Option.bind_eq_some_iff.mp H
    obtain ⟨t107, A110, H⟩ := H
    try dsimp only at H
    have A11 := Aside0.mk A110
    clear A110
    have H' := Aside0.mk H
    clear H
    obtain ⟨hcz12_0, hcz12_1, hcz12_2, hfz12_0, hfz12_1, hfz12_2⟩ := bk3_ BK104.out
    go_wp2_with (first | ((with_reducible refine gate_callee (f := 148) rfl ?_); refine goesL_ (some 17) rfl rfl Try.func148 (by kernel_rfl) rfl #[.int .i64 ((rd_T81 l0 x3_1).f0), .int .i64 0, .int .i64 3] rfl ag_ ?_; (with_reducible refine (spec_l01In.calls ((rd_T81 l0 x3_1).f0) 0 3 true _ A7.out).mono ?_); rintro e w' ⟨rfl, ⟨nd, rfl⟩⟩; refine ⟨_, rfl, ?_⟩) | (go_at_call 148; (with_reducible refine (spec_l01In.calls ((rd_T81 l0 x3_1).f1) 20 300 true _ A9.out).mono ?_); rintro e w' ⟨rfl, ⟨nd, rfl⟩⟩) | (go_at_call 148; (with_reducible refine (spec_l01In.calls ((rd_T81 l0 x3_1).f2) 0 10000 t107 _ A11.out).mono ?_); rintro e w' ⟨rfl, ⟨nd, rfl⟩⟩))
    go_meet
    case rel => exact ⟨_, (!t107), rs_, H', ⟨by have := HK1.out; first | omega | exact Nat.le_refl _⟩, ⟨by (with_reducible repeat (first | refine blk_drewN ?_ _ | refine blk_drew ?_ | refine blk_alloc ?_ _)); exact bp3_ BK104.out⟩, ⟨r3_ HB.out GE104.out⟩⟩
   case rest =>
    clear HC4
    try clear c1
    try clear p1
    try clear q1
    try clear hx1
    try clear c2
    try clear c2b0
    try clear p2
    try clear c3
    try clear c3b0
    try clear c8
    try clear c10
    try clear p10
    try clear q10
    try clear hx10
    try clear c14
    try clear hcz12_0
    try clear hcz12_1
    try clear hcz12_2
    try clear hcz13_0
    try clear hcz13_1
    try clear hcz13_2
    try clear hcz14_0
    try clear hcz14_1
    try clear hcz14_2
    try clear hcz6_0
    try clear hcz6_1
    try clear hcz6_2
    try clear hfz12_0
    try clear hfz12_1
    try clear hfz12_2
    try clear hfz13_0
    try clear hfz13_1
    try clear hfz13_2
    try clear hfz14_0
    try clear hfz14_1
    try clear hfz14_2
    try clear hfz6_0
    try clear hfz6_1
    try clear hfz6_2
    try clear hx103_0
    try clear hx103_1
    try clear hx103_2
    try clear p103
    try clear q103
    obtain ⟨kq, x30_3, rfl, HA, HJ3, BK104, HB⟩ := hcut
    cases kq with
    | zero => exact absurd HA.out (by simp [spec_IsTable.j1])
    | succ kj3 =>
     have H := HA.out
     clear HA
     simp only [spec_IsTable.j1] at H
     by_cases c15 : x30_3 = true
     case pos =>
      subst c15
      rw [if_pos rfl] at H
      obtain rfl := Option.some.inj H
      go_wp2
      go_ret
      exact ⟨(re_), r3_ HB.out GE104.out⟩
     replace c15 := Bool.eq_false_iff.mpr c15
     subst c15
     rw [if_neg (show ¬ (false = true) by decide)] at H
     by_cases c16 : x3_1 > 0
     case neg =>
      rw [if_neg c16] at H
      have c16b0 : decide (0 < x3_1) = false := decide_eq_false c16
      clear c16
      have H' := Aside0.mk H
      clear H
      try go_wp2
      replace BK104 := Aside0.mk (blk_drew BK104.out)
      replace HB := Aside0.mk (below_drew1 HB.out)
      refine start_ (n := 34) (S := fun w' => True) (ds := []) #[f_,f_,f_,f_,f_,f_,f_,f_,f_,f_,f_,f_,f_,f_,f_,f_,f_,f_,f_,f_,f_,f_,f_,f_,f_,f_,f_,f_,f_,f_,f_,f_,f_,f_] (by kernel_rfl) rfl rfl trivial (fun hHeld => ?_); refine with_tabW spec_IsTable.tab7 spec_IsTable.bits7 (fun HT_ HW_ => ?_)
      generalize wc.drew = w32 at BK104 HB hHeld ⊢
      refine pv_ 0 31 HT_.out ?_
      refine pv_ 1 32 HT_.out ?_
      refine pv_ 2 33 HT_.out ?_
      refine uv_ 3 34 HT_.out ?_
      refine uv_ 4 35 HT_.out ?_
      refine uv_ 5 36 HT_.out ?_
      refine uv_ 6 37 HT_.out ?_
      refine uv_ 7 38 HT_.out ?_
      refine uv_ 8 39 HT_.out ?_
      refine uv_ 9 40 HT_.out ?_
      refine uv_ 10 41 HT_.out ?_
      refine uv_ 11 42 HT_.out ?_
      refine uv_ 12 43 HT_.out ?_
      refine uv_ 13 44 HT_.out ?_
      refine uv_ 14 45 HT_.out ?_
      refine uv_ 15 46 HT_.out ?_
      refine uv_ 16 47 HT_.out ?_
      refine uv_ 17 48 HT_.out ?_
      refine uv_ 18 49 HT_.out ?_
      refine uv_ 19 50 HT_.out ?_
      refine uv_ 20 51 HT_.out ?_
      refine uv_ 21 52 HT_.out ?_
      refine uv_ 22 53 HT_.out ?_
      refine uv_ 23 54 HT_.out ?_
      refine uv_ 24 55 HT_.out ?_
      refine uv_ 25 56 HT_.out ?_
      refine uv_ 26 57 HT_.out ?_
      refine uv_ 27 58 HT_.out ?_
      refine uv_ 28 59 HT_.out ?_
      refine uv_ 29 60 HT_.out ?_
      refine uv_ 30 61 HT_.out ?_
      refine uv_ 31 62 HT_.out ?_
      refine uv_ 32 63 HT_.out ?_
      refine pu_ 33 64 #[t_,t_,t_,t_,t_,t_,t_,t_,t_,t_,t_,t_,t_,t_,t_,t_,t_,t_,t_,t_,t_,t_,t_,t_,t_,t_,t_,t_,t_,t_,t_,t_,t_,t_] HT_.out ?_
      refine done_ (done_of HT_.out (by kernel_rfl)) ?_
      try go_wp2
      go_roundg kj3
      case measure => have := HK1.out; have := HJ3.out; omega
      case rel => exact ⟨(wrap64 (x3_1 + 1)), rs_, H', ⟨by have := HK1.out; have := HJ3.out; omega⟩, ⟨r3_ HB.out GE104.out⟩⟩
     rw [if_pos c16] at H
     have c16b0 : decide (0 < x3_1) = true := decide_eq_true c16
     clear c16
     obtain ⟨ji17, hji17⟩ : ∃ j_ : Int, (wrap64 (x3_1 - 1)) = j_ := ⟨_, rfl⟩
     replace H : (if 0 ≤ (ji17) then (if (ji17) < (l0.length : Int) then ((spec_l16Before.f ((rd_T81 l0 (ji17)).f0) ((rd_T81 l0 (ji17)).f1) ((rd_T81 l0 (ji17)).f2) ((rd_T81 l0 x3_1).f0) ((rd_T81 l0 x3_1).f1) ((rd_T81 l0 x3_1).f2)).bind fun t109 => (if t109 = true then (if ((rd_T81 l0 (ji17)).f0) = ((rd_T81 l0 x3_1).f0) then (if ((rd_T81 l0 (ji17)).f2) > ((rd_T81 l0 x3_1).f2) then (some false) else (spec_IsTable.l0 kj3 l0 (wrap64 (x3_1 + 1)))) else (spec_IsTable.l0 kj3 l0 (wrap64 (x3_1 + 1)))) else (some false))) else (none)) else (none)) = some r := by first | (rw [hji17] at H; exact H) | (simp only [hji17] at H ⊢; exact H)
     have hji17w : (IntKind.i64.wrap (x3_1 - 1)) = ji17 := (i64_w _).trans hji17
     by_cases c18 : 0 ≤ (ji17)
     case neg =>
      rw [if_neg c18] at H
      exact absurd H (by simp)
     rw [if_pos c18] at H
     have c18b0 := decide_eq_true c18
     clear c18
     by_cases c19 : (ji17) < (l0.length : Int)
     case neg =>
      rw [if_neg c19] at H
      exact absurd H (by simp)
     rw [if_pos c19] at H
     have c19b0 := decide_eq_true c19
     clear c19
     replace H := Option.bind_eq_some_iff.mp H
     obtain ⟨t109, A200, H⟩ := H
     try dsimp only at H
     have A20 := Aside0.mk A200
     clear A200
     by_cases c21 : t109 = true
     case neg =>
      replace c21 := Bool.eq_false_iff.mpr c21
      subst c21
      rw [if_neg (show ¬ (false = true) by decide)] at H
      obtain rfl := Option.some.inj H
      try go_wp2
      replace BK104 := Aside0.mk (blk_drew BK104.out)
      replace HB := Aside0.mk (below_drew1 HB.out)
      have p108 : 0 ≤ ((ji17) : Int) := od_
      have q108 : (ji17) < (l0.length : Int) := od_
      obtain ⟨ad108, e108, hx108_0, hx108_1, hx108_2⟩ := at_T81 HR0.out (ji17) p108 q108
      have hw108_2 := hx108_2
      have hw108_1 := hx108_1
      have hw108_0 := hx108_0
      obtain rfl : ad103 = ad108 := (by injection e108)
      replace hx108_0 := bc_ HB.out hx108_0
      replace hx108_1 := bc_ HB.out hx108_1
      replace hx108_2 := bc_ HB.out hx108_2
      replace p108 := eq_true p108
      replace q108 := eq_true q108
      refine start_ (n := 34) (S := fun w' => w'.cell? ⟨gb104, 0, none⟩ = some (.int .i64 ((rd_T81 l0 x3_1).f0)) ∧ w'.cell? ⟨gb104, 1, none⟩ = some (.int .i64 ((rd_T81 l0 x3_1).f1)) ∧ w'.cell? ⟨gb104, 2, none⟩ = some (.int .i64 ((rd_T81 l0 x3_1).f2)) ∧ w'.cell? (ad103.add (((ji17)).toNat * 3)) = some (.int .i64 ((rd_T81 l0 (ji17)).f0)) ∧ w'.cell? ⟨(ad103.add (((ji17)).toNat * 3)).block, (ad103.add (((ji17)).toNat * 3)).off + 1, none⟩ = some (.int .i64 ((rd_T81 l0 (ji17)).f1)) ∧ w'.cell? ⟨(ad103.add (((ji17)).toNat * 3)).block, (ad103.add (((ji17)).toNat * 3)).off + 2, none⟩ = some (.int .i64 ((rd_T81 l0 (ji17)).f2))) (ds := []) #[f_,f_,f_,f_,f_,f_,f_,f_,f_,f_,f_,f_,f_,f_,f_,f_,f_,f_,f_,f_,f_,f_,f_,f_,f_,f_,f_,f_,f_,f_,f_,f_,f_,f_] (by kernel_rfl) rfl rfl ⟨(blk_cell BK104.out 0).trans rfl, (blk_cell BK104.out 1).trans rfl, (blk_cell BK104.out 2).trans rfl, (bc_ HB.out hw108_0 :), (bc_ HB.out hw108_1 :), (bc_ HB.out hw108_2 :)⟩ (fun hHeld => ?_); refine with_tabW spec_IsTable.tab7 spec_IsTable.bits7 (fun HT_ HW_ => ?_)
      generalize wc.drew = w30 at BK104 HB hx108_0 hx108_1 hx108_2 hHeld ⊢
      refine pv_ 0 31 HT_.out ?_
      refine pv_ 1 32 HT_.out ?_
      refine pv_ 2 33 HT_.out ?_
      refine pv_ 3 34 HT_.out ?_
      refine pv_ 4 35 HT_.out ?_
      refine pv_ 5 36 HT_.out ?_
      refine pv_ 6 37 HT_.out ?_
      refine tv6_ 7 38 HT_.out HW_.out hHeld ?_
      refine tk6_ 8 39 #[t_,t_,t_,t_,t_,t_,t_,t_,t_,f_,f_,f_,f_,f_,f_,f_,f_,f_,f_,f_,f_,f_,f_,f_,f_,f_,f_,f_,f_,f_,f_,f_,f_,f_] HT_.out HW_.out hHeld ?_
      refine one_ (i := 9) (N := some 40) #[t_,t_,t_,t_,t_,t_,t_,t_,t_,t_,f_,f_,f_,f_,f_,f_,f_,f_,f_,f_,f_,f_,f_,f_,f_,f_,f_,f_,f_,f_,f_,f_,f_,f_] rfl rfl (one_of HT_.out (by kernel_rfl)) (by decide) (fun K hK => ?_)
      refine goes_ Try.func150 (by kernel_rfl) rfl #[.agg #[.int .i64 ((rd_T81 l0 (ji17)).f0), .int .i64 ((rd_T81 l0 (ji17)).f1), .int .i64 ((rd_T81 l0 (ji17)).f2)], .agg #[.int .i64 ((rd_T81 l0 x3_1).f0), .int .i64 ((rd_T81 l0 x3_1).f1), .int .i64 ((rd_T81 l0 x3_1).f2)]] (by rfl) rfl rfl (by (try simp only [List.map_toArray, List.map_cons, List.map_nil]); first | done | (simp only [hji17]; rfl) | rfl | (simp only [List.length_drop, List.length_take]; rfl)) ?_
      with_reducible refine (spec_l16Before.calls ((rd_T81 l0 (ji17)).f0) ((rd_T81 l0 (ji17)).f1) ((rd_T81 l0 (ji17)).f2) ((rd_T81 l0 x3_1).f0) ((rd_T81 l0 x3_1).f1) ((rd_T81 l0 x3_1).f2) false _ A20.out).mono ?_
      rintro e w31 ⟨rfl, hb⟩
      refine ⟨_, rfl, ?_⟩
      replace BK104 := Aside0.mk (blk_below (g := gb104) (o := .cells #[.int .i64 ((rd_T81 l0 x3_1).f0), .int .i64 ((rd_T81 l0 x3_1).f1), .int .i64 ((rd_T81 l0 x3_1).f2)] 81 (0, 0)) (r5_ BK104.out) hb)
      replace HB := Aside0.mk (below_step (r3_ HB.out GE104.out) hb)
      (try clear hb)
      (try clear hb2)
      (try clear hk)
      (try clear hi)
      refine hK.out _ _ ⟨(blk_cell BK104.out 0).trans rfl, (blk_cell BK104.out 1).trans rfl, (blk_cell BK104.out 2).trans rfl, (bc_ HB.out hw108_0 :), (bc_ HB.out hw108_1 :), (bc_ HB.out hw108_2 :)⟩ (fun hHeld => ?_)
      clear hK K
      refine norm_ (a' := ?_) ?_ ?_
      rotate_left
      ·show Act.put _ (some 40) _ = _
       simp only [pz_]
       rfl
      refine pv_ 10 41 HT_.out ?_
      refine pv_ 11 42 HT_.out ?_
      refine uv_ 12 43 HT_.out ?_
      refine uv_ 13 44 HT_.out ?_
      refine uv_ 14 45 HT_.out ?_
      refine uv_ 15 46 HT_.out ?_
      refine uv_ 16 47 HT_.out ?_
      refine uv_ 17 48 HT_.out ?_
      refine uv_ 18 49 HT_.out ?_
      refine uv_ 19 50 HT_.out ?_
      refine uv_ 20 51 HT_.out ?_
      refine uv_ 21 52 HT_.out ?_
      refine uv_ 22 53 HT_.out ?_
      refine uv_ 23 54 HT_.out ?_
      refine uv_ 24 55 HT_.out ?_
      refine uv_ 25 56 HT_.out ?_
      refine uv_ 26 57 HT_.out ?_
      refine uv_ 27 58 HT_.out ?_
      refine uv_ 28 59 HT_.out ?_
      refine uv_ 29 60 HT_.out ?_
      refine uv_ 30 61 HT_.out ?_
      refine uv_ 31 62 HT_.out ?_
      refine pv_ 32 63 HT_.out ?_
      refine pu_ 33 64 #[t_,t_,t_,t_,t_,t_,t_,t_,t_,t_,t_,t_,t_,t_,t_,t_,t_,t_,t_,t_,t_,t_,t_,t_,t_,t_,t_,t_,t_,t_,t_,t_,t_,t_] HT_.out ?_
      refine done_ (done_of HT_.out (by kernel_rfl)) ?_
      try go_wp2
      go_ret
      exact ⟨by first | rfl | (simp [errW_none, errW_some] <;> rfl) | (simp only [← hji17]; first | rfl | (simp [errW_none, errW_some] <;> rfl)) | (simp [*, errW_none, errW_some] <;> rfl), r3_ HB.out GE104.out⟩
     subst c21
     rw [if_pos rfl] at H
     by_cases c22 : ((rd_T81 l0 (ji17)).f0) = ((rd_T81 l0 x3_1).f0)
     case neg =>
      rw [if_neg c22] at H
      have c22b0 := beq_eq_false_iff_ne.mpr c22
      have c22b1 := bne_iff_ne.mpr c22
      have H' := Aside0.mk H
      clear H
      try go_wp2
      replace BK104 := Aside0.mk (blk_drew BK104.out)
      replace HB := Aside0.mk (below_drew1 HB.out)
      have p108 : 0 ≤ ((ji17) : Int) := od_
      have q108 : (ji17) < (l0.length : Int) := od_
      obtain ⟨ad108, e108, hx108_0, hx108_1, hx108_2⟩ := at_T81 HR0.out (ji17) p108 q108
      have hw108_2 := hx108_2
      have hw108_1 := hx108_1
      have hw108_0 := hx108_0
      obtain rfl : ad103 = ad108 := (by injection e108)
      replace hx108_0 := bc_ HB.out hx108_0
      replace hx108_1 := bc_ HB.out hx108_1
      replace hx108_2 := bc_ HB.out hx108_2
      replace p108 := eq_true p108
      replace q108 := eq_true q108
      have p110 : 0 ≤ ((ji17) : Int) := od_
      have q110 : (ji17) < (l0.length : Int) := od_
      obtain ⟨ad110, e110, hx110_0, hx110_1, hx110_2⟩ := at_T81 HR0.out (ji17) p110 q110
      have hw110_2 := hx110_2
      have hw110_1 := hx110_1
      have hw110_0 := hx110_0
      obtain rfl : ad103 = ad110 := (by injection e110)
      replace hx110_0 := bc_ HB.out hx110_0
      replace hx110_1 := bc_ HB.out hx110_1
      replace hx110_2 := bc_ HB.out hx110_2
      replace p110 := eq_true p110
      replace q110 := eq_true q110
      refine start_ (n := 34) (S := fun w' => w'.cell? ⟨gb104, 0, none⟩ = some (.int .i64 ((rd_T81 l0 x3_1).f0)) ∧ w'.cell? ⟨gb104, 1, none⟩ = some (.int .i64 ((rd_T81 l0 x3_1).f1)) ∧ w'.cell? ⟨gb104, 2, none⟩ = some (.int .i64 ((rd_T81 l0 x3_1).f2)) ∧ w'.cell? (ad103.add (((ji17)).toNat * 3)) = some (.int .i64 ((rd_T81 l0 (ji17)).f0)) ∧ w'.cell? ⟨(ad103.add (((ji17)).toNat * 3)).block, (ad103.add (((ji17)).toNat * 3)).off + 1, none⟩ = some (.int .i64 ((rd_T81 l0 (ji17)).f1)) ∧ w'.cell? ⟨(ad103.add (((ji17)).toNat * 3)).block, (ad103.add (((ji17)).toNat * 3)).off + 2, none⟩ = some (.int .i64 ((rd_T81 l0 (ji17)).f2)) ∧ w'.cell? (ad103.add (((ji17)).toNat * 3)) = some (.int .i64 ((rd_T81 l0 (ji17)).f0)) ∧ w'.cell? ⟨(ad103.add (((ji17)).toNat * 3)).block, (ad103.add (((ji17)).toNat * 3)).off + 1, none⟩ = some (.int .i64 ((rd_T81 l0 (ji17)).f1)) ∧ w'.cell? ⟨(ad103.add (((ji17)).toNat * 3)).block, (ad103.add (((ji17)).toNat * 3)).off + 2, none⟩ = some (.int .i64 ((rd_T81 l0 (ji17)).f2))) (ds := []) #[f_,f_,f_,f_,f_,f_,f_,f_,f_,f_,f_,f_,f_,f_,f_,f_,f_,f_,f_,f_,f_,f_,f_,f_,f_,f_,f_,f_,f_,f_,f_,f_,f_,f_] (by kernel_rfl) rfl rfl ⟨(blk_cell BK104.out 0).trans rfl, (blk_cell BK104.out 1).trans rfl, (blk_cell BK104.out 2).trans rfl, (bc_ HB.out hw108_0 :), (bc_ HB.out hw108_1 :), (bc_ HB.out hw108_2 :), (bc_ HB.out hw110_0 :), (bc_ HB.out hw110_1 :), (bc_ HB.out hw110_2 :)⟩ (fun hHeld => ?_); refine with_tabW spec_IsTable.tab7 spec_IsTable.bits7 (fun HT_ HW_ => ?_)
      generalize wc.drew = w28 at BK104 HB hx108_0 hx108_1 hx108_2 hx110_0 hx110_1 hx110_2 hHeld ⊢
      refine pv_ 0 31 HT_.out ?_
      refine pv_ 1 32 HT_.out ?_
      refine pv_ 2 33 HT_.out ?_
      refine pv_ 3 34 HT_.out ?_
      refine pv_ 4 35 HT_.out ?_
      refine pv_ 5 36 HT_.out ?_
      refine pv_ 6 37 HT_.out ?_
      refine tv9_ 7 38 HT_.out HW_.out hHeld ?_
      refine tk9_ 8 39 #[t_,t_,t_,t_,t_,t_,t_,t_,t_,f_,f_,f_,f_,f_,f_,f_,f_,f_,f_,f_,f_,f_,f_,f_,f_,f_,f_,f_,f_,f_,f_,f_,f_,f_] HT_.out HW_.out hHeld ?_
      refine one_ (i := 9) (N := some 40) #[t_,t_,t_,t_,t_,t_,t_,t_,t_,t_,f_,f_,f_,f_,f_,f_,f_,f_,f_,f_,f_,f_,f_,f_,f_,f_,f_,f_,f_,f_,f_,f_,f_,f_] rfl rfl (one_of HT_.out (by kernel_rfl)) (by decide) (fun K hK => ?_)
      refine goes_ Try.func150 (by kernel_rfl) rfl #[.agg #[.int .i64 ((rd_T81 l0 (ji17)).f0), .int .i64 ((rd_T81 l0 (ji17)).f1), .int .i64 ((rd_T81 l0 (ji17)).f2)], .agg #[.int .i64 ((rd_T81 l0 x3_1).f0), .int .i64 ((rd_T81 l0 x3_1).f1), .int .i64 ((rd_T81 l0 x3_1).f2)]] (by rfl) rfl rfl (by (try simp only [List.map_toArray, List.map_cons, List.map_nil]); first | done | (simp only [hji17]; rfl) | rfl | (simp only [List.length_drop, List.length_take]; rfl)) ?_
      with_reducible refine (spec_l16Before.calls ((rd_T81 l0 (ji17)).f0) ((rd_T81 l0 (ji17)).f1) ((rd_T81 l0 (ji17)).f2) ((rd_T81 l0 x3_1).f0) ((rd_T81 l0 x3_1).f1) ((rd_T81 l0 x3_1).f2) true _ A20.out).mono ?_
      rintro e w29 ⟨rfl, hb⟩
      refine ⟨_, rfl, ?_⟩
      replace BK104 := Aside0.mk (blk_below (g := gb104) (o := .cells #[.int .i64 ((rd_T81 l0 x3_1).f0), .int .i64 ((rd_T81 l0 x3_1).f1), .int .i64 ((rd_T81 l0 x3_1).f2)] 81 (0, 0)) (r5_ BK104.out) hb)
      replace HB := Aside0.mk (below_step (r3_ HB.out GE104.out) hb)
      (try clear hb)
      (try clear hb2)
      (try clear hk)
      (try clear hi)
      refine hK.out _ _ ⟨(blk_cell BK104.out 0).trans rfl, (blk_cell BK104.out 1).trans rfl, (blk_cell BK104.out 2).trans rfl, (bc_ HB.out hw108_0 :), (bc_ HB.out hw108_1 :), (bc_ HB.out hw108_2 :), (bc_ HB.out hw110_0 :), (bc_ HB.out hw110_1 :), (bc_ HB.out hw110_2 :)⟩ (fun hHeld => ?_)
      clear hK K
      refine norm_ (a' := ?_) ?_ ?_
      rotate_left
      ·show Act.put _ (some 40) _ = _
       simp only [pz_]
       rfl
      refine pv_ 10 41 HT_.out ?_
      refine pv_ 11 42 HT_.out ?_
      refine pv_ 12 43 HT_.out ?_
      refine pv_ 13 44 HT_.out ?_
      refine pv_ 14 45 HT_.out ?_
      refine pv_ 15 46 HT_.out ?_
      refine pv_ 16 47 HT_.out ?_
      refine pv_ 18 49 HT_.out ?_
      refine tv9_ 17 48 HT_.out HW_.out hHeld ?_
      refine tv9_ 19 50 HT_.out HW_.out hHeld ?_
      refine pv_ 20 51 HT_.out ?_
      refine pv_ 21 52 HT_.out ?_
      refine uv_ 22 53 HT_.out ?_
      refine uv_ 23 54 HT_.out ?_
      refine uv_ 24 55 HT_.out ?_
      refine uv_ 25 56 HT_.out ?_
      refine uv_ 26 57 HT_.out ?_
      refine uv_ 27 58 HT_.out ?_
      refine uv_ 28 59 HT_.out ?_
      refine uv_ 29 60 HT_.out ?_
      refine uv_ 30 61 HT_.out ?_
      refine pv_ 31 62 HT_.out ?_
      refine pv_ 32 63 HT_.out ?_
      refine pu_ 33 64 #[t_,t_,t_,t_,t_,t_,t_,t_,t_,t_,t_,t_,t_,t_,t_,t_,t_,t_,t_,t_,t_,t_,t_,t_,t_,t_,t_,t_,t_,t_,t_,t_,t_,t_] HT_.out ?_
      refine done_ (done_of HT_.out (by kernel_rfl)) ?_
      try go_wp2
      go_roundg kj3
      case measure => have := HK1.out; have := HJ3.out; omega
      case rel => exact ⟨(wrap64 (x3_1 + 1)), rs_, H', ⟨by have := HK1.out; have := HJ3.out; omega⟩, ⟨r3_ HB.out GE104.out⟩⟩
     rw [if_pos c22] at H
     have c22b0 := beq_iff_eq.mpr c22
     have c22b1 := bne_eq_false_iff_eq.mpr c22
     clear c22
     by_cases c23 : ((rd_T81 l0 (ji17)).f2) > ((rd_T81 l0 x3_1).f2)
     case pos =>
      rw [if_pos c23] at H
      have c23b0 : decide (((rd_T81 l0 x3_1).f2) < ((rd_T81 l0 (ji17)).f2)) = true := decide_eq_true c23
      clear c23
      obtain rfl := Option.some.inj H
      try go_wp2
      replace BK104 := Aside0.mk (blk_drew BK104.out)
      replace HB := Aside0.mk (below_drew1 HB.out)
      have p108 : 0 ≤ ((ji17) : Int) := od_
      have q108 : (ji17) < (l0.length : Int) := od_
      obtain ⟨ad108, e108, hx108_0, hx108_1, hx108_2⟩ := at_T81 HR0.out (ji17) p108 q108
      have hw108_2 := hx108_2
      have hw108_1 := hx108_1
      have hw108_0 := hx108_0
      obtain rfl : ad103 = ad108 := (by injection e108)
      replace hx108_0 := bc_ HB.out hx108_0
      replace hx108_1 := bc_ HB.out hx108_1
      replace hx108_2 := bc_ HB.out hx108_2
      replace p108 := eq_true p108
      replace q108 := eq_true q108
      have p110 : 0 ≤ ((ji17) : Int) := od_
      have q110 : (ji17) < (l0.length : Int) := od_
      obtain ⟨ad110, e110, hx110_0, hx110_1, hx110_2⟩ := at_T81 HR0.out (ji17) p110 q110
      have hw110_2 := hx110_2
      have hw110_1 := hx110_1
      have hw110_0 := hx110_0
      obtain rfl : ad103 = ad110 := (by injection e110)
      replace hx110_0 := bc_ HB.out hx110_0
      replace hx110_1 := bc_ HB.out hx110_1
      replace hx110_2 := bc_ HB.out hx110_2
      replace p110 := eq_true p110
      replace q110 := eq_true q110
      have p111 : 0 ≤ ((ji17) : Int) := od_
      have q111 : (ji17) < (l0.length : Int) := od_
      obtain ⟨ad111, e111, hx111_0, hx111_1, hx111_2⟩ := at_T81 HR0.out (ji17) p111 q111
      have hw111_2 := hx111_2
      have hw111_1 := hx111_1
      have hw111_0 := hx111_0
      obtain rfl : ad103 = ad111 := (by injection e111)
      replace hx111_0 := bc_ HB.out hx111_0
      replace hx111_1 := bc_ HB.out hx111_1
      replace hx111_2 := bc_ HB.out hx111_2
      replace p111 := eq_true p111
      replace q111 := eq_true q111
      refine start_ (n := 34) (S := fun w' => w'.cell? ⟨gb104, 0, none⟩ = some (.int .i64 ((rd_T81 l0 x3_1).f0)) ∧ w'.cell? ⟨gb104, 1, none⟩ = some (.int .i64 ((rd_T81 l0 x3_1).f1)) ∧ w'.cell? ⟨gb104, 2, none⟩ = some (.int .i64 ((rd_T81 l0 x3_1).f2)) ∧ w'.cell? (ad103.add (((ji17)).toNat * 3)) = some (.int .i64 ((rd_T81 l0 (ji17)).f0)) ∧ w'.cell? ⟨(ad103.add (((ji17)).toNat * 3)).block, (ad103.add (((ji17)).toNat * 3)).off + 1, none⟩ = some (.int .i64 ((rd_T81 l0 (ji17)).f1)) ∧ w'.cell? ⟨(ad103.add (((ji17)).toNat * 3)).block, (ad103.add (((ji17)).toNat * 3)).off + 2, none⟩ = some (.int .i64 ((rd_T81 l0 (ji17)).f2)) ∧ w'.cell? (ad103.add (((ji17)).toNat * 3)) = some (.int .i64 ((rd_T81 l0 (ji17)).f0)) ∧ w'.cell? ⟨(ad103.add (((ji17)).toNat * 3)).block, (ad103.add (((ji17)).toNat * 3)).off + 1, none⟩ = some (.int .i64 ((rd_T81 l0 (ji17)).f1)) ∧ w'.cell? ⟨(ad103.add (((ji17)).toNat * 3)).block, (ad103.add (((ji17)).toNat * 3)).off + 2, none⟩ = some (.int .i64 ((rd_T81 l0 (ji17)).f2)) ∧ w'.cell? (ad103.add (((ji17)).toNat * 3)) = some (.int .i64 ((rd_T81 l0 (ji17)).f0)) ∧ w'.cell? ⟨(ad103.add (((ji17)).toNat * 3)).block, (ad103.add (((ji17)).toNat * 3)).off + 1, none⟩ = some (.int .i64 ((rd_T81 l0 (ji17)).f1)) ∧ w'.cell? ⟨(ad103.add (((ji17)).toNat * 3)).block, (ad103.add (((ji17)).toNat * 3)).off + 2, none⟩ = some (.int .i64 ((rd_T81 l0 (ji17)).f2))) (ds := []) #[f_,f_,f_,f_,f_,f_,f_,f_,f_,f_,f_,f_,f_,f_,f_,f_,f_,f_,f_,f_,f_,f_,f_,f_,f_,f_,f_,f_,f_,f_,f_,f_,f_,f_] (by kernel_rfl) rfl rfl ⟨(blk_cell BK104.out 0).trans rfl, (blk_cell BK104.out 1).trans rfl, (blk_cell BK104.out 2).trans rfl, (bc_ HB.out hw108_0 :), (bc_ HB.out hw108_1 :), (bc_ HB.out hw108_2 :), (bc_ HB.out hw110_0 :), (bc_ HB.out hw110_1 :), (bc_ HB.out hw110_2 :), (bc_ HB.out hw111_0 :), (bc_ HB.out hw111_1 :), (bc_ HB.out hw111_2 :)⟩ (fun hHeld => ?_); refine with_tabW spec_IsTable.tab7 spec_IsTable.bits7 (fun HT_ HW_ => ?_)
      generalize wc.drew = w24 at BK104 HB hx108_0 hx108_1 hx108_2 hx110_0 hx110_1 hx110_2 hx111_0 hx111_1 hx111_2 hHeld ⊢
      refine pv_ 0 31 HT_.out ?_
      refine pv_ 1 32 HT_.out ?_
      refine pv_ 2 33 HT_.out ?_
      refine pv_ 3 34 HT_.out ?_
      refine pv_ 4 35 HT_.out ?_
      refine pv_ 5 36 HT_.out ?_
      refine pv_ 6 37 HT_.out ?_
      refine tv12_ 7 38 HT_.out HW_.out hHeld ?_
      refine tk12_ 8 39 #[t_,t_,t_,t_,t_,t_,t_,t_,t_,f_,f_,f_,f_,f_,f_,f_,f_,f_,f_,f_,f_,f_,f_,f_,f_,f_,f_,f_,f_,f_,f_,f_,f_,f_] HT_.out HW_.out hHeld ?_
      refine one_ (i := 9) (N := some 40) #[t_,t_,t_,t_,t_,t_,t_,t_,t_,t_,f_,f_,f_,f_,f_,f_,f_,f_,f_,f_,f_,f_,f_,f_,f_,f_,f_,f_,f_,f_,f_,f_,f_,f_] rfl rfl (one_of HT_.out (by kernel_rfl)) (by decide) (fun K hK => ?_)
      refine goes_ Try.func150 (by kernel_rfl) rfl #[.agg #[.int .i64 ((rd_T81 l0 (ji17)).f0), .int .i64 ((rd_T81 l0 (ji17)).f1), .int .i64 ((rd_T81 l0 (ji17)).f2)], .agg #[.int .i64 ((rd_T81 l0 x3_1).f0), .int .i64 ((rd_T81 l0 x3_1).f1), .int .i64 ((rd_T81 l0 x3_1).f2)]] (by rfl) rfl rfl (by (try simp only [List.map_toArray, List.map_cons, List.map_nil]); first | done | (simp only [hji17]; rfl) | rfl | (simp only [List.length_drop, List.length_take]; rfl)) ?_
      with_reducible refine (spec_l16Before.calls ((rd_T81 l0 (ji17)).f0) ((rd_T81 l0 (ji17)).f1) ((rd_T81 l0 (ji17)).f2) ((rd_T81 l0 x3_1).f0) ((rd_T81 l0 x3_1).f1) ((rd_T81 l0 x3_1).f2) true _ A20.out).mono ?_
      rintro e w25 ⟨rfl, hb⟩
      refine ⟨_, rfl, ?_⟩
      replace BK104 := Aside0.mk (blk_below (g := gb104) (o := .cells #[.int .i64 ((rd_T81 l0 x3_1).f0), .int .i64 ((rd_T81 l0 x3_1).f1), .int .i64 ((rd_T81 l0 x3_1).f2)] 81 (0, 0)) (r5_ BK104.out) hb)
      replace HB := Aside0.mk (below_step (r3_ HB.out GE104.out) hb)
      (try clear hb)
      (try clear hb2)
      (try clear hk)
      (try clear hi)
      refine hK.out _ _ ⟨(blk_cell BK104.out 0).trans rfl, (blk_cell BK104.out 1).trans rfl, (blk_cell BK104.out 2).trans rfl, (bc_ HB.out hw108_0 :), (bc_ HB.out hw108_1 :), (bc_ HB.out hw108_2 :), (bc_ HB.out hw110_0 :), (bc_ HB.out hw110_1 :), (bc_ HB.out hw110_2 :), (bc_ HB.out hw111_0 :), (bc_ HB.out hw111_1 :), (bc_ HB.out hw111_2 :)⟩ (fun hHeld => ?_)
      clear hK K
      refine norm_ (a' := ?_) ?_ ?_
      rotate_left
      ·show Act.put _ (some 40) _ = _
       simp only [pz_]
       rfl
      refine pv_ 10 41 HT_.out ?_
      refine pv_ 11 42 HT_.out ?_
      refine pv_ 12 43 HT_.out ?_
      refine pv_ 13 44 HT_.out ?_
      refine pv_ 14 45 HT_.out ?_
      refine pv_ 15 46 HT_.out ?_
      refine pv_ 16 47 HT_.out ?_
      refine pv_ 18 49 HT_.out ?_
      refine tv12_ 17 48 HT_.out HW_.out hHeld ?_
      refine tv12_ 19 50 HT_.out HW_.out hHeld ?_
      refine pv_ 20 51 HT_.out ?_
      refine pv_ 21 52 HT_.out ?_
      refine pv_ 22 53 HT_.out ?_
      refine pv_ 23 54 HT_.out ?_
      refine pv_ 24 55 HT_.out ?_
      refine pv_ 25 56 HT_.out ?_
      refine pv_ 26 57 HT_.out ?_
      refine pv_ 28 59 HT_.out ?_
      refine tv12_ 27 58 HT_.out HW_.out hHeld ?_
      refine tv12_ 29 60 HT_.out HW_.out hHeld ?_
      refine pv_ 30 61 HT_.out ?_
      refine pv_ 31 62 HT_.out ?_
      refine pv_ 32 63 HT_.out ?_
      refine pu_ 33 64 #[t_,t_,t_,t_,t_,t_,t_,t_,t_,t_,t_,t_,t_,t_,t_,t_,t_,t_,t_,t_,t_,t_,t_,t_,t_,t_,t_,t_,t_,t_,t_,t_,t_,t_] HT_.out ?_
      refine done_ (done_of HT_.out (by kernel_rfl)) ?_
      try go_wp2
      go_ret
      exact ⟨by first | rfl | (simp [errW_none, errW_some] <;> rfl) | (simp only [← hji17]; first | rfl | (simp [errW_none, errW_some] <;> rfl)) | (simp [*, errW_none, errW_some] <;> rfl), r3_ HB.out GE104.out⟩
     rw [if_neg c23] at H
     have c23b0 : decide (((rd_T81 l0 x3_1).f2) < ((rd_T81 l0 (ji17)).f2)) = false := decide_eq_false c23
     clear c23
     have H' := Aside0.mk H
     clear H
     try go_wp2
     replace BK104 := Aside0.mk (blk_drew BK104.out)
     replace HB := Aside0.mk (below_drew1 HB.out)
     have p108 : 0 ≤ ((ji17) : Int) := od_
     have q108 : (ji17) < (l0.length : Int) := od_
     obtain ⟨ad108, e108, hx108_0, hx108_1, hx108_2⟩ := at_T81 HR0.out (ji17) p108 q108
     have hw108_2 := hx108_2
     have hw108_1 := hx108_1
     have hw108_0 := hx108_0
     obtain rfl : ad103 = ad108 := (by injection e108)
     replace hx108_0 := bc_ HB.out hx108_0
     replace hx108_1 := bc_ HB.out hx108_1
     replace hx108_2 := bc_ HB.out hx108_2
     replace p108 := eq_true p108
     replace q108 := eq_true q108
     have p110 : 0 ≤ ((ji17) : Int) := od_
     have q110 : (ji17) < (l0.length : Int) := od_
     obtain ⟨ad110, e110, hx110_0, hx110_1, hx110_2⟩ := at_T81 HR0.out (ji17) p110 q110
     have hw110_2 := hx110_2
     have hw110_1 := hx110_1
     have hw110_0 := hx110_0
     obtain rfl : ad103 = ad110 := (by injection e110)
     replace hx110_0 := bc_ HB.out hx110_0
     replace hx110_1 := bc_ HB.out hx110_1
     replace hx110_2 := bc_ HB.out hx110_2
     replace p110 := eq_true p110
     replace q110 := eq_true q110
     have p111 : 0 ≤ ((ji17) : Int) := od_
     have q111 : (ji17) < (l0.length : Int) := od_
     obtain ⟨ad111, e111, hx111_0, hx111_1, hx111_2⟩ := at_T81 HR0.out (ji17) p111 q111
     have hw111_2 := hx111_2
     have hw111_1 := hx111_1
     have hw111_0 := hx111_0
     obtain rfl : ad103 = ad111 := (by injection e111)
     replace hx111_0 := bc_ HB.out hx111_0
     replace hx111_1 := bc_ HB.out hx111_1
     replace hx111_2 := bc_ HB.out hx111_2
     replace p111 := eq_true p111
     replace q111 := eq_true q111
     refine start_ (n := 34) (S := fun w' => w'.cell? ⟨gb104, 0, none⟩ = some (.int .i64 ((rd_T81 l0 x3_1).f0)) ∧ w'.cell? ⟨gb104, 1, none⟩ = some (.int .i64 ((rd_T81 l0 x3_1).f1)) ∧ w'.cell? ⟨gb104, 2, none⟩ = some (.int .i64 ((rd_T81 l0 x3_1).f2)) ∧ w'.cell? (ad103.add (((ji17)).toNat * 3)) = some (.int .i64 ((rd_T81 l0 (ji17)).f0)) ∧ w'.cell? ⟨(ad103.add (((ji17)).toNat * 3)).block, (ad103.add (((ji17)).toNat * 3)).off + 1, none⟩ = some (.int .i64 ((rd_T81 l0 (ji17)).f1)) ∧ w'.cell? ⟨(ad103.add (((ji17)).toNat * 3)).block, (ad103.add (((ji17)).toNat * 3)).off + 2, none⟩ = some (.int .i64 ((rd_T81 l0 (ji17)).f2)) ∧ w'.cell? (ad103.add (((ji17)).toNat * 3)) = some (.int .i64 ((rd_T81 l0 (ji17)).f0)) ∧ w'.cell? ⟨(ad103.add (((ji17)).toNat * 3)).block, (ad103.add (((ji17)).toNat * 3)).off + 1, none⟩ = some (.int .i64 ((rd_T81 l0 (ji17)).f1)) ∧ w'.cell? ⟨(ad103.add (((ji17)).toNat * 3)).block, (ad103.add (((ji17)).toNat * 3)).off + 2, none⟩ = some (.int .i64 ((rd_T81 l0 (ji17)).f2)) ∧ w'.cell? (ad103.add (((ji17)).toNat * 3)) = some (.int .i64 ((rd_T81 l0 (ji17)).f0)) ∧ w'.cell? ⟨(ad103.add (((ji17)).toNat * 3)).block, (ad103.add (((ji17)).toNat * 3)).off + 1, none⟩ = some (.int .i64 ((rd_T81 l0 (ji17)).f1)) ∧ w'.cell? ⟨(ad103.add (((ji17)).toNat * 3)).block, (ad103.add (((ji17)).toNat * 3)).off + 2, none⟩ = some (.int .i64 ((rd_T81 l0 (ji17)).f2))) (ds := []) #[f_,f_,f_,f_,f_,f_,f_,f_,f_,f_,f_,f_,f_,f_,f_,f_,f_,f_,f_,f_,f_,f_,f_,f_,f_,f_,f_,f_,f_,f_,f_,f_,f_,f_] (by kernel_rfl) rfl rfl ⟨(blk_cell BK104.out 0).trans rfl, (blk_cell BK104.out 1).trans rfl, (blk_cell BK104.out 2).trans rfl, (bc_ HB.out hw108_0 :), (bc_ HB.out hw108_1 :), (bc_ HB.out hw108_2 :), (bc_ HB.out hw110_0 :), (bc_ HB.out hw110_1 :), (bc_ HB.out hw110_2 :), (bc_ HB.out hw111_0 :), (bc_ HB.out hw111_1 :), (bc_ HB.out hw111_2 :)⟩ (fun hHeld => ?_); refine with_tabW spec_IsTable.tab7 spec_IsTable.bits7 (fun HT_ HW_ => ?_)
     generalize wc.drew = w26 at BK104 HB hx108_0 hx108_1 hx108_2 hx110_0 hx110_1 hx110_2 hx111_0 hx111_1 hx111_2 hHeld ⊢
     refine pv_ 0 31 HT_.out ?_
     refine pv_ 1 32 HT_.out ?_
     refine pv_ 2 33 HT_.out ?_
     refine pv_ 3 34 HT_.out ?_
     refine pv_ 4 35 HT_.out ?_
     refine pv_ 5 36 HT_.out ?_
     refine pv_ 6 37 HT_.out ?_
     refine tv12_ 7 38 HT_.out HW_.out hHeld ?_
     refine tk12_ 8 39 #[t_,t_,t_,t_,t_,t_,t_,t_,t_,f_,f_,f_,f_,f_,f_,f_,f_,f_,f_,f_,f_,f_,f_,f_,f_,f_,f_,f_,f_,f_,f_,f_,f_,f_] HT_.out HW_.out hHeld ?_
     refine one_ (i := 9) (N := some 40) #[t_,t_,t_,t_,t_,t_,t_,t_,t_,t_,f_,f_,f_,f_,f_,f_,f_,f_,f_,f_,f_,f_,f_,f_,f_,f_,f_,f_,f_,f_,f_,f_,f_,f_] rfl rfl (one_of HT_.out (by kernel_rfl)) (by decide) (fun K hK => ?_)
     refine goes_ Try.func150 (by kernel_rfl) rfl #[.agg #[.int .i64 ((rd_T81 l0 (ji17)).f0), .int .i64 ((rd_T81 l0 (ji17)).f1), .int .i64 ((rd_T81 l0 (ji17)).f2)], .agg #[.int .i64 ((rd_T81 l0 x3_1).f0), .int .i64 ((rd_T81 l0 x3_1).f1), .int .i64 ((rd_T81 l0 x3_1).f2)]] (by rfl) rfl rfl (by (try simp only [List.map_toArray, List.map_cons, List.map_nil]); first | done | (simp only [hji17]; rfl) | rfl | (simp only [List.length_drop, List.length_take]; rfl)) ?_
     with_reducible refine (spec_l16Before.calls ((rd_T81 l0 (ji17)).f0) ((rd_T81 l0 (ji17)).f1) ((rd_T81 l0 (ji17)).f2) ((rd_T81 l0 x3_1).f0) ((rd_T81 l0 x3_1).f1) ((rd_T81 l0 x3_1).f2) true _ A20.out).mono ?_
     rintro e w27 ⟨rfl, hb⟩
     refine ⟨_, rfl, ?_⟩
     replace BK104 := Aside0.mk (blk_below (g := gb104) (o := .cells #[.int .i64 ((rd_T81 l0 x3_1).f0), .int .i64 ((rd_T81 l0 x3_1).f1), .int .i64 ((rd_T81 l0 x3_1).f2)] 81 (0, 0)) (r5_ BK104.out) hb)
     replace HB := Aside0.mk (below_step (r3_ HB.out GE104.out) hb)
     (try clear hb)
     (try clear hb2)
     (try clear hk)
     (try clear hi)
     refine hK.out _ _ ⟨(blk_cell BK104.out 0).trans rfl, (blk_cell BK104.out 1).trans rfl, (blk_cell BK104.out 2).trans rfl, (bc_ HB.out hw108_0 :), (bc_ HB.out hw108_1 :), (bc_ HB.out hw108_2 :), (bc_ HB.out hw110_0 :), (bc_ HB.out hw110_1 :), (bc_ HB.out hw110_2 :), (bc_ HB.out hw111_0 :), (bc_ HB.out hw111_1 :), (bc_ HB.out hw111_2 :)⟩ (fun hHeld => ?_)
     clear hK K
     refine norm_ (a' := ?_) ?_ ?_
     rotate_left
     ·show Act.put _ (some 40) _ = _
      simp only [pz_]
      rfl
     refine pv_ 10 41 HT_.out ?_
     refine pv_ 11 42 HT_.out ?_
     refine pv_ 12 43 HT_.out ?_
     refine pv_ 13 44 HT_.out ?_
     refine pv_ 14 45 HT_.out ?_
     refine pv_ 15 46 HT_.out ?_
     refine pv_ 16 47 HT_.out ?_
     refine pv_ 18 49 HT_.out ?_
     refine tv12_ 17 48 HT_.out HW_.out hHeld ?_
     refine tv12_ 19 50 HT_.out HW_.out hHeld ?_
     refine pv_ 20 51 HT_.out ?_
     refine pv_ 21 52 HT_.out ?_
     refine pv_ 22 53 HT_.out ?_
     refine pv_ 23 54 HT_.out ?_
     refine pv_ 24 55 HT_.out ?_
     refine pv_ 25 56 HT_.out ?_
     refine pv_ 26 57 HT_.out ?_
     refine pv_ 28 59 HT_.out ?_
     refine tv12_ 27 58 HT_.out HW_.out hHeld ?_
     refine tv12_ 29 60 HT_.out HW_.out hHeld ?_
     refine pv_ 30 61 HT_.out ?_
     refine pv_ 31 62 HT_.out ?_
     refine pv_ 32 63 HT_.out ?_
     refine pu_ 33 64 #[t_,t_,t_,t_,t_,t_,t_,t_,t_,t_,t_,t_,t_,t_,t_,t_,t_,t_,t_,t_,t_,t_,t_,t_,t_,t_,t_,t_,t_,t_,t_,t_,t_,t_] HT_.out ?_
     refine done_ (done_of HT_.out (by kernel_rfl)) ?_
     try go_wp2
     go_roundg kj3
     case measure => have := HK1.out; have := HJ3.out; omega
     case rel => exact ⟨(wrap64 (x3_1 + 1)), rs_, H', ⟨by have := HK1.out; have := HJ3.out; omega⟩, ⟨r3_ HB.out GE104.out⟩⟩
def spec_l15Place.f (a0 : Int) (a1 : Int) : Option (Bool) := (spec_l01In.f a0 0 100000).bind fun t112 => (if t112 = true then ((spec_l01In.f a1 0 100000).bind fun t113 => (some t113)) else (some false))
set_option maxHeartbeats 8000000 in
set_option maxRecDepth 100000 in
theorem spec_l15Place.calls (a0 : Int) (a1 : Int) (r : Bool) (w : World) (h : spec_l15Place.f a0 a1 = some r) :
    Calls Try.prog 110 #[.int .i64 a0, .int .i64 a1] w fun e w' => e = .returned (.bool r) ∧ Drawn0 w w' := by
  have H : ((spec_l01In.f a0 0 100000).bind fun t112 => (if t112 = true then ((spec_l01In.f a1 0 100000).bind fun t113 => (some t113)) else (some false))) = some r := h
  clear h
  replace H := Option.bind_eq_some_iff.mp H
  obtain ⟨t112, A30, H⟩ := H
  try dsimp only at H
  have A3 := Aside0.mk A30
  clear A30
  by_cases c4 : t112 = true
  · subst c4
    rw [if_pos rfl] at H
    replace H := Option.bind_eq_some_iff.mp H
    obtain ⟨t113, A50, H⟩ := H
    try dsimp only at H
    have A5 := Aside0.mk A50
    clear A50
    obtain rfl := Option.some.inj H
    go_enter Try.func110, Try.ntmps110
    go_wp2_with (first | ((with_reducible refine gate_callee (f := 148) rfl ?_); refine goesL_ (some 6) rfl rfl Try.func148 (by kernel_rfl) rfl #[.int .i64 a0, .int .i64 0, .int .i64 100000] rfl ag_ ?_; (with_reducible refine (spec_l01In.calls a0 0 100000 true _ A3.out).mono ?_); rintro e w' ⟨rfl, ⟨nd, rfl⟩⟩; refine ⟨_, rfl, ?_⟩) | (go_at_call 148; (with_reducible refine (spec_l01In.calls a1 0 100000 t113 _ A5.out).mono ?_); rintro e w' ⟨rfl, ⟨nd, rfl⟩⟩))
    go_ret
    exact ⟨by first | rfl | (simp; done) | (simp [*]; done), by repeat (first | exact Drawn0.refl _ | apply Drawn0.step)⟩
  · replace c4 := Bool.eq_false_iff.mpr c4
    subst c4
    rw [if_neg (show ¬ (false = true) by decide)] at H
    obtain rfl := Option.some.inj H
    go_enter Try.func110, Try.ntmps110
    go_wp2_with (first | ((with_reducible refine gate_callee (f := 148) rfl ?_); refine goesL_ (some 6) rfl rfl Try.func148 (by kernel_rfl) rfl #[.int .i64 a0, .int .i64 0, .int .i64 100000] rfl ag_ ?_; (with_reducible refine (spec_l01In.calls a0 0 100000 false _ A3.out).mono ?_); rintro e w' ⟨rfl, ⟨nd, rfl⟩⟩; refine ⟨_, rfl, ?_⟩))
    go_ret
    exact ⟨by first | rfl | (simp; done) | (simp [*]; done), by repeat (first | exact Drawn0.refl _ | apply Drawn0.step)⟩
def spec_IsArea.f (a0_0 : Int) (a0_1 : Int) (a0_2 : Int) (a0_3 : Int) (a0_4 : Int) : Option (Bool) := (spec_l01In.f a0_0 0 3).bind fun t115 => (if t115 = true then ((spec_l15Place.f a0_1 a0_2).bind fun t116 => (if t116 = true then ((spec_l01In.f a0_3 1 (wrap64 (100000 - a0_1))).bind fun t117 => (if t117 = true then ((spec_l01In.f a0_4 1 (wrap64 (100000 - a0_2))).bind fun t118 => (some t118)) else (some false))) else (some false))) else (some false))
set_option maxHeartbeats 8000000 in
set_option maxRecDepth 100000 in
theorem spec_IsArea.calls (a0_0 : Int) (a0_1 : Int) (a0_2 : Int) (a0_3 : Int) (a0_4 : Int) (r : Bool) (w : World) (h : spec_IsArea.f a0_0 a0_1 a0_2 a0_3 a0_4 = some r) :
  Calls Try.prog 159 #[.agg #[.int .i64 a0_0, .int .i64 a0_1, .int .i64 a0_2, .int .i64 a0_3, .int .i64 a0_4]] w fun e w' => e = .returned (.bool r) ∧ Below w.heap.size w w' := by
 have hu83 := Try.underlying83
 have HB := Aside0.mk (Below.refl w.heap.size w)
 have H : ((spec_l01In.f a0_0 0 3).bind fun t115 => (if t115 = true then ((spec_l15Place.f a0_1 a0_2).bind fun t116 => (if t116 = true then ((spec_l01In.f a0_3 1 (wrap64 (100000 - a0_1))).bind fun t117 => (if t117 = true then ((spec_l01In.f a0_4 1 (wrap64 (100000 - a0_2))).bind fun t118 => (some t118)) else (some false))) else (some false))) else (some false))) = some r := h
 clear h
 replace H := Option.bind_eq_some_iff.mp H
 obtain ⟨t115, A20, H⟩ := H
 try dsimp only at H
 have A2 := Aside0.mk A20
 clear A20
 by_cases c3 : t115 = true
 case neg =>
  replace c3 := Bool.eq_false_iff.mpr c3
  subst c3
  rw [if_neg (show ¬ (false = true) by decide)] at H
  obtain rfl := Option.some.inj H
  go_enter Try.func159, Try.ntmps159
  go_wp2_with (first | ((with_reducible refine gate_dst (N := 1) rfl ?_); refine box_event ?hg (N := 1) ?hd (cs := #[.int .i64 a0_0, .int .i64 a0_1, .int .i64 a0_2, .int .i64 a0_3, .int .i64 a0_4]) (t := 83) ?hr ?_; (case hd => rfl); (case hg => rfl); (case hr => first | (go_simp; done) | (go_simp; rfl)); intro gb114 hg w15 hbox hb; have BK114 := Aside0.mk (hbox); have GW114 := Aside0.mk ((by rw [hg]; exact (below_size (bl_ HB.out)) : w.heap.size ≤ gb114)); have GE114 := Aside0.mk ((by rw [hg]; exact (below_size (bl_ HB.out)) : w.heap.size ≤ gb114)); replace HB := Aside0.mk (below_step (bl_ HB.out) hb); clear hb hbox hg; obtain ⟨hcz16_0, hcz16_1, hcz16_2, hcz16_3, hcz16_4, hfz16_0, hfz16_1, hfz16_2, hfz16_3, hfz16_4⟩ := bk5_ BK114.out) | ((with_reducible refine gate_callee (f := 148) rfl ?_); refine goesL_ (some 5) rfl rfl Try.func148 (by kernel_rfl) rfl #[.int .i64 a0_0, .int .i64 0, .int .i64 3] rfl ag_ ?_; (with_reducible refine (spec_l01In.calls a0_0 0 3 false _ A2.out).mono ?_); rintro e w' ⟨rfl, ⟨nd, rfl⟩⟩; refine ⟨_, rfl, ?_⟩))
  go_ret
  exact ⟨(re_), r3_ HB.out GE114.out⟩


 subst c3
 rw [if_pos rfl] at H
 replace H := Option.bind_eq_some_iff.mp H
 obtain ⟨t116, A40, H⟩ := H
 try dsimp only at H
 have A4 := Aside0.mk A40
 clear A40
 by_cases c5 : t116 = true
 case neg =>
  replace c5 := Bool.eq_false_iff.mpr c5
  subst c5
  rw [if_neg (show ¬ (false = true) by decide)] at H
  obtain rfl := Option.some.inj H
  go_enter Try.func159, Try.ntmps159
  go_wp2_with (first | ((with_reducible refine gate_dst (N := 1) rfl ?_); refine box_event ?hg (N := 1) ?hd (cs := #[.int .i64 a0_0, .int .i64 a0_1, .int .i64 a0_2, .int .i64 a0_3, .int .i64 a0_4]) (t := 83) ?hr ?_; (case hd => rfl); (case hg => rfl); (case hr => first | (go_simp; done) | (go_simp; rfl)); intro gb114 hg w13 hbox hb; have BK114 := Aside0.mk (hbox); have GW114 := Aside0.mk ((by rw [hg]; exact (below_size (bl_ HB.out)) : w.heap.size ≤ gb114)); have GE114 := Aside0.mk ((by rw [hg]; exact (below_size (bl_ HB.out)) : w.heap.size ≤ gb114)); replace HB := Aside0.mk (below_step (bl_ HB.out) hb); clear hb hbox hg; obtain ⟨hcz14_0, hcz14_1, hcz14_2, hcz14_3, hcz14_4, hfz14_0, hfz14_1, hfz14_2, hfz14_3, hfz14_4⟩ := bk5_ BK114.out) | ((with_reducible refine gate_callee (f := 148) rfl ?_); refine goesL_ (some 5) rfl rfl Try.func148 (by kernel_rfl) rfl #[.int .i64 a0_0, .int .i64 0, .int .i64 3] rfl ag_ ?_; (with_reducible refine (spec_l01In.calls a0_0 0 3 true _ A2.out).mono ?_); rintro e w' ⟨rfl, ⟨nd, rfl⟩⟩; refine ⟨_, rfl, ?_⟩) | (go_at_call 110; (with_reducible refine (spec_l15Place.calls a0_1 a0_2 false _ A4.out).mono ?_); rintro e w' ⟨rfl, ⟨nd, rfl⟩⟩))
  go_ret
  exact ⟨(re_), r3_ HB.out GE114.out⟩
 subst c5
 rw [if_pos rfl] at H
 replace H := Option.bind_eq_some_iff.mp H
 obtain ⟨t117, A60, H⟩ := H
 try dsimp only at H
 have A6 := Aside0.mk A60
 clear A60
 by_cases c7 : t117 = true
 case neg =>
  replace c7 := Bool.eq_false_iff.mpr c7
  subst c7
  rw [if_neg (show ¬ (false = true) by decide)] at H
  obtain rfl := Option.some.inj H
  go_enter Try.func159, Try.ntmps159
  go_wp2_with (first | ((with_reducible refine gate_dst (N := 1) rfl ?_); refine box_event ?hg (N := 1) ?hd (cs := #[.int .i64 a0_0, .int .i64 a0_1, .int .i64 a0_2, .int .i64 a0_3, .int .i64 a0_4]) (t := 83) ?hr ?_; (case hd => rfl); (case hg => rfl); (case hr => first | (go_simp; done) | (go_simp; rfl)); intro gb114 hg w11 hbox hb; have BK114 := Aside0.mk (hbox); have GW114 := Aside0.mk ((by rw [hg]; exact (below_size (bl_ HB.out)) : w.heap.size ≤ gb114)); have GE114 := Aside0.mk ((by rw [hg]; exact (below_size (bl_ HB.out)) : w.heap.size ≤ gb114)); replace HB := Aside0.mk (below_step (bl_ HB.out) hb); clear hb hbox hg; obtain ⟨hcz12_0, hcz12_1, hcz12_2, hcz12_3, hcz12_4, hfz12_0, hfz12_1, hfz12_2, hfz12_3, hfz12_4⟩ := bk5_ BK114.out) | ((with_reducible refine gate_callee (f := 148) rfl ?_); refine goesL_ (some 5) rfl rfl Try.func148 (by kernel_rfl) rfl #[.int .i64 a0_0, .int .i64 0, .int .i64 3] rfl ag_ ?_; (with_reducible refine (spec_l01In.calls a0_0 0 3 true _ A2.out).mono ?_); rintro e w' ⟨rfl, ⟨nd, rfl⟩⟩; refine ⟨_, rfl, ?_⟩) | (go_at_call 110; (with_reducible refine (spec_l15Place.calls a0_1 a0_2 true _ A4.out).mono ?_); rintro e w' ⟨rfl, ⟨nd, rfl⟩⟩) | (go_at_call 148; (with_reducible refine (spec_l01In.calls a0_3 1 (wrap64 (100000 - a0_1)) false _ A6.out).mono ?_); rintro e w' ⟨rfl, ⟨nd, rfl⟩⟩))
  go_ret
  exact ⟨(re_), r3_ HB.out GE114.out⟩
 subst c7
 rw [if_pos rfl] at H
 replace H := Option.bind_eq_some_iff.mp H
 obtain ⟨t118, A80, H⟩ := H
 try dsimp only at H
 have A8 := Aside0.mk A80
 clear A80
 obtain rfl := Option.some.inj H
 go_enter Try.func159, Try.ntmps159
 go_wp2_with (first | ((with_reducible refine gate_dst (N := 1) rfl ?_); refine box_event ?hg (N := 1) ?hd (cs := #[.int .i64 a0_0, .int .i64 a0_1, .int .i64 a0_2, .int .i64 a0_3, .int .i64 a0_4]) (t := 83) ?hr ?_; (case hd => rfl); (case hg => rfl); (case hr => first | (go_simp; done) | (go_simp; rfl)); intro gb114 hg w9 hbox hb; have BK114 := Aside0.mk (hbox); have GW114 := Aside0.mk ((by rw [hg]; exact (below_size (bl_ HB.out)) : w.heap.size ≤ gb114)); have GE114 := Aside0.mk ((by rw [hg]; exact (below_size (bl_ HB.out)) : w.heap.size ≤ gb114)); replace HB := Aside0.mk (below_step (bl_ HB.out) hb); clear hb hbox hg; obtain ⟨hcz10_0, hcz10_1, hcz10_2, hcz10_3, hcz10_4, hfz10_0, hfz10_1, hfz10_2, hfz10_3, hfz10_4⟩ := bk5_ BK114.out) | ((with_reducible refine gate_callee (f := 148) rfl ?_); refine goesL_ (some 5) rfl rfl Try.func148 (by kernel_rfl) rfl #[.int .i64 a0_0, .int .i64 0, .int .i64 3] rfl ag_ ?_; (with_reducible refine (spec_l01In.calls a0_0 0 3 true _ A2.out).mono ?_); rintro e w' ⟨rfl, ⟨nd, rfl⟩⟩; refine ⟨_, rfl, ?_⟩) | (go_at_call 110; (with_reducible refine (spec_l15Place.calls a0_1 a0_2 true _ A4.out).mono ?_); rintro e w' ⟨rfl, ⟨nd, rfl⟩⟩) | (go_at_call 148; (with_reducible refine (spec_l01In.calls a0_3 1 (wrap64 (100000 - a0_1)) true _ A6.out).mono ?_); rintro e w' ⟨rfl, ⟨nd, rfl⟩⟩) | (go_at_call 148; (with_reducible refine (spec_l01In.calls a0_4 1 (wrap64 (100000 - a0_2)) t118 _ A8.out).mono ?_); rintro e w' ⟨rfl, ⟨nd, rfl⟩⟩))
 go_ret
 exact ⟨(re_), r3_ HB.out GE114.out⟩
def spec_IsSite.l0 : Nat → List (S83) → Int → Option (Bool)
 | 0, _, _ => none
 | k + 1, x0, x3 => if x3 < (x0.length : Int) then (if 0 ≤ x3 then ((spec_IsArea.f ((rd_T83 x0 x3).f0) ((rd_T83 x0 x3).f1) ((rd_T83 x0 x3).f2) ((rd_T83 x0 x3).f3) ((rd_T83 x0 x3).f4)).bind fun t120 => (if t120 = true then (spec_IsSite.l0 k x0 (wrap64 (x3 + 1))) else (some false))) else (none)) else (some (decide ((x0.length : Int) ≤ 10)))
def spec_IsSite.f (k : Nat) (l0 : List (S83)) : Option (Bool) := spec_IsSite.l0 k l0 0
set_option maxHeartbeats 8000000 in
set_option maxRecDepth 100000 in
theorem spec_IsSite.calls (k : Nat) (A0 : Option Addr) (c0 : Nat) (l0 : List (S83)) (r : Bool) (w : World) (hr0 : Kd.C k83 w A0 l0.length l0) (hc0 : l0.length ≤ c0) (h : spec_IsSite.f k l0 = some r) :
  Calls Try.prog 172 #[.slice A0 l0.length c0] w fun e w' => e = .returned (.bool r) ∧ Below w.heap.size w w' := by
 have hu83 := Try.underlying83
 have HR0 := Aside0.mk hr0
 have HC0 := Aside0.mk hc0
 clear hr0 hc0
 have HB := Aside0.mk (Below.refl w.heap.size w)
 have H : (spec_IsSite.l0 k l0 0) = some r := h
 clear h
 have H' := Aside0.mk H
 clear H
 go_enter Try.func172, Try.ntmps172
 go_wp2
 go_loopg [3] k (fun kq v3 w' => ∃ (x3_1 : Int), v3 = .int .i64 x3_1 ∧ Aside0 (spec_IsSite.l0 kq l0 x3_1 = some r) ∧ Aside0 (kq ≤ k) ∧ Aside0 (Below w.heap.size w w'))
 case atStart => exact ⟨(0), rs_, H', ⟨Nat.le_refl _⟩, ⟨bl_ HB.out⟩⟩
 case round =>
  clear H'
  try clear c1
  obtain ⟨x3_1, rfl, HA, HK1, HB⟩ := hrel
  cases gk with
  | zero => exact absurd HA.out (by simp [spec_IsSite.l0])
  | succ k1 =>
   have H := HA.out
   clear HA
   simp only [spec_IsSite.l0] at H
   by_cases c2 : x3_1 < (l0.length : Int)
   case neg =>
    rw [if_neg c2] at H
    have c2b0 := decide_eq_false c2
    clear c2
    obtain rfl := Option.some.inj H
    go_wp2
    go_ret
    exact ⟨(re_), bl_ HB.out⟩


   rw [if_pos c2] at H
   have c2b0 := decide_eq_true c2
   clear c2
   by_cases c3 : 0 ≤ x3_1
   case neg =>
    rw [if_neg c3] at H
    exact absurd H (by simp)
   rw [if_pos c3] at H
   have c3b0 := decide_eq_true c3
   clear c3
   replace H := Option.bind_eq_some_iff.mp H
   obtain ⟨t120, A40, H⟩ := H
   try dsimp only at H
   have A4 := Aside0.mk A40
   clear A40
   by_cases c5 : t120 = true
   case neg =>
    replace c5 := Bool.eq_false_iff.mpr c5
    subst c5
    rw [if_neg (show ¬ (false = true) by decide)] at H
    obtain rfl := Option.some.inj H
    have p119 : 0 ≤ (x3_1 : Int) := od_
    have q119 : x3_1 < (l0.length : Int) := od_
    obtain ⟨ad119, e119, hx119_0, hx119_1, hx119_2, hx119_3, hx119_4⟩ := at_T83 HR0.out x3_1 p119 q119
    cases e119
    replace hx119_0 := bc_ HB.out hx119_0
    replace hx119_1 := bc_ HB.out hx119_1
    replace hx119_2 := bc_ HB.out hx119_2
    replace hx119_3 := bc_ HB.out hx119_3
    replace hx119_4 := bc_ HB.out hx119_4
    replace p119 := eq_true p119
    replace q119 := eq_true q119
    go_wp2_with (first | ((with_reducible refine gate_callee (f := 159) rfl ?_); refine goesL_ (some 14) rfl rfl Try.func159 (by kernel_rfl) rfl #[.agg #[.int .i64 ((rd_T83 l0 x3_1).f0), .int .i64 ((rd_T83 l0 x3_1).f1), .int .i64 ((rd_T83 l0 x3_1).f2), .int .i64 ((rd_T83 l0 x3_1).f3), .int .i64 ((rd_T83 l0 x3_1).f4)]] rfl ag_ ?_; (with_reducible refine (spec_IsArea.calls ((rd_T83 l0 x3_1).f0) ((rd_T83 l0 x3_1).f1) ((rd_T83 l0 x3_1).f2) ((rd_T83 l0 x3_1).f3) ((rd_T83 l0 x3_1).f4) false _ A4.out).mono ?_); rintro e w7 ⟨rfl, hb⟩; refine ⟨_, rfl, ?_⟩; replace HB := Aside0.mk (below_step (bl_ HB.out) hb); (try clear hb); (try clear hb2); (try clear hk); (try clear hi)))
    go_ret
    exact ⟨(re_), bl_ HB.out⟩
   subst c5
   rw [if_pos rfl] at H
   have H' := Aside0.mk H
   clear H
   have p119 : 0 ≤ (x3_1 : Int) := od_
   have q119 : x3_1 < (l0.length : Int) := od_
   obtain ⟨ad119, e119, hx119_0, hx119_1, hx119_2, hx119_3, hx119_4⟩ := at_T83 HR0.out x3_1 p119 q119
   cases e119
   replace hx119_0 := bc_ HB.out hx119_0
   replace hx119_1 := bc_ HB.out hx119_1
   replace hx119_2 := bc_ HB.out hx119_2
   replace hx119_3 := bc_ HB.out hx119_3
   replace hx119_4 := bc_ HB.out hx119_4
   replace p119 := eq_true p119
   replace q119 := eq_true q119
   go_wp2_with (first | ((with_reducible refine gate_callee (f := 159) rfl ?_); refine goesL_ (some 14) rfl rfl Try.func159 (by kernel_rfl) rfl #[.agg #[.int .i64 ((rd_T83 l0 x3_1).f0), .int .i64 ((rd_T83 l0 x3_1).f1), .int .i64 ((rd_T83 l0 x3_1).f2), .int .i64 ((rd_T83 l0 x3_1).f3), .int .i64 ((rd_T83 l0 x3_1).f4)]] rfl ag_ ?_; (with_reducible refine (spec_IsArea.calls ((rd_T83 l0 x3_1).f0) ((rd_T83 l0 x3_1).f1) ((rd_T83 l0 x3_1).f2) ((rd_T83 l0 x3_1).f3) ((rd_T83 l0 x3_1).f4) true _ A4.out).mono ?_); rintro e w6 ⟨rfl, hb⟩; refine ⟨_, rfl, ?_⟩; replace HB := Aside0.mk (below_step (bl_ HB.out) hb); (try clear hb); (try clear hb2); (try clear hk); (try clear hi)))
   go_roundg k1
   case measure => have := HK1.out; omega
   case rel => exact ⟨(wrap64 (x3_1 + 1)), rs_, H', ⟨by have := HK1.out; omega⟩, ⟨bl_ HB.out⟩⟩
def spec_l15Code.f (k : Nat) (l0 : List (S83)) (a1 : Int) (a2 : Int) (a3 : Int) : Option (Int) := (spec_IsSite.f k l0).bind fun t121 => (if t121 = true then ((spec_l15Place.f a2 a3).bind fun t122 => (if t122 = true then ((spec_l01In.f a1 0 3).bind fun t123 => (if t123 = true then (some 0) else (some 2))) else (some 2))) else (some 1))
set_option maxHeartbeats 8000000 in
set_option maxRecDepth 100000 in
theorem spec_l15Code.calls (k : Nat) (A0 : Option Addr) (c0 : Nat) (l0 : List (S83)) (a1 : Int) (a2 : Int) (a3 : Int) (r : Int) (w : World) (hr0 : Kd.C k83 w A0 l0.length l0) (hc0 : l0.length ≤ c0) (h : spec_l15Code.f k l0 a1 a2 a3 = some r) :
  Calls Try.prog 175 #[.slice A0 l0.length c0, .int .i64 a1, .int .i64 a2, .int .i64 a3] w fun e w' => e = .returned (.int .i64 r) ∧ Below w.heap.size w w' := by
 have HR0 := Aside0.mk hr0
 have HC0 := Aside0.mk hc0
 clear hr0 hc0
 have HB := Aside0.mk (Below.refl w.heap.size w)
 have H : ((spec_IsSite.f k l0).bind fun t121 => (if t121 = true then ((spec_l15Place.f a2 a3).bind fun t122 => (if t122 = true then ((spec_l01In.f a1 0 3).bind fun t123 => (if t123 = true then (some 0) else (some 2))) else (some 2))) else (some 1))) = some r := h
 clear h
 replace H := Option.bind_eq_some_iff.mp H
 obtain ⟨t121, A50, H⟩ := H
 try dsimp only at H
 have A5 := Aside0.mk A50
 clear A50
 by_cases c6 : t121 = true
 case neg =>
  replace c6 := Bool.eq_false_iff.mpr c6
  subst c6
  rw [if_neg (show ¬ (false = true) by decide)] at H
  obtain rfl := Option.some.inj H
  go_enter Try.func175, Try.ntmps175
  go_wp2_with (first | ((with_reducible refine gate_callee (f := 172) rfl ?_); refine goesL_ (some 10) rfl rfl Try.func172 (by kernel_rfl) rfl #[.slice A0 l0.length c0] rfl ag_ ?_; (with_reducible refine (spec_IsSite.calls k _ _ l0 false _ ?side1 ?side2 A5.out).mono ?_); (case side1 => exact r9_ HR0.out); (case side2 => exact HC0.out); rintro e w14 ⟨rfl, hb⟩; refine ⟨_, rfl, ?_⟩; replace HB := Aside0.mk (below_step (bl_ HB.out) hb); (try clear hb); (try clear hb2); (try clear hk); (try clear hi)))
  go_ret
  exact ⟨(re_), bl_ HB.out⟩


 subst c6
 rw [if_pos rfl] at H
 replace H := Option.bind_eq_some_iff.mp H
 obtain ⟨t122, A70, H⟩ := H
 try dsimp only at H
 have A7 := Aside0.mk A70
 clear A70
 by_cases c8 : t122 = true
 case neg =>
  replace c8 := Bool.eq_false_iff.mpr c8
  subst c8
  rw [if_neg (show ¬ (false = true) by decide)] at H
  obtain rfl := Option.some.inj H
  go_enter Try.func175, Try.ntmps175
  go_wp2_with (first | ((with_reducible refine gate_callee (f := 172) rfl ?_); refine goesL_ (some 10) rfl rfl Try.func172 (by kernel_rfl) rfl #[.slice A0 l0.length c0] rfl ag_ ?_; (with_reducible refine (spec_IsSite.calls k _ _ l0 true _ ?side1 ?side2 A5.out).mono ?_); (case side1 => exact r9_ HR0.out); (case side2 => exact HC0.out); rintro e w13 ⟨rfl, hb⟩; refine ⟨_, rfl, ?_⟩; replace HB := Aside0.mk (below_step (bl_ HB.out) hb); (try clear hb); (try clear hb2); (try clear hk); (try clear hi)) | ((with_reducible refine gate_callee (f := 110) rfl ?_); refine goesL_ (some 14) rfl rfl Try.func110 (by kernel_rfl) rfl #[.int .i64 a2, .int .i64 a3] rfl ag_ ?_; (with_reducible refine (spec_l15Place.calls a2 a3 false _ A7.out).mono ?_); rintro e w' ⟨rfl, ⟨nd, rfl⟩⟩; refine ⟨_, rfl, ?_⟩))
  go_ret
  exact ⟨(re_), bl_ HB.out⟩
 subst c8
 rw [if_pos rfl] at H
 replace H := Option.bind_eq_some_iff.mp H
 obtain ⟨t123, A90, H⟩ := H
 try dsimp only at H
 have A9 := Aside0.mk A90
 clear A90
 by_cases c10 : t123 = true
 case pos =>
  subst c10
  rw [if_pos rfl] at H
  obtain rfl := Option.some.inj H
  go_enter Try.func175, Try.ntmps175
  go_wp2_with (first | ((with_reducible refine gate_callee (f := 172) rfl ?_); refine goesL_ (some 10) rfl rfl Try.func172 (by kernel_rfl) rfl #[.slice A0 l0.length c0] rfl ag_ ?_; (with_reducible refine (spec_IsSite.calls k _ _ l0 true _ ?side1 ?side2 A5.out).mono ?_); (case side1 => exact r9_ HR0.out); (case side2 => exact HC0.out); rintro e w11 ⟨rfl, hb⟩; refine ⟨_, rfl, ?_⟩; replace HB := Aside0.mk (below_step (bl_ HB.out) hb); (try clear hb); (try clear hb2); (try clear hk); (try clear hi)) | ((with_reducible refine gate_callee (f := 110) rfl ?_); refine goesL_ (some 14) rfl rfl Try.func110 (by kernel_rfl) rfl #[.int .i64 a2, .int .i64 a3] rfl ag_ ?_; (with_reducible refine (spec_l15Place.calls a2 a3 true _ A7.out).mono ?_); rintro e w' ⟨rfl, ⟨nd, rfl⟩⟩; refine ⟨_, rfl, ?_⟩) | (go_at_call 148; (with_reducible refine (spec_l01In.calls a1 0 3 true _ A9.out).mono ?_); rintro e w' ⟨rfl, ⟨nd, rfl⟩⟩))
  go_ret
  exact ⟨(re_), bl_ HB.out⟩
 replace c10 := Bool.eq_false_iff.mpr c10
 subst c10
 rw [if_neg (show ¬ (false = true) by decide)] at H
 obtain rfl := Option.some.inj H
 go_enter Try.func175, Try.ntmps175
 go_wp2_with (first | ((with_reducible refine gate_callee (f := 172) rfl ?_); refine goesL_ (some 10) rfl rfl Try.func172 (by kernel_rfl) rfl #[.slice A0 l0.length c0] rfl ag_ ?_; (with_reducible refine (spec_IsSite.calls k _ _ l0 true _ ?side1 ?side2 A5.out).mono ?_); (case side1 => exact r9_ HR0.out); (case side2 => exact HC0.out); rintro e w12 ⟨rfl, hb⟩; refine ⟨_, rfl, ?_⟩; replace HB := Aside0.mk (below_step (bl_ HB.out) hb); (try clear hb); (try clear hb2); (try clear hk); (try clear hi)) | ((with_reducible refine gate_callee (f := 110) rfl ?_); refine goesL_ (some 14) rfl rfl Try.func110 (by kernel_rfl) rfl #[.int .i64 a2, .int .i64 a3] rfl ag_ ?_; (with_reducible refine (spec_l15Place.calls a2 a3 true _ A7.out).mono ?_); rintro e w' ⟨rfl, ⟨nd, rfl⟩⟩; refine ⟨_, rfl, ?_⟩) | (go_at_call 148; (with_reducible refine (spec_l01In.calls a1 0 3 false _ A9.out).mono ?_); rintro e w' ⟨rfl, ⟨nd, rfl⟩⟩))
 go_ret
 exact ⟨(re_), bl_ HB.out⟩
def spec_l16Code.f (k : Nat) (l0 : List (S81)) (l1 : List (S83)) (a2 : Int) (a3 : Int) (a4 : Int) : Option (Int) := (spec_IsTable.f k l0).bind fun t124 => (if t124 = true then ((spec_l15Code.f k l1 0 a3 a4).bind fun t125 => (if t125 = 0 then ((spec_l01In.f a2 20 300).bind fun t126 => (if t126 = true then (some t125) else (some 2))) else (some t125))) else (some 1))
set_option maxHeartbeats 8000000 in
set_option maxRecDepth 100000 in
theorem spec_l16Code.calls (k : Nat) (A0 : Option Addr) (c0 : Nat) (l0 : List (S81)) (A1 : Option Addr) (c1 : Nat) (l1 : List (S83)) (a2 : Int) (a3 : Int) (a4 : Int) (r : Int) (w : World) (hr0 : Kd.C k81 w A0 l0.length l0) (hc0 : l0.length ≤ c0) (hr1 : Kd.C k83 w A1 l1.length l1) (hc1 : l1.length ≤ c1) (h : spec_l16Code.f k l0 l1 a2 a3 a4 = some r) :
  Calls Try.prog 109 #[.slice A0 l0.length c0, .slice A1 l1.length c1, .int .i64 a2, .int .i64 a3, .int .i64 a4] w fun e w' => e = .returned (.int .i64 r) ∧ Below w.heap.size w w' := by
 have HR0 := Aside0.mk hr0
 have HC0 := Aside0.mk hc0
 clear hr0 hc0
 have HR1 := Aside0.mk hr1
 have HC1 := Aside0.mk hc1
 clear hr1 hc1
 have HB := Aside0.mk (Below.refl w.heap.size w)
 have H : ((spec_IsTable.f k l0).bind fun t124 => (if t124 = true then ((spec_l15Code.f k l1 0 a3 a4).bind fun t125 => (if t125 = 0 then ((spec_l01In.f a2 20 300).bind fun t126 => (if t126 = true then (some t125) else (some 2))) else (some t125))) else (some 1))) = some r := h
 clear h
 replace H := Option.bind_eq_some_iff.mp H
 obtain ⟨t124, A60, H⟩ := H
 try dsimp only at H
 have A6 := Aside0.mk A60
 clear A60
 by_cases c7 : t124 = true
 case neg =>
  replace c7 := Bool.eq_false_iff.mpr c7
  subst c7
  rw [if_neg (show ¬ (false = true) by decide)] at H
  obtain rfl := Option.some.inj H
  go_enter Try.func109, Try.ntmps109
  go_wp2_with (first | ((with_reducible refine gate_callee (f := 147) rfl ?_); refine goesL_ (some 13) rfl rfl Try.func147 (by kernel_rfl) rfl #[.slice A0 l0.length c0] rfl ag_ ?_; (with_reducible refine (spec_IsTable.calls k _ _ l0 false _ ?side1 ?side2 A6.out).mono ?_); (case side1 => exact r9_ HR0.out); (case side2 => exact HC0.out); rintro e w18 ⟨rfl, hb⟩; refine ⟨_, rfl, ?_⟩; replace HB := Aside0.mk (below_step (bl_ HB.out) hb); (try clear hb); (try clear hb2); (try clear hk); (try clear hi)))
  go_ret
  exact ⟨(re_), bl_ HB.out⟩


 subst c7
 rw [if_pos rfl] at H
 replace H := Option.bind_eq_some_iff.mp H
 obtain ⟨t125, A80, H⟩ := H
 try dsimp only at H
 have A8 := Aside0.mk A80
 clear A80
 by_cases c9 : t125 = 0
 case neg =>
  rw [if_neg c9] at H
  have c9b0 := beq_eq_false_iff_ne.mpr c9
  have c9b1 := bne_iff_ne.mpr c9
  obtain rfl := Option.some.inj H
  go_enter Try.func109, Try.ntmps109
  go_wp2_with (first | ((with_reducible refine gate_callee (f := 147) rfl ?_); refine goesL_ (some 13) rfl rfl Try.func147 (by kernel_rfl) rfl #[.slice A0 l0.length c0] rfl ag_ ?_; (with_reducible refine (spec_IsTable.calls k _ _ l0 true _ ?side1 ?side2 A6.out).mono ?_); (case side1 => exact r9_ HR0.out); (case side2 => exact HC0.out); rintro e w16 ⟨rfl, hb⟩; refine ⟨_, rfl, ?_⟩; replace HB := Aside0.mk (below_step (bl_ HB.out) hb); (try clear hb); (try clear hb2); (try clear hk); (try clear hi)) | ((with_reducible refine gate_callee (f := 175) rfl ?_); refine goesL_ (some 18) rfl rfl Try.func175 (by kernel_rfl) rfl #[.slice A1 l1.length c1, .int .i64 0, .int .i64 a3, .int .i64 a4] rfl ag_ ?_; (with_reducible refine (spec_l15Code.calls k _ _ l1 0 a3 a4 t125 _ ?side1 ?side2 A8.out).mono ?_); (case side1 => exact r7_ HR1.out HB.out); (case side2 => exact HC1.out); rintro e w17 ⟨rfl, hb⟩; refine ⟨_, rfl, ?_⟩; replace HB := Aside0.mk (below_step (bl_ HB.out) hb); (try clear hb); (try clear hb2); (try clear hk); (try clear hi)))
  go_ret
  exact ⟨(re_), bl_ HB.out⟩
 rw [if_pos c9] at H
 have c9b0 := beq_iff_eq.mpr c9
 have c9b1 := bne_eq_false_iff_eq.mpr c9
 clear c9
 replace H := Option.bind_eq_some_iff.mp H
 obtain ⟨t126, A100, H⟩ := H
 try dsimp only at H
 have A10 := Aside0.mk A100
 clear A100
 by_cases c11 : t126 = true
 case pos =>
  subst c11
  rw [if_pos rfl] at H
  obtain rfl := Option.some.inj H
  go_enter Try.func109, Try.ntmps109
  go_wp2_with (first | ((with_reducible refine gate_callee (f := 147) rfl ?_); refine goesL_ (some 13) rfl rfl Try.func147 (by kernel_rfl) rfl #[.slice A0 l0.length c0] rfl ag_ ?_; (with_reducible refine (spec_IsTable.calls k _ _ l0 true _ ?side1 ?side2 A6.out).mono ?_); (case side1 => exact r9_ HR0.out); (case side2 => exact HC0.out); rintro e w12 ⟨rfl, hb⟩; refine ⟨_, rfl, ?_⟩; replace HB := Aside0.mk (below_step (bl_ HB.out) hb); (try clear hb); (try clear hb2); (try clear hk); (try clear hi)) | ((with_reducible refine gate_callee (f := 175) rfl ?_); refine goesL_ (some 18) rfl rfl Try.func175 (by kernel_rfl) rfl #[.slice A1 l1.length c1, .int .i64 0, .int .i64 a3, .int .i64 a4] rfl ag_ ?_; (with_reducible refine (spec_l15Code.calls k _ _ l1 0 a3 a4 t125 _ ?side1 ?side2 A8.out).mono ?_); (case side1 => exact r7_ HR1.out HB.out); (case side2 => exact HC1.out); rintro e w13 ⟨rfl, hb⟩; refine ⟨_, rfl, ?_⟩; replace HB := Aside0.mk (below_step (bl_ HB.out) hb); (try clear hb); (try clear hb2); (try clear hk); (try clear hi)) | (go_at_call 148; (with_reducible refine (spec_l01In.calls a2 20 300 true _ A10.out).mono ?_); rintro e w' ⟨rfl, ⟨nd, rfl⟩⟩))
  go_ret
  exact ⟨(re_), bl_ HB.out⟩
 replace c11 := Bool.eq_false_iff.mpr c11
 subst c11
 rw [if_neg (show ¬ (false = true) by decide)] at H
 obtain rfl := Option.some.inj H
 go_enter Try.func109, Try.ntmps109
 go_wp2_with (first | ((with_reducible refine gate_callee (f := 147) rfl ?_); refine goesL_ (some 13) rfl rfl Try.func147 (by kernel_rfl) rfl #[.slice A0 l0.length c0] rfl ag_ ?_; (with_reducible refine (spec_IsTable.calls k _ _ l0 true _ ?side1 ?side2 A6.out).mono ?_); (case side1 => exact r9_ HR0.out); (case side2 => exact HC0.out); rintro e w14 ⟨rfl, hb⟩; refine ⟨_, rfl, ?_⟩; replace HB := Aside0.mk (below_step (bl_ HB.out) hb); (try clear hb); (try clear hb2); (try clear hk); (try clear hi)) | ((with_reducible refine gate_callee (f := 175) rfl ?_); refine goesL_ (some 18) rfl rfl Try.func175 (by kernel_rfl) rfl #[.slice A1 l1.length c1, .int .i64 0, .int .i64 a3, .int .i64 a4] rfl ag_ ?_; (with_reducible refine (spec_l15Code.calls k _ _ l1 0 a3 a4 t125 _ ?side1 ?side2 A8.out).mono ?_); (case side1 => exact r7_ HR1.out HB.out); (case side2 => exact HC1.out); rintro e w15 ⟨rfl, hb⟩; refine ⟨_, rfl, ?_⟩; replace HB := Aside0.mk (below_step (bl_ HB.out) hb); (try clear hb); (try clear hb2); (try clear hk); (try clear hi)) | (go_at_call 148; (with_reducible refine (spec_l01In.calls a2 20 300 false _ A10.out).mono ?_); rintro e w' ⟨rfl, ⟨nd, rfl⟩⟩))
 go_ret
 exact ⟨(re_), bl_ HB.out⟩
def spec_l15Away.f (a0 : Int) (a1 : Int) (a2 : Int) : Option (Int) := some (mx (mx 0 (wrap64 (a1 - a0))) (wrap64 (a0 - a2)))
set_option maxHeartbeats 8000000 in
set_option maxRecDepth 100000 in
theorem spec_l15Away.calls (a0 : Int) (a1 : Int) (a2 : Int) (r : Int) (w : World) (h : spec_l15Away.f a0 a1 a2 = some r) :
    Calls Try.prog 213 #[.int .i64 a0, .int .i64 a1, .int .i64 a2] w fun e w' => e = .returned (.int .i64 r) ∧ Below w.heap.size w w' := by
  have HB := Aside0.mk (Below.refl w.heap.size w)
  have H : (some (mx (mx 0 (wrap64 (a1 - a0))) (wrap64 (a0 - a2)))) = some r := h
  clear h
  obtain ⟨ji4, hji4⟩ : ∃ j_ : Int, (mx 0 (wrap64 (a1 - a0))) = j_ := ⟨_, rfl⟩
  replace H : (some (mx (ji4) (wrap64 (a0 - a2)))) = some r := by first | (rw [hji4] at H; exact H) | (simp only [hji4] at H ⊢; exact H)
  (try (have hji4l : 0 ≤ ji4 := by (rw [← hji4]; unfold mx; (repeat' split) <;> omega)))
  (try (have hji4m : 0 ≤ ji4 := by omega))
  have hji4_ : (if 0 < (wrap64 (a1 - a0)) then (wrap64 (a1 - a0)) else 0) = ji4 := hji4
  obtain ⟨ji5, hji5⟩ : ∃ j_ : Int, (mx (ji4) (wrap64 (a0 - a2))) = j_ := ⟨_, rfl⟩
  replace H : (some ji5) = some r := by first | (rw [hji5] at H; exact H) | (simp only [hji5] at H ⊢; exact H)
  have hji5_ : (if (ji4) < (wrap64 (a0 - a2)) then (wrap64 (a0 - a2)) else (ji4)) = ji5 := hji5
  obtain rfl := Option.some.inj H
  go_enter Try.func213, Try.ntmps213
  go_wp2
  go_ret
  exact ⟨by first | rfl | (simp [errW_none, errW_some] <;> rfl) | (simp only [← hji4, ← hji5]; first | rfl | (simp [errW_none, errW_some] <;> rfl)) | (simp [*, errW_none, errW_some] <;> rfl), bl_ HB.out⟩
def spec_l15Square.f (a0_0 : Int) (a0_1 : Int) (a0_2 : Int) (a0_3 : Int) (a0_4 : Int) (a1 : Int) (a2 : Int) : Option (Int) := (spec_l15Away.f a1 a0_1 (wrap64 (a0_1 + a0_3))).bind fun t128 => ((spec_l15Away.f a2 a0_2 (wrap64 (a0_2 + a0_4))).bind fun t129 => (some (wrap64 ((wrap64 (t128 * t128)) + (wrap64 (t129 * t129))))))
def spec_l15Square.T1 : Bool × List (List Nat × List Nat) := (true, [([], []), ([], []), ([1], [1]), ([], []), ([3], [3]), ([], []), ([5], [5]), ([4, 6], [4, 6]), ([0, 2, 7], [0, 2, 7]), ([], []), ([], []), ([10], [10]), ([], []), ([12], [12]), ([], []), ([14], [14]), ([13, 15], [13, 15]), ([9, 11, 16, 8], [9, 11, 16]), ([8, 17, 0, 1, 2, 3, 4, 5, 6, 7, 8], [8]), ([17, 18, 0, 1, 2, 3, 4, 5, 6, 7, 8, 9, 10, 11, 12, 13, 14, 15, 16, 17, 18], [17])])
def spec_l15Square.B1 : List Nat := [0, 0, 2, 0, 8, 0, 32, 120, 255, 0, 0, 1024, 0, 4096, 0, 16384, 61440, 131071, 262143, 524287]
theorem spec_l15Square.tab1 : rtab .any (opsOf Try.f176 1) = spec_l15Square.T1 := by kernel_rfl
theorem spec_l15Square.bits1 : waitsOk spec_l15Square.T1.2 spec_l15Square.B1 = true := by kernel_rfl
set_option maxHeartbeats 8000000 in
set_option maxRecDepth 100000 in
theorem spec_l15Square.calls (a0_0 : Int) (a0_1 : Int) (a0_2 : Int) (a0_3 : Int) (a0_4 : Int) (a1 : Int) (a2 : Int) (r : Int) (w : World) (h : spec_l15Square.f a0_0 a0_1 a0_2 a0_3 a0_4 a1 a2 = some r) :
  Calls Try.prog 176 #[.agg #[.int .i64 a0_0, .int .i64 a0_1, .int .i64 a0_2, .int .i64 a0_3, .int .i64 a0_4], .int .i64 a1, .int .i64 a2] w fun e w' => e = .returned (.int .i64 r) ∧ Below w.heap.size w w' := by
 have hu83 := Try.underlying83
 have HB := Aside0.mk (Below.refl w.heap.size w)
 have H : ((spec_l15Away.f a1 a0_1 (wrap64 (a0_1 + a0_3))).bind fun t128 => ((spec_l15Away.f a2 a0_2 (wrap64 (a0_2 + a0_4))).bind fun t129 => (some (wrap64 ((wrap64 (t128 * t128)) + (wrap64 (t129 * t129))))))) = some r := h
 clear h
 replace H := Option.bind_eq_some_iff.mp H
 obtain ⟨t128, A40, H⟩ := H
 try dsimp only at H
 have A4 := Aside0.mk A40
 clear A40
 replace H := Option.bind_eq_some_iff.mp H
 obtain ⟨t129, A50, H⟩ := H
 try dsimp only at H
 have A5 := Aside0.mk A50
 clear A50
 obtain rfl := Option.some.inj H
 go_enter Try.func176, Try.ntmps176
 try go_wp2_with (first | ((with_reducible refine gate_dst (N := 3) rfl ?_); refine box_event ?hg (N := 3) ?hd (cs := #[.int .i64 a0_0, .int .i64 a0_1, .int .i64 a0_2, .int .i64 a0_3, .int .i64 a0_4]) (t := 83) ?hr ?_; (case hd => rfl); (case hg => rfl); (case hr => first | (go_simp; done) | (go_simp; rfl)); intro gb127 hg w6 hbox hb; have BK127 := Aside0.mk (hbox); have GW127 := Aside0.mk ((by rw [hg]; exact (below_size (bl_ HB.out)) : w.heap.size ≤ gb127)); have GE127 := Aside0.mk ((by rw [hg]; exact (below_size (bl_ HB.out)) : w.heap.size ≤ gb127)); replace HB := Aside0.mk (below_step (bl_ HB.out) hb); clear hb hbox hg))
 replace BK127 := Aside0.mk (blk_drew BK127.out)
 replace HB := Aside0.mk (below_drew1 HB.out)
 refine start_ (n := 20) (S := fun w' => w'.cell? ⟨gb127, 0, none⟩ = some (.int .i64 a0_0) ∧ w'.cell? ⟨gb127, 1, none⟩ = some (.int .i64 a0_1) ∧ w'.cell? ⟨gb127, 2, none⟩ = some (.int .i64 a0_2) ∧ w'.cell? ⟨gb127, 3, none⟩ = some (.int .i64 a0_3) ∧ w'.cell? ⟨gb127, 4, none⟩ = some (.int .i64 a0_4)) (ds := []) #[f_,f_,f_,f_,f_,f_,f_,f_,f_,f_,f_,f_,f_,f_,f_,f_,f_,f_,f_,f_] (by kernel_rfl) rfl rfl ⟨(blk_cell BK127.out 0).trans rfl, (blk_cell BK127.out 1).trans rfl, (blk_cell BK127.out 2).trans rfl, (blk_cell BK127.out 3).trans rfl, (blk_cell BK127.out 4).trans rfl⟩ (fun hHeld => ?_); refine with_tabW spec_l15Square.tab1 spec_l15Square.bits1 (fun HT_ HW_ => ?_)
 generalize w6.drew = w7 at BK127 HB hHeld ⊢
 refine pv_ 0 9 HT_.out ?_
 refine pv_ 1 10 HT_.out ?_
 refine pv_ 3 12 HT_.out ?_
 refine pv_ 5 14 HT_.out ?_
 refine pv_ 9 18 HT_.out ?_
 refine pv_ 10 19 HT_.out ?_
 refine pv_ 12 21 HT_.out ?_
 refine pv_ 14 23 HT_.out ?_
 refine tv5_ 2 11 HT_.out HW_.out hHeld ?_
 refine tv5_ 4 13 HT_.out HW_.out hHeld ?_
 refine tv5_ 6 15 HT_.out HW_.out hHeld ?_
 refine pv_ 7 16 HT_.out ?_
 refine tv5_ 11 20 HT_.out HW_.out hHeld ?_
 refine tv5_ 13 22 HT_.out HW_.out hHeld ?_
 refine tv5_ 15 24 HT_.out HW_.out hHeld ?_
 refine pu_ 16 25 #[t_,t_,t_,t_,t_,t_,t_,t_,f_,t_,t_,t_,t_,t_,t_,t_,t_,f_,f_,f_] HT_.out ?_
 refine one_ (i := 8) (N := some 17) #[t_,t_,t_,t_,t_,t_,t_,t_,t_,t_,t_,t_,t_,t_,t_,t_,t_,f_,f_,f_] rfl rfl (one_of HT_.out (by kernel_rfl)) (by decide) (fun K hK => ?_)
 refine goes_ Try.func213 (by kernel_rfl) rfl #[.int .i64 a1, .int .i64 a0_1, .int .i64 (wrap64 (a0_1 + a0_3))] (by rfl) rfl rfl ag_ ?_
 with_reducible refine (spec_l15Away.calls a1 a0_1 (wrap64 (a0_1 + a0_3)) t128 _ A4.out).mono ?_
 rintro e w8 ⟨rfl, hb⟩
 refine ⟨_, rfl, ?_⟩
 replace BK127 := Aside0.mk (blk_below (g := gb127) (o := .cells #[.int .i64 a0_0, .int .i64 a0_1, .int .i64 a0_2, .int .i64 a0_3, .int .i64 a0_4] 83 (0, 0)) (r5_ BK127.out) hb)
 replace HB := Aside0.mk (below_step (r3_ HB.out GE127.out) hb)
 (try clear hb)
 (try clear hb2)
 (try clear hk)
 (try clear hi)
 refine hK.out _ _ ⟨(blk_cell BK127.out 0).trans rfl, (blk_cell BK127.out 1).trans rfl, (blk_cell BK127.out 2).trans rfl, (blk_cell BK127.out 3).trans rfl, (blk_cell BK127.out 4).trans rfl⟩ (fun hHeld => ?_)
 clear hK K
 refine norm_ (a' := ?_) ?_ ?_
 rotate_left
 ·show Act.put _ (some 17) _ = _
  simp only [pz_]
  rfl
 refine one_ (i := 17) (N := some 26) #[t_,t_,t_,t_,t_,t_,t_,t_,t_,t_,t_,t_,t_,t_,t_,t_,t_,t_,f_,f_] rfl rfl (one_of HT_.out (by kernel_rfl)) (by decide) (fun K hK => ?_)
 refine goes_ Try.func213 (by kernel_rfl) rfl #[.int .i64 a2, .int .i64 a0_2, .int .i64 (wrap64 (a0_2 + a0_4))] (by rfl) rfl rfl ag_ ?_
 with_reducible refine (spec_l15Away.calls a2 a0_2 (wrap64 (a0_2 + a0_4)) t129 _ A5.out).mono ?_
 rintro e w9 ⟨rfl, hb⟩
 refine ⟨_, rfl, ?_⟩
 replace BK127 := Aside0.mk (blk_below (g := gb127) (o := .cells #[.int .i64 a0_0, .int .i64 a0_1, .int .i64 a0_2, .int .i64 a0_3, .int .i64 a0_4] 83 (0, 0)) (r5_ BK127.out) hb)
 replace HB := Aside0.mk (below_step (r3_ HB.out GE127.out) hb)
 (try clear hb)
 (try clear hb2)
 (try clear hk)
 (try clear hi)
 refine hK.out _ _ ⟨(blk_cell BK127.out 0).trans rfl, (blk_cell BK127.out 1).trans rfl, (blk_cell BK127.out 2).trans rfl, (blk_cell BK127.out 3).trans rfl, (blk_cell BK127.out 4).trans rfl⟩ (fun hHeld => ?_)
 clear hK K
 refine norm_ (a' := ?_) ?_ ?_
 rotate_left
 ·show Act.put _ (some 26) _ = _
  simp only [pz_]
  rfl
 refine pv_ 18 7 HT_.out ?_
 refine pu_ 19 8 #[t_,t_,t_,t_,t_,t_,t_,t_,t_,t_,t_,t_,t_,t_,t_,t_,t_,t_,t_,t_] HT_.out ?_
 refine done_ (done_of HT_.out (by kernel_rfl)) ?_
 try go_wp2
 go_ret
 exact ⟨(re_), r3_ HB.out GE127.out⟩
def spec_l16Distance.l0 : Nat → List (S81) → Int → Int → Int → Int → Option (Int)
 | 0, _, _, _, _, _ => none
 | k + 1, x0, x1, x2, x7, x8 => if x8 < (x0.length : Int) then (if 0 ≤ x8 then (if ((rd_T81 x0 x8).f0) = x2 then (if ((rd_T81 x0 x8).f1) ≥ x1 then (some ((rd_T81 x0 x8).f2)) else (spec_l16Distance.l0 k x0 x1 x2 (-1) (wrap64 (x8 + 1)))) else (spec_l16Distance.l0 k x0 x1 x2 x7 (wrap64 (x8 + 1)))) else (none)) else (some x7)
def spec_l16Distance.f (k : Nat) (l0 : List (S81)) (a1 : Int) (a2 : Int) : Option (Int) := spec_l16Distance.l0 k l0 a1 a2 0 0
set_option maxHeartbeats 8000000 in
set_option maxRecDepth 100000 in
theorem spec_l16Distance.calls (k : Nat) (A0 : Option Addr) (c0 : Nat) (l0 : List (S81)) (a1 : Int) (a2 : Int) (r : Int) (w : World) (hr0 : Kd.C k81 w A0 l0.length l0) (hc0 : l0.length ≤ c0) (h : spec_l16Distance.f k l0 a1 a2 = some r) :
  Calls Try.prog 198 #[.slice A0 l0.length c0, .int .i64 a1, .int .i64 a2] w fun e w' => e = .returned (.int .i64 r) ∧ Drawn0 w w' := by
 have HR0 := Aside0.mk hr0
 have HC0 := Aside0.mk hc0
 clear hr0 hc0
 have H : (spec_l16Distance.l0 k l0 a1 a2 0 0) = some r := h
 clear h
 have H' := Aside0.mk H
 clear H
 go_enter Try.func198, Try.ntmps198
 go_wp2
 go_loopg [7, 8] k (fun kq v7 v8 w' => ∃ (x7_1 : Int) (x8_1 : Int), v7 = .int .i64 x7_1 ∧ v8 = .int .i64 x8_1 ∧ Aside0 (spec_l16Distance.l0 kq l0 a1 a2 x7_1 x8_1 = some r) ∧ Aside0 (kq ≤ k) ∧ Drawn0 w w')
 case atStart => exact ⟨(0), (0), rs_, rs_, H', ⟨Nat.le_refl _⟩, by repeat (first | exact Drawn0.refl _ | apply Drawn0.step)⟩
 case round =>
  clear H'
  try clear c1
  try clear p2
  obtain ⟨x7_1, x8_1, rfl, rfl, HA, HK1, ⟨m1, rfl⟩⟩ := hrel
  cases gk with
  | zero => exact absurd HA.out (by simp [spec_l16Distance.l0])
  | succ k1 =>
   have H := HA.out
   clear HA
   simp only [spec_l16Distance.l0] at H
   by_cases c4 : x8_1 < (l0.length : Int)
   case neg =>
    rw [if_neg c4] at H
    have c4b0 := decide_eq_false c4
    clear c4
    obtain rfl := Option.some.inj H
    go_wp2
    go_ret
    exact ⟨by first | rfl | (simp; done) | (simp [*]; done), by repeat (first | exact Drawn0.refl _ | apply Drawn0.step)⟩


   rw [if_pos c4] at H
   have c4b0 := decide_eq_true c4
   clear c4
   by_cases c5 : 0 ≤ x8_1
   case neg =>
    rw [if_neg c5] at H
    exact absurd H (by simp)
   rw [if_pos c5] at H
   have c5b0 := decide_eq_true c5
   clear c5
   by_cases c6 : ((rd_T81 l0 x8_1).f0) = a2
   case neg =>
    rw [if_neg c6] at H
    have c6b0 := beq_eq_false_iff_ne.mpr c6
    have c6b1 := bne_iff_ne.mpr c6
    have H' := Aside0.mk H
    clear H
    have p130 : 0 ≤ (x8_1 : Int) := od_
    have q130 : x8_1 < (l0.length : Int) := od_
    obtain ⟨ad130, e130, hx130_0, hx130_1, hx130_2⟩ := at_T81 HR0.out x8_1 p130 q130
    cases e130
    replace p130 := eq_true p130
    replace q130 := eq_true q130
    go_wp2
    go_roundg k1
    case measure => have := HK1.out; omega
    case rel => exact ⟨(x7_1), (wrap64 (x8_1 + 1)), rs_, rs_, H', ⟨by have := HK1.out; omega⟩, by repeat (first | exact Drawn0.refl _ | apply Drawn0.step)⟩
   rw [if_pos c6] at H
   have c6b0 := beq_iff_eq.mpr c6
   have c6b1 := bne_eq_false_iff_eq.mpr c6
   clear c6
   by_cases c7 : ((rd_T81 l0 x8_1).f1) ≥ a1
   case neg =>
    rw [if_neg c7] at H
    have c7b0 : decide (a1 ≤ ((rd_T81 l0 x8_1).f1)) = false := decide_eq_false c7
    clear c7
    have H' := Aside0.mk H
    clear H
    have p130 : 0 ≤ (x8_1 : Int) := od_
    have q130 : x8_1 < (l0.length : Int) := od_
    obtain ⟨ad130, e130, hx130_0, hx130_1, hx130_2⟩ := at_T81 HR0.out x8_1 p130 q130
    cases e130
    replace p130 := eq_true p130
    replace q130 := eq_true q130
    have p131 : 0 ≤ (x8_1 : Int) := od_
    have q131 : x8_1 < (l0.length : Int) := od_
    obtain ⟨ad131, e131, hx131_0, hx131_1, hx131_2⟩ := at_T81 HR0.out x8_1 p131 q131
    obtain rfl : ad130 = ad131 := (by injection e131)
    replace p131 := eq_true p131
    replace q131 := eq_true q131
    go_wp2
    go_roundg k1
    case measure => have := HK1.out; omega
    case rel => exact ⟨((-1)), (wrap64 (x8_1 + 1)), rs_, rs_, H', ⟨by have := HK1.out; omega⟩, by repeat (first | exact Drawn0.refl _ | apply Drawn0.step)⟩
   rw [if_pos c7] at H
   have c7b0 : decide (a1 ≤ ((rd_T81 l0 x8_1).f1)) = true := decide_eq_true c7
   clear c7
   obtain rfl := Option.some.inj H
   have p130 : 0 ≤ (x8_1 : Int) := od_
   have q130 : x8_1 < (l0.length : Int) := od_
   obtain ⟨ad130, e130, hx130_0, hx130_1, hx130_2⟩ := at_T81 HR0.out x8_1 p130 q130
   cases e130
   replace p130 := eq_true p130
   replace q130 := eq_true q130
   have p131 : 0 ≤ (x8_1 : Int) := od_
   have q131 : x8_1 < (l0.length : Int) := od_
   obtain ⟨ad131, e131, hx131_0, hx131_1, hx131_2⟩ := at_T81 HR0.out x8_1 p131 q131
   obtain rfl : ad130 = ad131 := (by injection e131)
   replace p131 := eq_true p131
   replace q131 := eq_true q131
   have p132 : 0 ≤ (x8_1 : Int) := od_
   have q132 : x8_1 < (l0.length : Int) := od_
   obtain ⟨ad132, e132, hx132_0, hx132_1, hx132_2⟩ := at_T81 HR0.out x8_1 p132 q132
   obtain rfl : ad130 = ad132 := (by injection e132)
   replace p132 := eq_true p132
   replace q132 := eq_true q132
   go_wp2
   go_ret
   exact ⟨by first | rfl | (simp; done) | (simp [*]; done), by repeat (first | exact Drawn0.refl _ | apply Drawn0.step)⟩
end Go.Proofs.Ytedcdhnbceaaeaa.PFnTables
