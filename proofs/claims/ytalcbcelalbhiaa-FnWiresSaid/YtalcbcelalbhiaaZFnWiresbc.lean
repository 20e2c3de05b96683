/- QFnWiresf of the law FnWires: taken over, declaration by declaration, as far as the law leans on it (the words and the printed functions are the kit's own print). No condition but what each says. -/
import Derived.Test.YtalcbcelalbhiaaZFnWiresav
import Derived.Test.YtalcbcelalbhiaaZFnWiresaw
import Derived.Test.YtalcbcelalbhiaaZFnWiresax
import Derived.Test.YtalcbcelalbhiaaZFnWiresbb
namespace Go.Proofs.Ytalcbcelalbhiaa.PFnWires
open Go.RowKit Go.Proofs.YtalcbcelalbhiaaW.PrintWords Go.Proofs.YtalcbcelalbhiaaW.PrintLast Go.Proofs.YtalcbcelalbhiaaW.PrintMore
attribute [local go_sem] max2_int min2_int max_two min_two max_three min_three max_four min_four   -- for this text's walks alone
set_option linter.unusedVariables false
set_option linter.unusedSimpArgs false
open Bool renaming true → t_, false → f_
def spec_l01From.l0 : Nat → List Int → Int → List Int → Int → Int → Option (List Int × Int × Int)
 | 0, _, _, _, _, _ => none
 | k + 1, x0, x4, x260000, x260001, x260002 => if x4 < (x0.length : Int) then (if x4 < 64 then (if 0 ≤ x4 then (spec_l01From.l0 k x0 (wrap64 (x4 + 1)) x260000 x260001 (Int.tmod (wrap64 ((wrap64 (x260002 * 83)) + (wrap64 (rd x0 x4)))) 2147483647)) else (none)) else (some (x260000, x260001, x260002))) else (some (x260000, x260001, x260002))
def spec_l01From.f (k : Nat) (l0 : List Int) : Option (List Int × Int × Int) := spec_l01From.l0 k l0 0 l0 0 61043
theorem spec_l01From.mono_l : ∀ k, (∀ y0 y1 y2 y3 y4, LeO (spec_l01From.l0 k y0 y1 y2 y3 y4) (spec_l01From.l0 (k + 1) y0 y1 y2 y3 y4))
 | 0 => fun _ _ _ _ _ r h => by simp [spec_l01From.l0] at h
 | k + 1 => by
  have ih0 := spec_l01From.mono_l k
  ·intro y0 y1 y2 y3 y4
   unfold spec_l01From.l0
   repeat' first
   | (with_reducible exact ih0 _ _ _ _ _)
   | (with_reducible exact LeO.refl _)
   | (with_reducible exact LeO.none _)
   | (with_reducible refine LeO.ite ?_ ?_)
   | (with_reducible refine LeO.bind ?_ (fun _ => ?_))
   | exact ih0 _ _ _ _ _
   | exact LeO.none _
   | refine LeO.ite ?_ ?_
   | refine LeO.bind ?_ (fun _ => ?_)
theorem spec_l01From.mono : ∀ a0 k, LeO (spec_l01From.f k a0) (spec_l01From.f (k + 1) a0) := by
 intro a0 k
 have ih0 := spec_l01From.mono_l k
 unfold spec_l01From.f
 repeat' first
   | (with_reducible exact ih0 _ _ _ _ _)
   | (with_reducible exact LeO.refl _)
   | (with_reducible exact LeO.none _)
   | (with_reducible refine LeO.ite ?_ ?_)
   | (with_reducible refine LeO.bind ?_ (fun _ => ?_))
   | exact ih0 _ _ _ _ _
   | exact LeO.none _
   | refine LeO.ite ?_ ?_
   | refine LeO.bind ?_ (fun _ => ?_)
def spec_l01From.T5 : Bool × List (List Nat × List Nat) := (true, [([], []), ([], []), ([1], [1]), ([2], [2]), ([3], [3]), ([4], [4]), ([], []), ([], []), ([6, 7], [6, 7]), ([8], [8]), ([9], [9]), ([5, 10], [5, 10]), ([11], [11]), ([0, 0, 1, 2, 3, 4, 5, 6, 7, 8, 9, 10, 11, 12], [0]), ([13, 0, 1, 2, 3, 4, 5, 6, 7, 8, 9, 10, 11, 12], [13]), ([14, 12, 0, 1, 2, 3, 4, 5, 6, 7, 8, 9, 10, 11, 12], [12, 14])])
def spec_l01From.B5 : List Nat := [0, 0, 2, 6, 14, 30, 0, 0, 192, 448, 960, 2046, 4094, 8191, 16383, 32767]
theorem spec_l01From.tab5 : rtab .any (opsOf Try.f113 5) = spec_l01From.T5 := by kernel_rfl
theorem spec_l01From.bits5 : waitsOk spec_l01From.T5.2 spec_l01From.B5 = true := by kernel_rfl
set_option maxHeartbeats 8000000 in
set_option maxRecDepth 100000 in
theorem spec_l01From.calls (k : Nat) (A0 : Option Addr) (c0 : Nat) (l0 : List Int) (r1 : List Int) (r2 : Int) (r3 : Int) (w0 w : World) (hB : Below w0.heap.size w0 w) (hr0 : Kd.C (Kd.int .u8) w0 A0 l0.length l0) (hc0 : l0.length ≤ c0) (h : spec_l01From.f k l0 = some (r1, r2, r3)) :
  Calls Try.prog 113 #[.slice A0 l0.length c0] w fun e w' => ∃ g_ : Nat, e = .returned (.pointer (some ⟨g_, 0, none⟩)) ∧ IsS167 w0 w' g_ r1 r2 r3 ∧ Below w0.heap.size w0 w' ∧ Below w.heap.size w w' := by
 have hu167 := Try.underlying167
 have HR0 := Aside0.mk hr0
 have HC0 := Aside0.mk hc0
 clear hr0 hc0
 have HBW := Aside0.mk (Below.refl w.heap.size w)
 have HW0 := Aside0.mk hB.size
 have HB := Aside0.mk hB
 clear hB
 have H : (spec_l01From.l0 k l0 0 l0 0 61043) = some (r1, r2, r3) := h
 clear h
 have H' := Aside0.mk H
 clear H
 go_enter Try.func113, Try.ntmps113
 go_wp2_with (first | ((with_reducible refine gate_dst (N := 7) rfl ?_); refine box_event ?hg (N := 7) ?hd (cs := #[.slice A0 l0.length c0, .int .i64 0, .int .i64 61043]) (t := 167) ?hr ?_; (case hd => rfl); (case hg => rfl); (case hr => first | (go_simp; done) | (go_simp; rfl)); intro gb259 hg w2 hbox hb; have n0_ := Aside0.mk (below_step HBW.out hb); have n1_ := Aside0.mk (below_step (bl_ HB.out) hb); have n2_ := Aside0.mk (hbox); have n3_ := Aside0.mk ((by rw [hg]; exact (below_size (r13_ HBW.out)) : w.heap.size ≤ gb259)); have n4_ := Aside0.mk ((Nat.le_trans HW0.out (by rw [hg]; exact (below_size (r13_ HBW.out)) : w.heap.size ≤ gb259) : w0.heap.size ≤ gb259)); clear HBW; clear HB; have HBW := n0_; have HB := n1_; have BK259 := n2_; have GW259 := n3_; have GE259 := n4_; clear n0_ n1_ n2_ n3_ n4_; clear hb hbox hg))
 go_loopg [4] k (fun kq v4 w' => ∃ (x4_1 : Int) (x260002_1 : Int), v4 = .int .i64 x4_1 ∧ Aside0 (spec_l01From.l0 kq l0 x4_1 l0 0 x260002_1 = some (r1, r2, r3)) ∧ Aside0 (kq ≤ k) ∧ Aside0 (w'.heap[gb259]? = some (.cells #[(.slice A0 l0.length c0), .int .i64 0, .int .i64 x260002_1] 167 (0, 0))) ∧ Aside0 (Below w0.heap.size w0 w') ∧ Aside0 (Below w.heap.size w w'))
 case atStart => exact ⟨(0), (61043), (by first | rfl | (simp; done) | (simp [*]; done)), H', ⟨Nat.le_refl _⟩, ⟨r1_ BK259.out⟩, ⟨r4_ HB.out GE259.out⟩, ⟨r4_ HBW.out GW259.out⟩⟩
 case round =>
  clear H'
  try clear c1
  try clear p2
  obtain ⟨x4_1, x260002_1, rfl, HA, HK1, BK259, HB, HBW⟩ := hrel
  cases gk with
  | zero => exact absurd HA.out (by simp [spec_l01From.l0])
  | succ k1 =>
   have H := HA.out
   clear HA
   simp only [spec_l01From.l0] at H
   by_cases c3 : x4_1 < (l0.length : Int)
   ·rw [if_pos c3] at H
    have c3b0 : decide (x4_1 < (l0.length : Int)) = true := decide_eq_true c3
    clear c3
    by_cases c4 : x4_1 < 64
    ·rw [if_pos c4] at H
     have c4b0 : decide (x4_1 < 64) = true := decide_eq_true c4
     clear c4
     by_cases c5 : 0 ≤ x4_1
     case neg =>
      rw [if_neg c5] at H
      exact absurd H (by simp)
     rw [if_pos c5] at H
     have c5b0 : decide (0 ≤ x4_1) = true := decide_eq_true c5
     clear c5
     have H' := Aside0.mk H
     clear H
     try go_wp2
     have n0_ := Aside0.mk (blk_drew BK259.out)
     have nw_ := Aside0.mk (below_drew1 HBW.out)
     clear HBW
     have HBW := nw_
     clear nw_
     have n1_ := Aside0.mk (below_drew1 HB.out)
     clear BK259
     clear HB
     have BK259 := n0_
     have HB := n1_
     clear n0_ n1_
     have p260 : 0 ≤ (x4_1 : Int) := od_
     have q260 : x4_1 < (l0.length : Int) := od_
     obtain ⟨ad260, e260, hx260_0⟩ := Kd.at_int HR0.out x4_1 p260 q260
     have hw260_0 := hx260_0
     cases e260
     replace hx260_0 := pw_cell_below HB.out hx260_0
     replace p260 := eq_true p260
     replace q260 := eq_true q260
     refine start_ (n := 16) (S := fun w' => w'.cell? ⟨gb259, 0, none⟩ = some (.slice (some ad260) l0.length c0) ∧ w'.cell? ⟨gb259, 1, none⟩ = some (.int .i64 0) ∧ w'.cell? ⟨gb259, 2, none⟩ = some (.int .i64 x260002_1) ∧ w'.cell? (ad260.add (x4_1).toNat) = some (.int .u8 (rd l0 x4_1))) (ds := [15]) #[f_,f_,f_,f_,f_,f_,f_,f_,f_,f_,f_,f_,f_,f_,f_,f_] (by kernel_rfl) rfl rfl ⟨(blk_cell BK259.out 0).trans rfl, (blk_cell BK259.out 1).trans rfl, (blk_cell BK259.out 2).trans rfl, ((HB.out.cell (World.block_lt_of_cell? w0 _ hw260_0)).trans hw260_0)⟩ (fun hHeld => ?_); refine with_tabW spec_l01From.tab5 spec_l01From.bits5 (fun HT_ HW_ => ?_)
     generalize wr.drew = w6 at BK259 HB HBW hx260_0 hHeld ⊢
     refine pu_ 0 18 #[t_,f_,f_,f_,f_,f_,f_,f_,f_,f_,f_,f_,f_,f_,f_,f_] HT_.out ?_
     refine pu_ 1 19 #[t_,t_,f_,f_,f_,f_,f_,f_,f_,f_,f_,f_,f_,f_,f_,f_] HT_.out ?_
     refine pu_ 2 20 #[t_,t_,t_,f_,f_,f_,f_,f_,f_,f_,f_,f_,f_,f_,f_,f_] HT_.out ?_
     refine pu_ 3 21 #[t_,t_,t_,t_,f_,f_,f_,f_,f_,f_,f_,f_,f_,f_,f_,f_] HT_.out ?_
     refine pu_ 6 24 #[t_,t_,t_,t_,f_,f_,t_,f_,f_,f_,f_,f_,f_,f_,f_,f_] HT_.out ?_
     refine pu_ 7 25 #[t_,t_,t_,t_,f_,f_,t_,t_,f_,f_,f_,f_,f_,f_,f_,f_] HT_.out ?_
     refine pu_ 8 26 #[t_,t_,t_,t_,f_,f_,t_,t_,t_,f_,f_,f_,f_,f_,f_,f_] HT_.out ?_
     refine take_ (i := 4) (N := some 22) (v := ?_) (a' := ?_) #[t_,t_,t_,t_,t_,f_,t_,t_,t_,f_,f_,f_,f_,f_,f_,f_] rfl rfl (take_ofW HT_.out HW_.out (by kernel_rfl)) (fun _ _ _ h => h) (Or.inl ⟨by rfl, ?_⟩) hHeld ?_ ?_
     rotate_left
     ·rintro w' ⟨s0, s1, s2, s3⟩
      go_simp
      with_reducible rfl
     rotate_left
     ·simp only [pz_]
      rfl
     refine pu_ 5 23 #[t_,t_,t_,t_,t_,t_,t_,t_,t_,f_,f_,f_,f_,f_,f_,f_] HT_.out ?_
     refine take_ (i := 9) (N := some 27) (v := ?_) (a' := ?_) #[t_,t_,t_,t_,t_,t_,t_,t_,t_,t_,f_,f_,f_,f_,f_,f_] rfl rfl (take_ofW HT_.out HW_.out (by kernel_rfl)) (fun _ _ _ h => h) (Or.inl ⟨by rfl, ?_⟩) hHeld ?_ ?_
     rotate_left
     ·rintro w' ⟨s0, s1, s2, s3⟩
      go_simp
      with_reducible rfl
     rotate_left
     ·simp only [pz_]
      rfl
     refine pu_ 10 28 #[t_,t_,t_,t_,t_,t_,t_,t_,t_,t_,t_,f_,f_,f_,f_,f_] HT_.out ?_
     refine pu_ 11 29 #[t_,t_,t_,t_,t_,t_,t_,t_,t_,t_,t_,t_,f_,f_,f_,f_] HT_.out ?_
     refine pu_ 12 30 #[t_,t_,t_,t_,t_,t_,t_,t_,t_,t_,t_,t_,t_,f_,f_,f_] HT_.out ?_
     refine pu_ 13 31 #[t_,t_,t_,t_,t_,t_,t_,t_,t_,t_,t_,t_,t_,t_,f_,f_] HT_.out ?_
     refine pu_ 14 32 #[t_,t_,t_,t_,t_,t_,t_,t_,t_,t_,t_,t_,t_,t_,t_,f_] HT_.out ?_
     refine last_ (i := 15) (N := none) #[t_,t_,t_,t_,t_,t_,t_,t_,t_,t_,t_,t_,t_,t_,t_,t_] rfl rfl (one_of HT_.out (by kernel_rfl)) (by decide) (fun K hK => ?_)
     have hs7 : w6.cell? ⟨gb259, 2, none⟩ = some (.int .i64 x260002_1) := (blk_cell BK259.out 2).trans rfl
     have hfs7 := blk_frozen BK259.out 2
     refine skip_ (w1 := ?_) (by rfl) rfl ?_ ?_
     rotate_left
     ·go_simp
      rfl
     refine hK.out _ _ ?_
     clear hK K
     refine done_ (done_of HT_.out (by kernel_rfl)) ?_
     try go_wp2
     go_roundg k1
     case measure => have := HK1.out; omega
     case rel => exact ⟨(wrap64 (x4_1 + 1)), (Int.tmod (wrap64 ((wrap64 (x260002_1 * 83)) + (wrap64 (rd l0 x4_1)))) 2147483647), (by first | rfl | (simp; done) | (simp [*]; done)), H', ⟨by have := HK1.out; omega⟩, ⟨by (with_reducible repeat (first | refine blk_drewN ?_ _ | refine blk_drew ?_ | refine blk_alloc ?_ _)); refine blk_put (cs := #[.slice (some ad260) l0.length c0, .int .i64 0, .int .i64 x260002_1]) ?_ 2 _ rfl; (with_reducible repeat (first | refine blk_drewN ?_ _ | refine blk_drew ?_ | refine blk_alloc ?_ _)); exact BK259.out⟩, ⟨r4_ HB.out GE259.out⟩, ⟨r4_ HBW.out GW259.out⟩⟩
    ·rw [if_neg c4] at H
     have c4b0 : decide (x4_1 < 64) = false := decide_eq_false c4
     clear c4
     simp only [Option.some.injEq, Prod.mk.injEq] at H
     obtain ⟨rfl, rfl, rfl⟩ := H
     go_wp2
     go_ret
     exact ⟨_, rfl, (show IsS167 w0 _ gb259 l0 0 x260002_1 from ⟨_, _, r1_ BK259.out, GE259.out, HR0.out⟩), r4_ HB.out GE259.out, r4_ HBW.out GW259.out⟩
   ·rw [if_neg c3] at H
    have c3b0 : decide (x4_1 < (l0.length : Int)) = false := decide_eq_false c3
    clear c3
    simp only [Option.some.injEq, Prod.mk.injEq] at H
    obtain ⟨rfl, rfl, rfl⟩ := H
    go_wp2
    go_ret
    exact ⟨_, rfl, (show IsS167 w0 _ gb259 l0 0 x260002_1 from ⟨_, _, r1_ BK259.out, GE259.out, HR0.out⟩), r4_ HB.out GE259.out, r4_ HBW.out GW259.out⟩
def spec_l01Next.f (s0_0 : List Int) (s0_1 : Int) (s0_2 : Int) (a1 : Int) : Option (Int × Int × Int) := if a1 ≤ 1 then (some (0, s0_1, s0_2)) else (if s0_1 < (s0_0.length : Int) then (if 0 ≤ s0_1 then (if a1 ≤ 256 then (if (Int.tmod (wrap64 (s0_1 + 1)) 2) = 0 then (if 0 ≤ (wrap64 ((wrap64 (s0_1 + 1)) - 1)) then (if (wrap64 ((wrap64 (s0_1 + 1)) - 1)) < (s0_0.length : Int) then (if a1 = 0 then (none) else (some (Int.tmod (wrap64 (rd s0_0 (wrap64 ((wrap64 (s0_1 + 1)) - 1)))) a1, wrap64 (s0_1 + 1), Int.tmod (wrap64 ((wrap64 (s0_2 * 48271)) + 29)) 2147483647))) else (none)) else (none)) else (if a1 = 0 then (none) else (some (Int.tmod (wrap64 ((wrap64 (Int.tdiv (Int.tmod (wrap64 ((wrap64 (s0_2 * 48271)) + 29)) 2147483647) 31)) + (wrap64 (rd s0_0 s0_1)))) a1, wrap64 (s0_1 + 1), Int.tmod (wrap64 ((wrap64 (s0_2 * 48271)) + 29)) 2147483647)))) else (if a1 = 0 then (none) else (some (Int.tmod (wrap64 ((wrap64 (Int.tdiv (Int.tmod (wrap64 ((wrap64 (s0_2 * 48271)) + 29)) 2147483647) 31)) + (wrap64 (rd s0_0 s0_1)))) a1, wrap64 (s0_1 + 1), Int.tmod (wrap64 ((wrap64 (s0_2 * 48271)) + 29)) 2147483647)))) else (none)) else (if a1 = 0 then (none) else (some (Int.tmod (wrap64 (Int.tdiv (Int.tmod (wrap64 ((wrap64 (s0_2 * 48271)) + 29)) 2147483647) 31)) a1, s0_1, Int.tmod (wrap64 ((wrap64 (s0_2 * 48271)) + 29)) 2147483647))))
set_option maxHeartbeats 8000000 in
set_option maxRecDepth 100000 in
theorem spec_l01Next.calls (g : Nat) (s0_0 : List Int) (s0_1 : Int) (s0_2 : Int) (a1 : Int) (r1 : Int) (r2 : Int) (r3 : Int) (w0 w : World) (hI : IsS167 w0 w g s0_0 s0_1 s0_2) (hB : Below w0.heap.size w0 w) (h : spec_l01Next.f s0_0 s0_1 s0_2 a1 = some (r1, r2, r3)) :
  Calls Try.prog 119 #[.pointer (some ⟨g, 0, none⟩), .int .i64 a1] w fun e w' => e = .returned (.int .i64 r1) ∧ IsS167 w0 w' g s0_0 r2 r3 ∧ Below w0.heap.size w0 w' ∧ KeepBut w w' g none := by
 have HI0 := Aside0.mk hI
 have HK := Aside0.mk (KeepBut.refl w g none)
 have HL := Aside0.mk hB.size
 clear hI
 have HW0 := Aside0.mk hB.size
 have HB := Aside0.mk hB
 clear hB
 have H : (if a1 ≤ 1 then (some (0, s0_1, s0_2)) else (if s0_1 < (s0_0.length : Int) then (if 0 ≤ s0_1 then (if a1 ≤ 256 then (if (Int.tmod (wrap64 (s0_1 + 1)) 2) = 0 then (if 0 ≤ (wrap64 ((wrap64 (s0_1 + 1)) - 1)) then (if (wrap64 ((wrap64 (s0_1 + 1)) - 1)) < (s0_0.length : Int) then (if a1 = 0 then (none) else (some (Int.tmod (wrap64 (rd s0_0 (wrap64 ((wrap64 (s0_1 + 1)) - 1)))) a1, wrap64 (s0_1 + 1), Int.tmod (wrap64 ((wrap64 (s0_2 * 48271)) + 29)) 2147483647))) else (none)) else (none)) else (if a1 = 0 then (none) else (some (Int.tmod (wrap64 ((wrap64 (Int.tdiv (Int.tmod (wrap64 ((wrap64 (s0_2 * 48271)) + 29)) 2147483647) 31)) + (wrap64 (rd s0_0 s0_1)))) a1, wrap64 (s0_1 + 1), Int.tmod (wrap64 ((wrap64 (s0_2 * 48271)) + 29)) 2147483647)))) else (if a1 = 0 then (none) else (some (Int.tmod (wrap64 ((wrap64 (Int.tdiv (Int.tmod (wrap64 ((wrap64 (s0_2 * 48271)) + 29)) 2147483647) 31)) + (wrap64 (rd s0_0 s0_1)))) a1, wrap64 (s0_1 + 1), Int.tmod (wrap64 ((wrap64 (s0_2 * 48271)) + 29)) 2147483647)))) else (none)) else (if a1 = 0 then (none) else (some (Int.tmod (wrap64 (Int.tdiv (Int.tmod (wrap64 ((wrap64 (s0_2 * 48271)) + 29)) 2147483647) 31)) a1, s0_1, Int.tmod (wrap64 ((wrap64 (s0_2 * 48271)) + 29)) 2147483647))))) = some (r1, r2, r3) := h
 clear h
 by_cases c3 : a1 ≤ 1
 ·rw [if_pos c3] at H
  have c3b0 : decide (a1 ≤ 1) = true := decide_eq_true c3
  clear c3
  simp only [Option.some.injEq, Prod.mk.injEq] at H
  obtain ⟨rfl, rfl, rfl⟩ := H
  go_enter Try.func119, Try.ntmps119
  go_wp2
  repeat (go_quiet (fail); try go_wp2)
  go_ret
  exact ⟨by first | rfl | (simp [errW_none, errW_some] <;> rfl) | (simp [*, errW_none, errW_some] <;> rfl), r0_ HI0.out, r3_ HB.out HI0.out, r2_ HK.out⟩
 ·rw [if_neg c3] at H
  have c3b0 : decide (a1 ≤ 1) = false := decide_eq_false c3
  clear c3
  by_cases c4 : s0_1 < (s0_0.length : Int)
  ·rw [if_pos c4] at H
   have c4b0 : decide (s0_1 < (s0_0.length : Int)) = true := decide_eq_true c4
   clear c4
   by_cases c5 : 0 ≤ s0_1
   case neg =>
    rw [if_neg c5] at H
    exact absurd H (by simp)
   rw [if_pos c5] at H
   have c5b0 : decide (0 ≤ s0_1) = true := decide_eq_true c5
   clear c5
   by_cases c6 : a1 ≤ 256
   ·rw [if_pos c6] at H
    have c6b0 : decide (a1 ≤ 256) = true := decide_eq_true c6
    clear c6
    by_cases c7 : (Int.tmod (wrap64 (s0_1 + 1)) 2) = 0
    ·rw [if_pos c7] at H
     have c7b0 : ((Int.tmod (wrap64 (s0_1 + 1)) 2) == 0) = true := beq_iff_eq.mpr c7
     have c7b1 : ((Int.tmod (wrap64 (s0_1 + 1)) 2) != 0) = false := bne_eq_false_iff_eq.mpr c7
     clear c7
     obtain ⟨ji8, hji8⟩ : ∃ j_ : Int, (wrap64 ((wrap64 (s0_1 + 1)) - 1)) = j_ := ⟨_, rfl⟩
     replace H : (if 0 ≤ (ji8) then (if (ji8) < (s0_0.length : Int) then (if a1 = 0 then (none) else (some (Int.tmod (wrap64 (rd s0_0 (ji8))) a1, wrap64 (s0_1 + 1), Int.tmod (wrap64 ((wrap64 (s0_2 * 48271)) + 29)) 2147483647))) else (none)) else (none)) = some (r1, r2, r3) := by first | (rw [hji8] at H; exact H) | (simp only [hji8] at H ⊢; exact H)
     have hji8w : (IntKind.i64.wrap ((wrap64 (s0_1 + 1)) - 1)) = ji8 := (i64_w _).trans hji8
     by_cases c9 : 0 ≤ (ji8)
     case neg =>
      rw [if_neg c9] at H
      exact absurd H (by simp)
     rw [if_pos c9] at H
     have c9b0 : decide (0 ≤ (ji8)) = true := decide_eq_true c9
     clear c9
     by_cases c10 : (ji8) < (s0_0.length : Int)
     case neg =>
      rw [if_neg c10] at H
      exact absurd H (by simp)
     rw [if_pos c10] at H
     have c10b0 : decide ((ji8) < (s0_0.length : Int)) = true := decide_eq_true c10
     clear c10
     by_cases c11 : a1 = 0
     case pos =>
      rw [if_pos c11] at H
      exact absurd H (by simp)
     rw [if_neg c11] at H
     have c11b0 : (a1 == 0) = false := beq_eq_false_iff_ne.mpr c11
     have c11b1 : (a1 != 0) = true := bne_iff_ne.mpr c11
     simp only [Option.some.injEq, Prod.mk.injEq] at H
     obtain ⟨rfl, rfl, rfl⟩ := H
     obtain ⟨ASz12_0, cSz12_0, HGz12, hgz12, HSz12_0⟩ := HI0.out
     have hcz12_0 := cellS167_0 HGz12
     have hcz12_1 := cellS167_1 HGz12
     have hcz12_2 := cellS167_2 HGz12
     have hfz12_1 := blk_frozen HGz12 1
     have hfz12_2 := blk_frozen HGz12 2
     clear HGz12 hgz12
     have p261 : 0 ≤ (s0_1 : Int) := od_
     have q261 : s0_1 < (s0_0.length : Int) := od_
     obtain ⟨ad261, e261, hx261_0⟩ := Kd.at_int HSz12_0 s0_1 p261 q261
     cases e261
     have hn261_0 : ad261.block ≠ g := Nat.ne_of_lt (Nat.lt_of_lt_of_le (by have := World.block_lt_of_cell? _ _ hx261_0; first | rwa [add_block] at this | exact this) (IsS167.ge HI0.out))
     replace hx261_0 := pw_cell_below HB.out hx261_0
     replace hx261_0 := (cell_far (p := ⟨g, 2, none⟩) (by first | (rw [add_block]; exact hn261_0) | (show (Addr.add _ _).block ≠ _; rw [add_block]; exact hn261_0) | exact hn261_0) (.int .i64 (Int.tmod (wrap64 ((wrap64 (s0_2 * 48271)) + 29)) 2147483647))).trans hx261_0
     (try have hy261_0 := fun (n_ : Nat) => (show (((w.drewN n_).setCell ⟨g, 2, none⟩ (.int .i64 (Int.tmod (wrap64 ((wrap64 (s0_2 * 48271)) + 29)) 2147483647)))).cell? _ = some _ from hx261_0))
     clear hn261_0
     replace p261 := eq_true p261
     replace q261 := eq_true q261
     have p262 : 0 ≤ ((ji8) : Int) := od_
     have q262 : (ji8) < (s0_0.length : Int) := od_
     obtain ⟨ad262, e262, hx262_0⟩ := Kd.at_int HSz12_0 (ji8) p262 q262
     obtain rfl : ad261 = ad262 := (by injection e262)
     have hn262_0 : ad261.block ≠ g := Nat.ne_of_lt (Nat.lt_of_lt_of_le (by have := World.block_lt_of_cell? _ _ hx262_0; first | rwa [add_block] at this | exact this) (IsS167.ge HI0.out))
     have hn262_1 : ad261.block ≠ g := Nat.ne_of_lt (Nat.lt_of_lt_of_le (by have := World.block_lt_of_cell? _ _ hx262_0; first | rwa [add_block] at this | exact this) (IsS167.ge HI0.out))
     replace hx262_0 := pw_cell_below HB.out hx262_0
     replace hx262_0 := (cell_far (p := ⟨g, 2, none⟩) (by first | (rw [add_block]; exact hn262_0) | (show (Addr.add _ _).block ≠ _; rw [add_block]; exact hn262_0) | exact hn262_0) (.int .i64 (Int.tmod (wrap64 ((wrap64 (s0_2 * 48271)) + 29)) 2147483647))).trans hx262_0
     replace hx262_0 := (cell_far (p := ⟨g, 1, none⟩) (by first | (rw [add_block]; exact hn262_1) | (show (Addr.add _ _).block ≠ _; rw [add_block]; exact hn262_1) | exact hn262_1) (.int .i64 (wrap64 (s0_1 + 1)))).trans hx262_0
     (try have hy262_0 := fun (n_ : Nat) => (show ((((w.drewN n_).setCell ⟨g, 2, none⟩ (.int .i64 (Int.tmod (wrap64 ((wrap64 (s0_2 * 48271)) + 29)) 2147483647))).setCell ⟨g, 1, none⟩ (.int .i64 (wrap64 (s0_1 + 1))))).cell? _ = some _ from hx262_0))
     (try have hz262_0 := fun (n_ : Nat) => (show ((((w.setCell ⟨g, 2, none⟩ (.int .i64 (Int.tmod (wrap64 ((wrap64 (s0_2 * 48271)) + 29)) 2147483647))).drewN n_).setCell ⟨g, 1, none⟩ (.int .i64 (wrap64 (s0_1 + 1))))).cell? _ = some _ from hx262_0))
     clear hn262_0
     clear hn262_1
     replace p262 := eq_true p262
     replace q262 := eq_true q262
     go_enter Try.func119, Try.ntmps119
     go_wp2
     repeat (go_quiet (fail); try go_wp2)
     go_ret
     exact ⟨by first | rfl | (simp [errW_none, errW_some] <;> rfl) | (simp only [← hji8]; first | rfl | (simp [errW_none, errW_some] <;> rfl)) | (simp [*, errW_none, errW_some] <;> rfl), r0_ HI0.out, r3_ HB.out HI0.out, r2_ HK.out⟩
    ·rw [if_neg c7] at H
     have c7b0 : ((Int.tmod (wrap64 (s0_1 + 1)) 2) == 0) = false := beq_eq_false_iff_ne.mpr c7
     have c7b1 : ((Int.tmod (wrap64 (s0_1 + 1)) 2) != 0) = true := bne_iff_ne.mpr c7
     by_cases c13 : a1 = 0
     case pos =>
      rw [if_pos c13] at H
      exact absurd H (by simp)
     rw [if_neg c13] at H
     have c13b0 : (a1 == 0) = false := beq_eq_false_iff_ne.mpr c13
     have c13b1 : (a1 != 0) = true := bne_iff_ne.mpr c13
     simp only [Option.some.injEq, Prod.mk.injEq] at H
     obtain ⟨rfl, rfl, rfl⟩ := H
     obtain ⟨ASz14_0, cSz14_0, HGz14, hgz14, HSz14_0⟩ := HI0.out
     have hcz14_0 := cellS167_0 HGz14
     have hcz14_1 := cellS167_1 HGz14
     have hcz14_2 := cellS167_2 HGz14
     have hfz14_1 := blk_frozen HGz14 1
     have hfz14_2 := blk_frozen HGz14 2
     clear HGz14 hgz14
     have p261 : 0 ≤ (s0_1 : Int) := od_
     have q261 : s0_1 < (s0_0.length : Int) := od_
     obtain ⟨ad261, e261, hx261_0⟩ := Kd.at_int HSz14_0 s0_1 p261 q261
     cases e261
     have hn261_0 : ad261.block ≠ g := Nat.ne_of_lt (Nat.lt_of_lt_of_le (by have := World.block_lt_of_cell? _ _ hx261_0; first | rwa [add_block] at this | exact this) (IsS167.ge HI0.out))
     replace hx261_0 := pw_cell_below HB.out hx261_0
     replace hx261_0 := (cell_far (p := ⟨g, 2, none⟩) (by first | (rw [add_block]; exact hn261_0) | (show (Addr.add _ _).block ≠ _; rw [add_block]; exact hn261_0) | exact hn261_0) (.int .i64 (Int.tmod (wrap64 ((wrap64 (s0_2 * 48271)) + 29)) 2147483647))).trans hx261_0
     (try have hy261_0 := fun (n_ : Nat) => (show (((w.drewN n_).setCell ⟨g, 2, none⟩ (.int .i64 (Int.tmod (wrap64 ((wrap64 (s0_2 * 48271)) + 29)) 2147483647)))).cell? _ = some _ from hx261_0))
     clear hn261_0
     replace p261 := eq_true p261
     replace q261 := eq_true q261
     go_enter Try.func119, Try.ntmps119
     go_wp2
     repeat (go_quiet (fail); try go_wp2)
     go_ret
     exact ⟨by first | rfl | (simp [errW_none, errW_some] <;> rfl) | (simp [*, errW_none, errW_some] <;> rfl), r0_ HI0.out, r3_ HB.out HI0.out, r2_ HK.out⟩
   ·rw [if_neg c6] at H
    have c6b0 : decide (a1 ≤ 256) = false := decide_eq_false c6
    clear c6
    by_cases c15 : a1 = 0
    case pos =>
     rw [if_pos c15] at H
     exact absurd H (by simp)
    rw [if_neg c15] at H
    have c15b0 : (a1 == 0) = false := beq_eq_false_iff_ne.mpr c15
    have c15b1 : (a1 != 0) = true := bne_iff_ne.mpr c15
    simp only [Option.some.injEq, Prod.mk.injEq] at H
    obtain ⟨rfl, rfl, rfl⟩ := H
    obtain ⟨ASz16_0, cSz16_0, HGz16, hgz16, HSz16_0⟩ := HI0.out
    have hcz16_0 := cellS167_0 HGz16
    have hcz16_1 := cellS167_1 HGz16
    have hcz16_2 := cellS167_2 HGz16
    have hfz16_1 := blk_frozen HGz16 1
    have hfz16_2 := blk_frozen HGz16 2
    clear HGz16 hgz16
    have p261 : 0 ≤ (s0_1 : Int) := od_
    have q261 : s0_1 < (s0_0.length : Int) := od_
    obtain ⟨ad261, e261, hx261_0⟩ := Kd.at_int HSz16_0 s0_1 p261 q261
    cases e261
    have hn261_0 : ad261.block ≠ g := Nat.ne_of_lt (Nat.lt_of_lt_of_le (by have := World.block_lt_of_cell? _ _ hx261_0; first | rwa [add_block] at this | exact this) (IsS167.ge HI0.out))
    replace hx261_0 := pw_cell_below HB.out hx261_0
    replace hx261_0 := (cell_far (p := ⟨g, 2, none⟩) (by first | (rw [add_block]; exact hn261_0) | (show (Addr.add _ _).block ≠ _; rw [add_block]; exact hn261_0) | exact hn261_0) (.int .i64 (Int.tmod (wrap64 ((wrap64 (s0_2 * 48271)) + 29)) 2147483647))).trans hx261_0
    (try have hy261_0 := fun (n_ : Nat) => (show (((w.drewN n_).setCell ⟨g, 2, none⟩ (.int .i64 (Int.tmod (wrap64 ((wrap64 (s0_2 * 48271)) + 29)) 2147483647)))).cell? _ = some _ from hx261_0))
    clear hn261_0
    replace p261 := eq_true p261
    replace q261 := eq_true q261
    go_enter Try.func119, Try.ntmps119
    go_wp2
    repeat (go_quiet (fail); try go_wp2)
    go_ret
    exact ⟨by first | rfl | (simp [errW_none, errW_some] <;> rfl) | (simp [*, errW_none, errW_some] <;> rfl), r0_ HI0.out, r3_ HB.out HI0.out, r2_ HK.out⟩
  ·rw [if_neg c4] at H
   have c4b0 : decide (s0_1 < (s0_0.length : Int)) = false := decide_eq_false c4
   clear c4
   by_cases c17 : a1 = 0
   case pos =>
    rw [if_pos c17] at H
    exact absurd H (by simp)
   rw [if_neg c17] at H
   have c17b0 : (a1 == 0) = false := beq_eq_false_iff_ne.mpr c17
   have c17b1 : (a1 != 0) = true := bne_iff_ne.mpr c17
   simp only [Option.some.injEq, Prod.mk.injEq] at H
   obtain ⟨rfl, rfl, rfl⟩ := H
   obtain ⟨ASz18_0, cSz18_0, HGz18, hgz18, HSz18_0⟩ := HI0.out
   have hcz18_0 := cellS167_0 HGz18
   have hcz18_1 := cellS167_1 HGz18
   have hcz18_2 := cellS167_2 HGz18
   have hfz18_1 := blk_frozen HGz18 1
   have hfz18_2 := blk_frozen HGz18 2
   clear HGz18 hgz18
   go_enter Try.func119, Try.ntmps119
   go_wp2
   repeat (go_quiet (fail); try go_wp2)
   go_ret
   exact ⟨by first | rfl | (simp [errW_none, errW_some] <;> rfl) | (simp [*, errW_none, errW_some] <;> rfl), r0_ HI0.out, r3_ HB.out HI0.out, r2_ HK.out⟩
def spec_l01Pick.f (s0_0 : List Int) (s0_1 : Int) (s0_2 : Int) (l1 : List Int) : Option (Int × Int × Int) := (spec_l01Next.f s0_0 s0_1 s0_2 (l1.length : Int)).bind fun bt263 => (if 0 ≤ bt263.1 then (if bt263.1 < (l1.length : Int) then (some (rd l1 bt263.1, bt263.2.1, bt263.2.2)) else (none)) else (none))
set_option maxHeartbeats 8000000 in
set_option maxRecDepth 100000 in
theorem spec_l01Pick.calls (g : Nat) (s0_0 : List Int) (s0_1 : Int) (s0_2 : Int) (A1 : Option Addr) (c1 : Nat) (l1 : List Int) (r1 : Int) (r2 : Int) (r3 : Int) (w0 w : World) (hI : IsS167 w0 w g s0_0 s0_1 s0_2) (hB : Below w0.heap.size w0 w) (hr1 : Kd.C (Kd.int .i64) w A1 l1.length l1) (hc1 : l1.length ≤ c1) (hf1 : ∀ ad, A1 = some ad → 0 < l1.length → ad.block ≠ g) (h : spec_l01Pick.f s0_0 s0_1 s0_2 l1 = some (r1, r2, r3)) :
    Calls Try.prog 150 #[.pointer (some ⟨g, 0, none⟩), .slice A1 l1.length c1] w fun e w' => e = .returned (.int .i64 r1) ∧ IsS167 w0 w' g s0_0 r2 r3 ∧ Below w0.heap.size w0 w' ∧ KeepBut w w' g none := by
  have HR1 := Aside0.mk hr1
  have HC1 := Aside0.mk hc1
  clear hr1 hc1
  have HI0 := Aside0.mk hI
  have HK := Aside0.mk (KeepBut.refl w g none)
  have HL := Aside0.mk hB.size
  clear hI
  have HW0 := Aside0.mk hB.size
  have HB := Aside0.mk hB
  clear hB
  have H : ((spec_l01Next.f s0_0 s0_1 s0_2 (l1.length : Int)).bind fun bt263 => (if 0 ≤ bt263.1 then (if bt263.1 < (l1.length : Int) then (some (rd l1 bt263.1, bt263.2.1, bt263.2.2)) else (none)) else (none))) = some (r1, r2, r3) := h
  clear h
  replace H := Option.bind_eq_some_iff.mp H
  obtain ⟨⟨t263, t264, t265⟩, A30, H⟩ := H
  replace H : (if 0 ≤ t263 then (if t263 < (l1.length : Int) then (some (rd l1 t263, t264, t265)) else (none)) else (none)) = some (r1, r2, r3) := H
  have A3 := Aside0.mk A30
  clear A30
  by_cases c4 : 0 ≤ t263
  · rw [if_pos c4] at H
    have c4b0 : decide (0 ≤ t263) = true := decide_eq_true c4
    clear c4
    by_cases c5 : t263 < (l1.length : Int)
    · rw [if_pos c5] at H
      have c5b0 : decide (t263 < (l1.length : Int)) = true := decide_eq_true c5
      clear c5
      simp only [Option.some.injEq, Prod.mk.injEq] at H
      obtain ⟨rfl, rfl, rfl⟩ := H
      go_enter Try.func150, Try.ntmps150
      go_wp2_with (first | ((with_reducible refine gate_callee (f := 119) rfl ?_); refine goesL_ (some 9) rfl rfl Try.func119 (by kernel_rfl) rfl #[.pointer (some ⟨g, 0, none⟩), .int .i64 (l1.length : Int)] rfl ag_ ?_; (with_reducible refine (spec_l01Next.calls g s0_0 s0_1 s0_2 (l1.length : Int) t263 t264 t265 w0 _ ?side1 ?side2 A3.out).mono ?_); (case side1 => exact r0_ HI0.out); (case side2 => exact r3_ HB.out HI0.out); rintro e w6 ⟨rfl, hi, hb, hk⟩; refine ⟨_, rfl, ?_⟩; have n0_ := Aside0.mk (KeepBut.trans (r2_ HK.out) hk (.inl rfl)); have n1_ := Aside0.mk (hb); have n2_ := Aside0.mk (hi); clear HK; clear HB; clear HI0; have HK := n0_; have HB := n1_; have HI0 := n2_; clear n0_ n1_ n2_; (try clear hb); (try clear hb2); (try clear hk); (try clear hi); have p266 : 0 ≤ (t263 : Int) := od_; have q266 : t263 < (l1.length : Int) := od_; obtain ⟨ad266, e266, hx266_0⟩ := Kd.at_int HR1.out t263 p266 q266; cases e266; replace hx266_0 := keep_cell HK.out hx266_0 (by first | (rw [add_block]; exact hf1 _ rfl (by omega)) | exact hf1 _ rfl (by omega) | exact hf1 ad266 rfl (by omega)); replace p266 := eq_true p266; replace q266 := eq_true q266))
      go_ret
      exact ⟨by first | rfl | (simp [errW_none, errW_some] <;> rfl) | (simp [*, errW_none, errW_some] <;> rfl), r0_ HI0.out, r3_ HB.out HI0.out, r2_ HK.out⟩
    · rw [if_neg c5] at H
      exact absurd H (by simp)
  · rw [if_neg c4] at H
    exact absurd H (by simp)
def spec_l12Good.l0 : Nat → List (S98) → Int → List Int → Int → Int → Option ((List (S98)) × Int × Int)
 | 0, _, _, _, _, _ => none
 | k + 1, x3, x4, x1000, x1001, x1002 => if x4 > 0 then ((spec_l01Next.f x1000 x1001 x1002 (x3.length : Int)).bind fun bt276 => ((spec_l01Next.f x1000 bt276.2.1 bt276.2.2 6).bind fun bt279 => (if x3.length < 8796093022208 then (spec_l12Good.l0 k (x3 ++ [(⟨bt276.1, bt279.1⟩ : S98)]) (wrap64 (x4 - 1)) x1000 bt279.2.1 bt279.2.2) else (none)))) else (some (x3, x1001, x1002))
def spec_l12Good.f (k : Nat) (s0_0 : List Int) (s0_1 : Int) (s0_2 : Int) : Option ((List (S98)) × Int × Int) := (spec_l01Next.f s0_0 s0_1 s0_2 5).bind fun bt267 => ((spec_l01Next.f s0_0 bt267.2.1 bt267.2.2 8).bind fun bt273 => (spec_l12Good.l0 k (([(⟨(-1), bt267.1⟩ : S98)] : List (S98))) bt273.1 s0_0 bt273.2.1 bt273.2.2))
theorem spec_l12Good.mono_l : ∀ k, (∀ y0 y1 y2 y3 y4, LeO (spec_l12Good.l0 k y0 y1 y2 y3 y4) (spec_l12Good.l0 (k + 1) y0 y1 y2 y3 y4))
 | 0 => fun _ _ _ _ _ r h => by simp [spec_l12Good.l0] at h
 | k + 1 => by
  have ih0 := spec_l12Good.mono_l k
  ·intro y0 y1 y2 y3 y4
   unfold spec_l12Good.l0
   repeat' first
   | (with_reducible exact ih0 _ _ _ _ _)
   | (with_reducible exact LeO.refl _)
   | (with_reducible exact LeO.none _)
   | (with_reducible refine LeO.ite ?_ ?_)
   | (with_reducible refine LeO.bind ?_ (fun _ => ?_))
   | exact ih0 _ _ _ _ _
   | exact LeO.none _
   | refine LeO.ite ?_ ?_
   | refine LeO.bind ?_ (fun _ => ?_)
theorem spec_l12Good.mono : ∀ a0 a1 a2 k, LeO (spec_l12Good.f k a0 a1 a2) (spec_l12Good.f (k + 1) a0 a1 a2) := by
 intro a0 a1 a2 k
 have ih0 := spec_l12Good.mono_l k
 unfold spec_l12Good.f
 repeat' first
   | (with_reducible exact ih0 _ _ _ _ _)
   | (with_reducible exact LeO.refl _)
   | (with_reducible exact LeO.none _)
   | (with_reducible refine LeO.ite ?_ ?_)
   | (with_reducible refine LeO.bind ?_ (fun _ => ?_))
   | exact ih0 _ _ _ _ _
   | exact LeO.none _
   | refine LeO.ite ?_ ?_
   | refine LeO.bind ?_ (fun _ => ?_)
set_option maxHeartbeats 8000000 in
set_option maxRecDepth 100000 in
theorem spec_l12Good.calls (k : Nat) (g : Nat) (s0_0 : List Int) (s0_1 : Int) (s0_2 : Int) (r1 : List (S98)) (r2 : Int) (r3 : Int) (w0 w : World) (hI : IsS167 w0 w g s0_0 s0_1 s0_2) (hB : Below w0.heap.size w0 w) (h : spec_l12Good.f k s0_0 s0_1 s0_2 = some (r1, r2, r3)) :
  Calls Try.prog 165 #[.pointer (some ⟨g, 0, none⟩)] w fun e w' => ∃ v0_ : Value, e = .returned (v0_) ∧ Kd.R k98 98 w' w.heap.size (fun _ => True) v0_ r1 ∧ IsS167 w0 w' g s0_0 r2 r3 ∧ Below w0.heap.size w0 w' ∧ KeepBut w w' g none := by
 have hu98 := Try.underlying98
 have HI0 := Aside0.mk hI
 have HK := Aside0.mk (KeepBut.refl w g none)
 have HL := Aside0.mk hB.size
 clear hI
 have HW0 := Aside0.mk hB.size
 have HB := Aside0.mk hB
 clear hB
 have H : ((spec_l01Next.f s0_0 s0_1 s0_2 5).bind fun bt267 => ((spec_l01Next.f s0_0 bt267.2.1 bt267.2.2 8).bind fun bt273 => (spec_l12Good.l0 k (([(⟨(-1), bt267.1⟩ : S98)] : List (S98))) bt273.1 s0_0 bt273.2.1 bt273.2.2))) = some (r1, r2, r3) := h
 clear h
 replace H := Option.bind_eq_some_iff.mp H
 obtain ⟨⟨t267, t268, t269⟩, A20, H⟩ := H
 replace H : ((spec_l01Next.f s0_0 t268 t269 8).bind fun bt273 => (spec_l12Good.l0 k (([(⟨(-1), t267⟩ : S98)] : List (S98))) bt273.1 s0_0 bt273.2.1 bt273.2.2)) = some (r1, r2, r3) := H
 have A2 := Aside0.mk A20
 clear A20
 obtain ⟨y270, hy270⟩ : ∃ y_ : List (S98), y_ = (([(⟨(-1), t267⟩ : S98)] : List (S98))) := ⟨_, rfl⟩
 replace H : ((spec_l01Next.f s0_0 t268 t269 8).bind fun bt273 => (spec_l12Good.l0 k y270 bt273.1 s0_0 bt273.2.1 bt273.2.2)) = some (r1, r2, r3) := by first | (rw [hy270]; with_reducible exact H) | (have H2_ := (Option.bind_some _ _).symm.trans H; rw [hy270]; with_reducible exact H2_) | (have H2_ := (Option.bind_some _ _).symm.trans H; with_reducible exact H2_) | with_reducible exact H | (rw [hy270]; exact H) | exact H
 have Ny270 := Aside0.mk hy270
 clear hy270
 replace H := Option.bind_eq_some_iff.mp H
 obtain ⟨⟨t273, t274, t275⟩, A30, H⟩ := H
 replace H : (spec_l12Good.l0 k y270 t273 s0_0 t274 t275) = some (r1, r2, r3) := H
 have A3 := Aside0.mk A30
 clear A30
 have H' := Aside0.mk H
 clear H
 go_enter Try.func165, Try.ntmps165
 go_wp2_with (first | ((with_reducible refine gate_callee (f := 119) rfl ?_); refine goesL_ (some 6) rfl rfl Try.func119 (by kernel_rfl) rfl #[.pointer (some ⟨g, 0, none⟩), .int .i64 5] rfl ag_ ?_; (with_reducible refine (spec_l01Next.calls g s0_0 s0_1 s0_2 5 t267 t268 t269 w0 _ ?side1 ?side2 A2.out).mono ?_); (case side1 => exact r0_ HI0.out); (case side2 => exact r3_ HB.out HI0.out); rintro e w4 ⟨rfl, hi, hb, hk⟩; refine ⟨_, rfl, ?_⟩; have n0_ := Aside0.mk (KeepBut.trans (r2_ HK.out) hk (.inl rfl)); have n1_ := Aside0.mk (hb); have n2_ := Aside0.mk (hi); clear HK; clear HB; clear HI0; have HK := n0_; have HB := n1_; have HI0 := n2_; clear n0_ n1_ n2_; (try clear hb); (try clear hb2); (try clear hk); (try clear hi)) | ((with_reducible refine gate_dst (N := 8) rfl ?_); refine Kd.R_lit k98 _ 98 ?hg (N := 8) ?hd (xs := ([(⟨(-1), t267⟩ : S98)] : List (S98))) (inner := [.int .i64 (-1), .int .i64 t267]) (ok := fun _ => True) (okp := fun _ => True) ?hr ?hp (fun _ hk => hk) trivial (Below.refl _ _) (Nat.le_refl _) (by simp) ?_; (case hd => rfl); (case hg => rfl); (case hr => first | (go_simp; done) | (go_simp; rfl)); (case hp => exact (Reps.c2 (show Kd.M k98 _ _ _ (⟨(-1), t267⟩ : S98) [.int .i64 (-1), .int .i64 t267] from (k98_mkM _ _ _ (⟨(-1), t267⟩ : S98) )) (Reps.none _ _))); intro v271 w5 ho6 hb hg_ hnew_; clear hg_ hnew_; (first | rw [← Ny270.out] at ho6 | (simp only [Int.reduceToNat] at ho6; rw [← Ny270.out] at ho6)); have n0_ := Aside0.mk (Kd.R_lower ho6 (keep_size (w := w) (g := g) (row := none) (r2_ HK.out))); have n1_ := Aside0.mk (IsS167.below (r0_ HI0.out) hb); have n2_ := Aside0.mk (KeepBut.trans (r2_ HK.out) (KeepBut.of_below hb g none) (.inl rfl)); have n3_ := Aside0.mk (below_step (r3_ HB.out HI0.out) hb); clear HI0; clear HK; clear HB; have HO272 := n0_; have HI0 := n1_; have HK := n2_; have HB := n3_; clear n0_ n1_ n2_ n3_; clear hb ho6) | ((with_reducible refine gate_callee (f := 119) rfl ?_); refine goesL_ (some 10) rfl rfl Try.func119 (by kernel_rfl) rfl #[.pointer (some ⟨g, 0, none⟩), .int .i64 8] rfl ag_ ?_; (with_reducible refine (spec_l01Next.calls g s0_0 t268 t269 8 t273 t274 t275 w0 _ ?side1 ?side2 A3.out).mono ?_); (case side1 => exact r0_ HI0.out); (case side2 => exact r3_ HB.out HI0.out); rintro e w7 ⟨rfl, hi, hb, hk⟩; refine ⟨_, rfl, ?_⟩; have n0_ := Aside0.mk (Kd.R_mono (Kd.R_keep (IsS167.apart (show IsS167 w0 _ g s0_0 t268 t269 from r0_ HI0.out) (rk_ HO272.out) (by decide)) hk (fun _ h => h.2)) (fun _ h => h.1)); have n1_ := Aside0.mk (KeepBut.trans (r2_ HK.out) hk (.inl rfl)); have n2_ := Aside0.mk (hb); have n3_ := Aside0.mk (hi); clear HO272; clear HK; clear HB; clear HI0; have HO272 := n0_; have HK := n1_; have HB := n2_; have HI0 := n3_; clear n0_ n1_ n2_ n3_; (try clear hb); (try clear hb2); (try clear hk); (try clear hi)))
 go_loopg [3, 4] k (fun kq v3 v4 w' => ∃ (x3_1 : List (S98)) (x4_1 : Int) (x1001_1 : Int) (x1002_1 : Int), v4 = .int .i64 x4_1 ∧ Aside0 (spec_l12Good.l0 kq x3_1 x4_1 s0_0 x1001_1 x1002_1 = some (r1, r2, r3)) ∧ Aside0 (kq ≤ k) ∧ Aside0 (Kd.R k98 98 w' w.heap.size (fun _ => True) v3 x3_1) ∧ Aside0 (IsS167 w0 w' g s0_0 x1001_1 x1002_1) ∧ Aside0 (KeepBut w w' g none) ∧ Aside0 (Below w0.heap.size w0 w'))
 case atStart => exact ⟨(y270), (t273), (t274), (t275), (by first | rfl | (simp; done) | (simp [*]; done)), H', ⟨Nat.le_refl _⟩, ⟨rk_ HO272.out⟩, ⟨r0_ HI0.out⟩, ⟨r2_ HK.out⟩, ⟨r3_ HB.out HI0.out⟩⟩
 case round =>
  clear H'
  try clear c1
  try clear c2
  try clear p2
  obtain ⟨x3_1, x4_1, x1001_1, x1002_1, rfl, HA, HK1, HO_3, HI0, HK, HB⟩ := hrel
  cases gk with
  | zero => exact absurd HA.out (by simp [spec_l12Good.l0])
  | succ k1 =>
   have H := HA.out
   clear HA
   simp only [spec_l12Good.l0] at H
   by_cases c8 : x4_1 > 0
   ·rw [if_pos c8] at H
    have c8b0 : decide (0 < x4_1) = true := decide_eq_true c8
    clear c8
    replace H := Option.bind_eq_some_iff.mp H
    obtain ⟨⟨t276, t277, t278⟩, A90, H⟩ := H
    replace H : ((spec_l01Next.f s0_0 t277 t278 6).bind fun bt279 => (if x3_1.length < 8796093022208 then (spec_l12Good.l0 k1 (x3_1 ++ [(⟨t276, bt279.1⟩ : S98)]) (wrap64 (x4_1 - 1)) s0_0 bt279.2.1 bt279.2.2) else (none))) = some (r1, r2, r3) := H
    have A9 := Aside0.mk A90
    clear A90
    replace H := Option.bind_eq_some_iff.mp H
    obtain ⟨⟨t279, t280, t281⟩, A100, H⟩ := H
    replace H : (if x3_1.length < 8796093022208 then (spec_l12Good.l0 k1 (x3_1 ++ [(⟨t276, t279⟩ : S98)]) (wrap64 (x4_1 - 1)) s0_0 t280 t281) else (none)) = some (r1, r2, r3) := H
    have A10 := Aside0.mk A100
    clear A100
    by_cases c11 : x3_1.length < 8796093022208
    case neg =>
     rw [if_neg c11] at H
     exact absurd H (by simp)
    rw [if_pos c11] at H
    have LMc11 := Aside0.mk c11
    clear c11
    obtain ⟨y282, hy282⟩ : ∃ y_ : List (S98), y_ = (x3_1 ++ [(⟨t276, t279⟩ : S98)]) := ⟨_, rfl⟩
    replace H : (spec_l12Good.l0 k1 y282 (wrap64 (x4_1 - 1)) s0_0 t280 t281) = some (r1, r2, r3) := by first | (rw [hy282]; with_reducible exact H) | (have H2_ := (Option.bind_some _ _).symm.trans H; rw [hy282]; with_reducible exact H2_) | (have H2_ := (Option.bind_some _ _).symm.trans H; with_reducible exact H2_) | with_reducible exact H | (rw [hy282]; exact H) | exact H
    have Ny282 := Aside0.mk hy282
    clear hy282
    have H' := Aside0.mk H
    clear H
    obtain ⟨Ao12, co12, eo12⟩ := Kd.R_slice HO_3.out
    subst eo12
    go_wp2_with (first | ((with_reducible refine gate_callee (f := 119) rfl ?_); refine goesL_ (some 19) rfl rfl Try.func119 (by kernel_rfl) rfl #[.pointer (some ⟨g, 0, none⟩), .int .i64 (x3_1.length : Int)] rfl ag_ ?_; (with_reducible refine (spec_l01Next.calls g s0_0 x1001_1 x1002_1 (x3_1.length : Int) t276 t277 t278 w0 _ ?side1 ?side2 A9.out).mono ?_); (case side1 => exact r0_ HI0.out); (case side2 => exact r3_ HB.out HI0.out); rintro e w13 ⟨rfl, hi, hb, hk⟩; refine ⟨_, rfl, ?_⟩; have n0_ := Aside0.mk (Kd.R_mono (Kd.R_keep (IsS167.apart (show IsS167 w0 _ g s0_0 x1001_1 x1002_1 from r0_ HI0.out) (rk_ HO_3.out) (by decide)) hk (fun _ h => h.2)) (fun _ h => h.1)); have n1_ := Aside0.mk (KeepBut.trans (r2_ HK.out) hk (.inl rfl)); have n2_ := Aside0.mk (hb); have n3_ := Aside0.mk (hi); clear HO_3; clear HK; clear HB; clear HI0; have HO_3 := n0_; have HK := n1_; have HB := n2_; have HI0 := n3_; clear n0_ n1_ n2_ n3_; (try clear hb); (try clear hb2); (try clear hk); (try clear hi)) | ((with_reducible refine gate_callee (f := 119) rfl ?_); refine goesL_ (some 21) rfl rfl Try.func119 (by kernel_rfl) rfl #[.pointer (some ⟨g, 0, none⟩), .int .i64 6] rfl ag_ ?_; (with_reducible refine (spec_l01Next.calls g s0_0 t277 t278 6 t279 t280 t281 w0 _ ?side1 ?side2 A10.out).mono ?_); (case side1 => exact r0_ HI0.out); (case side2 => exact r3_ HB.out HI0.out); rintro e w14 ⟨rfl, hi, hb, hk⟩; refine ⟨_, rfl, ?_⟩; have n0_ := Aside0.mk (Kd.R_mono (Kd.R_keep (IsS167.apart (show IsS167 w0 _ g s0_0 t277 t278 from r0_ HI0.out) (rk_ HO_3.out) (by decide)) hk (fun _ h => h.2)) (fun _ h => h.1)); have n1_ := Aside0.mk (KeepBut.trans (r2_ HK.out) hk (.inl rfl)); have n2_ := Aside0.mk (hb); have n3_ := Aside0.mk (hi); clear HO_3; clear HK; clear HB; clear HI0; have HO_3 := n0_; have HK := n1_; have HB := n2_; have HI0 := n3_; clear n0_ n1_ n2_ n3_; (try clear hb); (try clear hb2); (try clear hk); (try clear hi)) | ((with_reducible refine gate_builtin (b := .append) (xs := #[.tmp 15, .tmp 23]) rfl ?_); at_builtin; refine Kd.R_append k98 w.heap.size rfl (.tmp 15) (.tmp 23) 29 98 (.agg #[(.int .i64 0), (.int .i64 0)]) 16 rfl Try.underlying29 info98 rfl (by decide) (by omega) (.slice Ao12 x3_1.length co12) x3_1 (⟨t276, t279⟩ : S98) [.int .i64 t276, .int .i64 t279] (fun _ => True) (fun _ => False) rfl rfl ?aP (fun _ hk => hk.elim) ?aF ?aO (Below.refl _ _) ?aS ?aL ?_; (case aP => exact k98_mkM _ _ _ (⟨t276, t279⟩ : S98)); (case aF => exact (fun _ _ => trivial)); (case aO => exact (rk_ HO_3.out)); (case aS => exact (keep_size (w := w) (g := g) (row := none) (r2_ HK.out))); (case aL => have := LMc11.out; omega); intro v283 w15 ho hb hg hat; rw [← Ny282.out] at ho; have n0_ := Aside0.mk (IsS167.grown (r0_ HI0.out) hg (IsS167.own_ne HI0.out HO_3.out (by decide))); have n1_ := Aside0.mk (below_weaken (r3_ HB.out HI0.out) HL.out hb); have n2_ := Aside0.mk (KeepBut.trans (r2_ HK.out) (KeepBut.of_grown hg g) (Kd.R_base2 HO_3.out)); have n3_ := Aside0.mk (ho); clear HI0; clear HB; clear HK; clear HO_3; have HI0 := n0_; have HB := n1_; have HK := n2_; have HO284 := n3_; clear n0_ n1_ n2_ n3_; clear ho hb hg hat))
    go_roundg k1
    case measure => have := HK1.out; omega
    case rel => exact ⟨(y282), (wrap64 (x4_1 - 1)), (t280), (t281), (by first | rfl | (simp; done) | (simp [*]; done)), H', ⟨by have := HK1.out; omega⟩, ⟨rk_ HO284.out⟩, ⟨r0_ HI0.out⟩, ⟨r2_ HK.out⟩, ⟨r3_ HB.out HI0.out⟩⟩
   ·rw [if_neg c8] at H
    have c8b0 : decide (0 < x4_1) = false := decide_eq_false c8
    clear c8
    simp only [Option.some.injEq, Prod.mk.injEq] at H
    obtain ⟨rfl, rfl, rfl⟩ := H
    go_wp2
    go_ret
    exact ⟨_, by first | rfl | (simp [errW_none, errW_some] <;> rfl) | (simp [*, errW_none, errW_some] <;> rfl), rk_ HO_3.out, r0_ HI0.out, r3_ HB.out HI0.out, r2_ HK.out⟩
def spec_l13Good.l0 : Nat → List (S98) → Int → List (S103) → Int → List Int → Int → Int → Option ((List (S98)) × Int × (List (S103)) × Int × Int)
 | 0, _, _, _, _, _, _, _ => none
 | k + 1, x5, x6, x7, x8, x1000, x1001, x1002 => if x8 < x6 then ((spec_l01Next.f x1000 x1001 x1002 (x5.length : Int)).bind fun bt296 => (if 0 ≤ bt296.1 then (if bt296.1 < (x5.length : Int) then ((spec_l01Next.f x1000 bt296.2.1 bt296.2.2 ((rd_T98 x5 bt296.1).f1)).bind fun bt300 => ((some (([] : List (S103)) : List (S103))).bind fun y304 => (if y304.length + x7.length < 5864062014805 then ((some (y304 ++ x7 : List (S103))).bind fun y307 => ((some (([(⟨x8, bt296.1, bt300.1⟩ : S103)] : List (S103)) : List (S103))).bind fun y310 => (if y307.length + y310.length < 5864062014805 then ((some (y307 ++ y310 : List (S103))).bind fun y313 => ((spec_l01Next.f x1000 bt300.2.1 bt300.2.2 3).bind fun bt316 => (if bt316.1 > 0 then ((spec_AreWires.f k x5 x6 y313).bind fun t319 => (if t319 = true then (spec_l13Good.l0 k x5 x6 y313 (wrap64 (x8 + 1)) x1000 bt316.2.1 bt316.2.2) else (spec_l13Good.l0 k x5 x6 x7 (wrap64 (x8 + 1)) x1000 bt316.2.1 bt316.2.2))) else (spec_l13Good.l0 k x5 x6 x7 (wrap64 (x8 + 1)) x1000 bt316.2.1 bt316.2.2)))) else (none)))) else (none)))) else (none)) else (none))) else (some (x5, x6, x7, x1001, x1002))
def spec_l13Good.f (k : Nat) (s0_0 : List Int) (s0_1 : Int) (s0_2 : Int) : Option ((List (S98)) × Int × (List (S103)) × Int × Int) := (spec_l12Good.f k s0_0 s0_1 s0_2).bind fun bt285 => ((spec_l01Next.f s0_0 bt285.2.1 bt285.2.2 9).bind fun bt290 => (spec_l13Good.l0 k bt285.1 bt290.1 (([] : List (S103))) 0 s0_0 bt290.2.1 bt290.2.2))
theorem spec_l13Good.mono_l : ∀ k, (∀ y0 y1 y2 y3 y4 y5 y6, LeO (spec_l13Good.l0 k y0 y1 y2 y3 y4 y5 y6) (spec_l13Good.l0 (k + 1) y0 y1 y2 y3 y4 y5 y6))
 | 0 => fun _ _ _ _ _ _ _ r h => by simp [spec_l13Good.l0] at h
 | k + 1 => by
  have ih0 := spec_l13Good.mono_l k
  ·intro y0 y1 y2 y3 y4 y5 y6
   unfold spec_l13Good.l0
   repeat' first
   | (with_reducible exact ih0 _ _ _ _ _ _ _)
   | (with_reducible exact spec_AreWires.mono _ _ _ _)
   | (with_reducible exact spec_l12Good.mono _ _ _ _)
   | (with_reducible exact LeO.refl _)
   | (with_reducible exact LeO.none _)
   | (with_reducible refine LeO.ite ?_ ?_)
   | (with_reducible refine LeO.bind ?_ (fun _ => ?_))
   | exact ih0 _ _ _ _ _ _ _
   | exact spec_AreWires.mono _ _ _ _
   | exact spec_l12Good.mono _ _ _ _
   | exact LeO.none _
   | refine LeO.ite ?_ ?_
   | refine LeO.bind ?_ (fun _ => ?_)
theorem spec_l13Good.mono : ∀ a0 a1 a2 k, LeO (spec_l13Good.f k a0 a1 a2) (spec_l13Good.f (k + 1) a0 a1 a2) := by
 intro a0 a1 a2 k
 have ih0 := spec_l13Good.mono_l k
 unfold spec_l13Good.f
 repeat' first
   | (with_reducible exact ih0 _ _ _ _ _ _ _)
   | (with_reducible exact spec_AreWires.mono _ _ _ _)
   | (with_reducible exact spec_l12Good.mono _ _ _ _)
   | (with_reducible exact LeO.refl _)
   | (with_reducible exact LeO.none _)
   | (with_reducible refine LeO.ite ?_ ?_)
   | (with_reducible refine LeO.bind ?_ (fun _ => ?_))
   | exact ih0 _ _ _ _ _ _ _
   | exact spec_AreWires.mono _ _ _ _
   | exact spec_l12Good.mono _ _ _ _
   | exact LeO.none _
   | refine LeO.ite ?_ ?_
   | refine LeO.bind ?_ (fun _ => ?_)
set_option maxHeartbeats 8000000 in
set_option maxRecDepth 100000 in
theorem spec_l13Good.calls (k : Nat) (g : Nat) (s0_0 : List Int) (s0_1 : Int) (s0_2 : Int) (r1 : List (S98)) (r2 : Int) (r3 : List (S103)) (r4 : Int) (r5 : Int) (w0 w : World) (hI : IsS167 w0 w g s0_0 s0_1 s0_2) (hB : Below w0.heap.size w0 w) (h : spec_l13Good.f k s0_0 s0_1 s0_2 = some (r1, r2, r3, r4, r5)) :
  Calls Try.prog 153 #[.pointer (some ⟨g, 0, none⟩)] w fun e w' => ∃ v0_ v2_ : Value, e = .returned (.tuple #[v0_, .int .i64 r2, v2_]) ∧ Kd.R k98 98 w' w.heap.size (fun _ => True) v0_ r1 ∧ Kd.R k103 103 w' w.heap.size (fun _ => True) v2_ r3 ∧ IsS167 w0 w' g s0_0 r4 r5 ∧ Below w0.heap.size w0 w' ∧ KeepBut w w' g none := by
 have hu103 := Try.underlying103
 have HI0 := Aside0.mk hI
 have HK := Aside0.mk (KeepBut.refl w g none)
 have HL := Aside0.mk hB.size
 clear hI
 have HW0 := Aside0.mk hB.size
 have HB := Aside0.mk hB
 clear hB
 have H : ((spec_l12Good.f k s0_0 s0_1 s0_2).bind fun bt285 => ((spec_l01Next.f s0_0 bt285.2.1 bt285.2.2 9).bind fun bt290 => (spec_l13Good.l0 k bt285.1 bt290.1 (([] : List (S103))) 0 s0_0 bt290.2.1 bt290.2.2))) = some (r1, r2, r3, r4, r5) := h
 clear h
 replace H := Option.bind_eq_some_iff.mp H
 obtain ⟨⟨t285, t288, t289⟩, A20, H⟩ := H
 replace H : ((spec_l01Next.f s0_0 t288 t289 9).bind fun bt290 => (spec_l13Good.l0 k t285 bt290.1 (([] : List (S103))) 0 s0_0 bt290.2.1 bt290.2.2)) = some (r1, r2, r3, r4, r5) := H
 have A2 := Aside0.mk A20
 clear A20
 replace H := Option.bind_eq_some_iff.mp H
 obtain ⟨⟨t290, t291, t292⟩, A30, H⟩ := H
 replace H : (spec_l13Good.l0 k t285 t290 (([] : List (S103))) 0 s0_0 t291 t292) = some (r1, r2, r3, r4, r5) := H
 have A3 := Aside0.mk A30
 clear A30
 obtain ⟨y293, hy293⟩ : ∃ y_ : List (S103), y_ = (([] : List (S103))) := ⟨_, rfl⟩
 replace H : (spec_l13Good.l0 k t285 t290 y293 0 s0_0 t291 t292) = some (r1, r2, r3, r4, r5) := by first | (rw [hy293]; with_reducible exact H) | (have H2_ := (Option.bind_some _ _).symm.trans H; rw [hy293]; with_reducible exact H2_) | (have H2_ := (Option.bind_some _ _).symm.trans H; with_reducible exact H2_) | with_reducible exact H | (rw [hy293]; exact H) | exact H
 have Ny293 := Aside0.mk hy293
 clear hy293
 have H' := Aside0.mk H
 clear H
 go_enter Try.func153, Try.ntmps153
 go_wp2_with (first | ((with_reducible refine gate_callee (f := 165) rfl ?_); refine goesL_ (some 13) rfl rfl Try.func165 (by kernel_rfl) rfl #[.pointer (some ⟨g, 0, none⟩)] rfl ag_ ?_; (with_reducible refine (spec_l12Good.calls k g s0_0 s0_1 s0_2 t285 t288 t289 w0 _ ?side1 ?side2 A2.out).mono ?_); (case side1 => exact r0_ HI0.out); (case side2 => exact r3_ HB.out HI0.out); rintro e w4 ⟨v286, rfl, ho0, hi, hb, hk⟩; refine ⟨_, rfl, ?_⟩; have n0_ := Aside0.mk (Kd.R_lower ho0 (keep_size (w := w) (g := g) (row := none) (r2_ HK.out))); have n1_ := Aside0.mk (KeepBut.trans (r2_ HK.out) hk (.inl rfl)); have n2_ := Aside0.mk (hb); have n3_ := Aside0.mk (hi); clear HK; clear HB; clear HI0; have HO287 := n0_; have HK := n1_; have HB := n2_; have HI0 := n3_; clear n0_ n1_ n2_ n3_; (try clear hb); (try clear hb2); (try clear hk); (try clear hi); (try clear ho0)) | ((with_reducible refine gate_callee (f := 119) rfl ?_); refine goesL_ (some 15) rfl rfl Try.func119 (by kernel_rfl) rfl #[.pointer (some ⟨g, 0, none⟩), .int .i64 9] rfl ag_ ?_; (with_reducible refine (spec_l01Next.calls g s0_0 t288 t289 9 t290 t291 t292 w0 _ ?side1 ?side2 A3.out).mono ?_); (case side1 => exact r0_ HI0.out); (case side2 => exact r3_ HB.out HI0.out); rintro e w5 ⟨rfl, hi, hb, hk⟩; refine ⟨_, rfl, ?_⟩; have n0_ := Aside0.mk (Kd.R_mono (Kd.R_keep (IsS167.apart (show IsS167 w0 _ g s0_0 t288 t289 from r0_ HI0.out) (rk_ HO287.out) (by decide)) hk (fun _ h => h.2)) (fun _ h => h.1)); have n1_ := Aside0.mk (KeepBut.trans (r2_ HK.out) hk (.inl rfl)); have n2_ := Aside0.mk (hb); have n3_ := Aside0.mk (hi); clear HO287; clear HK; clear HB; clear HI0; have HO287 := n0_; have HK := n1_; have HB := n2_; have HI0 := n3_; clear n0_ n1_ n2_ n3_; (try clear hb); (try clear hb2); (try clear hk); (try clear hi)) | ((with_reducible refine gate_dst (N := 16) rfl ?_); refine Kd.R_lit k103 _ 103 ?hg (N := 16) ?hd (xs := ([] : List (S103))) (inner := []) (ok := fun _ => True) (okp := fun _ => True) ?hr ?hp (fun _ hk => hk) trivial (Below.refl _ _) (Nat.le_refl _) (by simp) ?_; (case hd => rfl); (case hg => rfl); (case hr => first | (go_simp; done) | (go_simp; rfl)); (case hp => exact (Reps.none _ _)); intro v294 w6 ho7 hb hg_ hnew_; clear hg_ hnew_; (first | rw [← Ny293.out] at ho7 | (simp only [Int.reduceToNat] at ho7; rw [← Ny293.out] at ho7)); have n0_ := Aside0.mk (Kd.R_below (rk_ HO287.out) hb); have n1_ := Aside0.mk (Kd.R_lower ho7 (keep_size (w := w) (g := g) (row := none) (r2_ HK.out))); have n2_ := Aside0.mk (IsS167.below (r0_ HI0.out) hb); have n3_ := Aside0.mk (KeepBut.trans (r2_ HK.out) (KeepBut.of_below hb g none) (.inl rfl)); have n4_ := Aside0.mk (below_step (r3_ HB.out HI0.out) hb); clear HO287; clear HI0; clear HK; clear HB; have HO287 := n0_; have HO295 := n1_; have HI0 := n2_; have HK := n3_; have HB := n4_; clear n0_ n1_ n2_ n3_ n4_; clear hb ho7))
 go_loopg [7, 8] k (fun kq v7 v8 w' => ∃ (x7_1 : List (S103)) (x8_1 : Int) (x1001_1 : Int) (x1002_1 : Int), v8 = .int .i64 x8_1 ∧ Aside0 (spec_l13Good.l0 kq t285 t290 x7_1 x8_1 s0_0 x1001_1 x1002_1 = some (r1, r2, r3, r4, r5)) ∧ Aside0 (kq ≤ k) ∧ Aside0 (Kd.R k98 98 w' w.heap.size (fun _ => True) v286 t285) ∧ Aside0 (Kd.R k103 103 w' w.heap.size (fun _ => True) v7 x7_1) ∧ Aside0 (IsS167 w0 w' g s0_0 x1001_1 x1002_1) ∧ Aside0 (KeepBut w w' g none) ∧ Aside0 (Below w0.heap.size w0 w'))
 case atStart => exact ⟨(y293), (0), (t291), (t292), (by first | rfl | (simp; done) | (simp [*]; done)), H', ⟨Nat.le_refl _⟩, ⟨rk_ HO287.out⟩, ⟨rk_ HO295.out⟩, ⟨r0_ HI0.out⟩, ⟨r2_ HK.out⟩, ⟨r3_ HB.out HI0.out⟩⟩
 case round =>
  clear H'
  try clear c1
  try clear p2
  obtain ⟨x7_1, x8_1, x1001_1, x1002_1, rfl, HA, HK1, HO_5, HO_7, HI0, HK, HB⟩ := hrel
  cases gk with
  | zero => exact absurd HA.out (by simp [spec_l13Good.l0])
  | succ k1 =>
   have H := HA.out
   clear HA
   simp only [spec_l13Good.l0] at H
   by_cases c8 : x8_1 < t290
   ·rw [if_pos c8] at H
    have c8b0 : decide (x8_1 < t290) = true := decide_eq_true c8
    clear c8
    replace H := Option.bind_eq_some_iff.mp H
    obtain ⟨⟨t296, t297, t298⟩, A90, H⟩ := H
    replace H : (if 0 ≤ t296 then (if t296 < (t285.length : Int) then ((spec_l01Next.f s0_0 t297 t298 ((rd_T98 t285 t296).f1)).bind fun bt300 => ((some (([] : List (S103)) : List (S103))).bind fun y304 => (if y304.length + x7_1.length < 5864062014805 then ((some (y304 ++ x7_1 : List (S103))).bind fun y307 => ((some (([(⟨x8_1, t296, bt300.1⟩ : S103)] : List (S103)) : List (S103))).bind fun y310 => (if y307.length + y310.length < 5864062014805 then ((some (y307 ++ y310 : List (S103))).bind fun y313 => ((spec_l01Next.f s0_0 bt300.2.1 bt300.2.2 3).bind fun bt316 => (if bt316.1 > 0 then ((spec_AreWires.f k1 t285 t290 y313).bind fun t319 => (if t319 = true then (spec_l13Good.l0 k1 t285 t290 y313 (wrap64 (x8_1 + 1)) s0_0 bt316.2.1 bt316.2.2) else (spec_l13Good.l0 k1 t285 t290 x7_1 (wrap64 (x8_1 + 1)) s0_0 bt316.2.1 bt316.2.2))) else (spec_l13Good.l0 k1 t285 t290 x7_1 (wrap64 (x8_1 + 1)) s0_0 bt316.2.1 bt316.2.2)))) else (none)))) else (none)))) else (none)) else (none)) = some (r1, r2, r3, r4, r5) := H
    have A9 := Aside0.mk A90
    clear A90
    by_cases c10 : 0 ≤ t296
    case neg =>
     rw [if_neg c10] at H
     exact absurd H (by simp)
    rw [if_pos c10] at H
    have c10b0 : decide (0 ≤ t296) = true := decide_eq_true c10
    clear c10
    by_cases c11 : t296 < (t285.length : Int)
    case neg =>
     rw [if_neg c11] at H
     exact absurd H (by simp)
    rw [if_pos c11] at H
    have c11b0 : decide (t296 < (t285.length : Int)) = true := decide_eq_true c11
    clear c11
    replace H := Option.bind_eq_some_iff.mp H
    obtain ⟨⟨t300, t301, t302⟩, A120, H⟩ := H
    replace H : ((some (([] : List (S103)) : List (S103))).bind fun y304 => (if y304.length + x7_1.length < 5864062014805 then ((some (y304 ++ x7_1 : List (S103))).bind fun y307 => ((some (([(⟨x8_1, t296, t300⟩ : S103)] : List (S103)) : List (S103))).bind fun y310 => (if y307.length + y310.length < 5864062014805 then ((some (y307 ++ y310 : List (S103))).bind fun y313 => ((spec_l01Next.f s0_0 t301 t302 3).bind fun bt316 => (if bt316.1 > 0 then ((spec_AreWires.f k1 t285 t290 y313).bind fun t319 => (if t319 = true then (spec_l13Good.l0 k1 t285 t290 y313 (wrap64 (x8_1 + 1)) s0_0 bt316.2.1 bt316.2.2) else (spec_l13Good.l0 k1 t285 t290 x7_1 (wrap64 (x8_1 + 1)) s0_0 bt316.2.1 bt316.2.2))) else (spec_l13Good.l0 k1 t285 t290 x7_1 (wrap64 (x8_1 + 1)) s0_0 bt316.2.1 bt316.2.2)))) else (none)))) else (none))) = some (r1, r2, r3, r4, r5) := H
    have A12 := Aside0.mk A120
    clear A120
    obtain ⟨y304, hy304⟩ : ∃ y_ : List (S103), y_ = (([] : List (S103))) := ⟨_, rfl⟩
    replace H : (if y304.length + x7_1.length < 5864062014805 then ((some (y304 ++ x7_1 : List (S103))).bind fun y307 => ((some (([(⟨x8_1, t296, t300⟩ : S103)] : List (S103)) : List (S103))).bind fun y310 => (if y307.length + y310.length < 5864062014805 then ((some (y307 ++ y310 : List (S103))).bind fun y313 => ((spec_l01Next.f s0_0 t301 t302 3).bind fun bt316 => (if bt316.1 > 0 then ((spec_AreWires.f k1 t285 t290 y313).bind fun t319 => (if t319 = true then (spec_l13Good.l0 k1 t285 t290 y313 (wrap64 (x8_1 + 1)) s0_0 bt316.2.1 bt316.2.2) else (spec_l13Good.l0 k1 t285 t290 x7_1 (wrap64 (x8_1 + 1)) s0_0 bt316.2.1 bt316.2.2))) else (spec_l13Good.l0 k1 t285 t290 x7_1 (wrap64 (x8_1 + 1)) s0_0 bt316.2.1 bt316.2.2)))) else (none)))) else (none)) = some (r1, r2, r3, r4, r5) := by first | (rw [hy304]; with_reducible exact H) | (have H2_ := (Option.bind_some _ _).symm.trans H; rw [hy304]; with_reducible exact H2_) | (have H2_ := (Option.bind_some _ _).symm.trans H; with_reducible exact H2_) | with_reducible exact H | (rw [hy304]; exact H) | exact H
    have Ny304 := Aside0.mk hy304
    clear hy304
    by_cases c13 : y304.length + x7_1.length < 5864062014805
    case neg =>
     rw [if_neg c13] at H
     exact absurd H (by simp)
    rw [if_pos c13] at H
    have LMc13 := Aside0.mk c13
    clear c13
    obtain ⟨y307, hy307⟩ : ∃ y_ : List (S103), y_ = (y304 ++ x7_1) := ⟨_, rfl⟩
    replace H : ((some (([(⟨x8_1, t296, t300⟩ : S103)] : List (S103)) : List (S103))).bind fun y310 => (if y307.length + y310.length < 5864062014805 then ((some (y307 ++ y310 : List (S103))).bind fun y313 => ((spec_l01Next.f s0_0 t301 t302 3).bind fun bt316 => (if bt316.1 > 0 then ((spec_AreWires.f k1 t285 t290 y313).bind fun t319 => (if t319 = true then (spec_l13Good.l0 k1 t285 t290 y313 (wrap64 (x8_1 + 1)) s0_0 bt316.2.1 bt316.2.2) else (spec_l13Good.l0 k1 t285 t290 x7_1 (wrap64 (x8_1 + 1)) s0_0 bt316.2.1 bt316.2.2))) else (spec_l13Good.l0 k1 t285 t290 x7_1 (wrap64 (x8_1 + 1)) s0_0 bt316.2.1 bt316.2.2)))) else (none))) = some (r1, r2, r3, r4, r5) := by first | (rw [hy307]; with_reducible exact H) | (have H2_ := (Option.bind_some _ _).symm.trans H; rw [hy307]; with_reducible exact H2_) | (have H2_ := (Option.bind_some _ _).symm.trans H; with_reducible exact H2_) | with_reducible exact H | (rw [hy307]; exact H) | exact H
    have Ny307 := Aside0.mk hy307
    clear hy307
    obtain ⟨y310, hy310⟩ : ∃ y_ : List (S103), y_ = (([(⟨x8_1, t296, t300⟩ : S103)] : List (S103))) := ⟨_, rfl⟩
    replace H : (if y307.length + y310.length < 5864062014805 then ((some (y307 ++ y310 : List (S103))).bind fun y313 => ((spec_l01Next.f s0_0 t301 t302 3).bind fun bt316 => (if bt316.1 > 0 then ((spec_AreWires.f k1 t285 t290 y313).bind fun t319 => (if t319 = true then (spec_l13Good.l0 k1 t285 t290 y313 (wrap64 (x8_1 + 1)) s0_0 bt316.2.1 bt316.2.2) else (spec_l13Good.l0 k1 t285 t290 x7_1 (wrap64 (x8_1 + 1)) s0_0 bt316.2.1 bt316.2.2))) else (spec_l13Good.l0 k1 t285 t290 x7_1 (wrap64 (x8_1 + 1)) s0_0 bt316.2.1 bt316.2.2)))) else (none)) = some (r1, r2, r3, r4, r5) := by first | (rw [hy310]; with_reducible exact H) | (have H2_ := (Option.bind_some _ _).symm.trans H; rw [hy310]; with_reducible exact H2_) | (have H2_ := (Option.bind_some _ _).symm.trans H; with_reducible exact H2_) | with_reducible exact H | (rw [hy310]; exact H) | exact H
    have Ny310 := Aside0.mk hy310
    clear hy310
    by_cases c14 : y307.length + y310.length < 5864062014805
    case neg =>
     rw [if_neg c14] at H
     exact absurd H (by simp)
    rw [if_pos c14] at H
    have LMc14 := Aside0.mk c14
    clear c14
    obtain ⟨y313, hy313⟩ : ∃ y_ : List (S103), y_ = (y307 ++ y310) := ⟨_, rfl⟩
    replace H : ((spec_l01Next.f s0_0 t301 t302 3).bind fun bt316 => (if bt316.1 > 0 then ((spec_AreWires.f k1 t285 t290 y313).bind fun t319 => (if t319 = true then (spec_l13Good.l0 k1 t285 t290 y313 (wrap64 (x8_1 + 1)) s0_0 bt316.2.1 bt316.2.2) else (spec_l13Good.l0 k1 t285 t290 x7_1 (wrap64 (x8_1 + 1)) s0_0 bt316.2.1 bt316.2.2))) else (spec_l13Good.l0 k1 t285 t290 x7_1 (wrap64 (x8_1 + 1)) s0_0 bt316.2.1 bt316.2.2))) = some (r1, r2, r3, r4, r5) := by first | (rw [hy313]; with_reducible exact H) | (have H2_ := (Option.bind_some _ _).symm.trans H; rw [hy313]; with_reducible exact H2_) | (have H2_ := (Option.bind_some _ _).symm.trans H; with_reducible exact H2_) | with_reducible exact H | (rw [hy313]; exact H) | exact H
    have Ny313 := Aside0.mk hy313
    clear hy313
    replace H := Option.bind_eq_some_iff.mp H
    obtain ⟨⟨t316, t317, t318⟩, A150, H⟩ := H
    replace H : (if t316 > 0 then ((spec_AreWires.f k1 t285 t290 y313).bind fun t319 => (if t319 = true then (spec_l13Good.l0 k1 t285 t290 y313 (wrap64 (x8_1 + 1)) s0_0 t317 t318) else (spec_l13Good.l0 k1 t285 t290 x7_1 (wrap64 (x8_1 + 1)) s0_0 t317 t318))) else (spec_l13Good.l0 k1 t285 t290 x7_1 (wrap64 (x8_1 + 1)) s0_0 t317 t318)) = some (r1, r2, r3, r4, r5) := H
    have A15 := Aside0.mk A150
    clear A150
    by_cases c16 : t316 > 0
    ·rw [if_pos c16] at H
     have c16b0 : decide (0 < t316) = true := decide_eq_true c16
     clear c16
     replace H := Option.bind_eq_some_iff.mp H
     obtain ⟨t319, A170, H⟩ := H
     replace H : (if t319 = true then (spec_l13Good.l0 k1 t285 t290 y313 (wrap64 (x8_1 + 1)) s0_0 t317 t318) else (spec_l13Good.l0 k1 t285 t290 x7_1 (wrap64 (x8_1 + 1)) s0_0 t317 t318)) = some (r1, r2, r3, r4, r5) := H
     have A17 := Aside0.mk A170
     clear A170
     by_cases c18 : t319 = true
     ·subst c18
      have H1 : (spec_l13Good.l0 k1 t285 t290 y313 (wrap64 (x8_1 + 1)) s0_0 t317 t318) = some (r1, r2, r3, r4, r5) := by rw [if_pos rfl] at H; exact H
      clear H
      have H := H1
      clear H1
      have H' := Aside0.mk H
      clear H
      obtain ⟨Ao19, co19, eo19⟩ := Kd.R_slice HO_5.out
      subst eo19
      try go_wp2_with (first | ((with_reducible refine gate_callee (f := 119) rfl ?_); refine goesL_ (some 25) rfl rfl Try.func119 (by kernel_rfl) rfl #[.pointer (some ⟨g, 0, none⟩), .int .i64 (t285.length : Int)] rfl ag_ ?_; (with_reducible refine (spec_l01Next.calls g s0_0 x1001_1 x1002_1 (t285.length : Int) t296 t297 t298 w0 _ ?side1 ?side2 A9.out).mono ?_); (case side1 => exact r0_ HI0.out); (case side2 => exact r3_ HB.out HI0.out); rintro e w20 ⟨rfl, hi, hb, hk⟩; refine ⟨_, rfl, ?_⟩; have n0_ := Aside0.mk (Kd.R_mono (Kd.R_keep (IsS167.apart (show IsS167 w0 _ g s0_0 x1001_1 x1002_1 from r0_ HI0.out) (rk_ HO_5.out) (by decide)) hk (fun _ h => h.2)) (fun _ h => h.1)); have n1_ := Aside0.mk (Kd.R_mono (Kd.R_keep (IsS167.apart (show IsS167 w0 _ g s0_0 x1001_1 x1002_1 from r0_ HI0.out) (rk_ HO_7.out) (by decide)) hk (fun _ h => h.2)) (fun _ h => h.1)); have n2_ := Aside0.mk (KeepBut.trans (r2_ HK.out) hk (.inl rfl)); have n3_ := Aside0.mk (hb); have n4_ := Aside0.mk (hi); clear HO_5; clear HO_7; clear HK; clear HB; clear HI0; have HO_5 := n0_; have HO_7 := n1_; have HK := n2_; have HB := n3_; have HI0 := n4_; clear n0_ n1_ n2_ n3_ n4_; (try clear hb); (try clear hb2); (try clear hk); (try clear hi); have p299 : 0 ≤ (t296 : Int) := od_; have q299 : t296 < (t285.length : Int) := od_; obtain ⟨ad299, e299, hx299_0, hx299_1⟩ := at_T98 (Kd.R_reads' HO_5.out).2.2 t296 p299 q299; cases e299; replace p299 := eq_true p299; replace q299 := eq_true q299) | ((with_reducible refine gate_callee (f := 119) rfl ?_); refine goesL_ (some 34) rfl rfl Try.func119 (by kernel_rfl) rfl #[.pointer (some ⟨g, 0, none⟩), .int .i64 ((rd_T98 t285 t296).f1)] rfl ag_ ?_; (with_reducible refine (spec_l01Next.calls g s0_0 t297 t298 ((rd_T98 t285 t296).f1) t300 t301 t302 w0 _ ?side1 ?side2 A12.out).mono ?_); (case side1 => exact r0_ HI0.out); (case side2 => exact r3_ HB.out HI0.out); rintro e w21 ⟨rfl, hi, hb, hk⟩; refine ⟨_, rfl, ?_⟩; have n0_ := Aside0.mk (Kd.R_mono (Kd.R_keep (IsS167.apart (show IsS167 w0 _ g s0_0 t297 t298 from r0_ HI0.out) (rk_ HO_5.out) (by decide)) hk (fun _ h => h.2)) (fun _ h => h.1)); have n1_ := Aside0.mk (Kd.R_mono (Kd.R_keep (IsS167.apart (show IsS167 w0 _ g s0_0 t297 t298 from r0_ HI0.out) (rk_ HO_7.out) (by decide)) hk (fun _ h => h.2)) (fun _ h => h.1)); have n2_ := Aside0.mk (KeepBut.trans (r2_ HK.out) hk (.inl rfl)); have n3_ := Aside0.mk (hb); have n4_ := Aside0.mk (hi); clear HO_5; clear HO_7; clear HK; clear HB; clear HI0; have HO_5 := n0_; have HO_7 := n1_; have HK := n2_; have HB := n3_; have HI0 := n4_; clear n0_ n1_ n2_ n3_ n4_; (try clear hb); (try clear hb2); (try clear hk); (try clear hi)) | ((with_reducible refine gate_dst (N := 10) rfl ?_); refine box_event ?hg (N := 10) ?hd (cs := #[.int .i64 0, .int .i64 0, .int .i64 0]) (t := 103) ?hr ?_; (case hd => rfl); (case hg => rfl); (case hr => first | (go_simp; done) | (go_simp; rfl)); intro gb303 hg w22 hbox hb; have n0_ := Aside0.mk (Kd.R_below (rk_ HO_5.out) hb); have n1_ := Aside0.mk (Kd.R_below (Kd.R_elderB (rk_ HO_7.out) gb303 (Nat.le_of_eq hg.symm)) hb); have n2_ := Aside0.mk (IsS167.below (r0_ HI0.out) hb); have n3_ := Aside0.mk (KeepBut.trans (r2_ HK.out) (KeepBut.of_below hb g none) (.inl rfl)); have n4_ := Aside0.mk (below_step (r3_ HB.out HI0.out) hb); have n5_ := Aside0.mk (hbox); have n6_ := Aside0.mk ((by rw [hg]; exact (keep_size (w := w) (g := g) (row := none) (r2_ HK.out)) : w.heap.size ≤ gb303)); have n7_ := Aside0.mk ((Nat.le_trans HW0.out (by rw [hg]; exact (keep_size (w := w) (g := g) (row := none) (r2_ HK.out)) : w.heap.size ≤ gb303) : w0.heap.size ≤ gb303)); have n8_ := Aside0.mk ((by rw [hg]; exact Nat.ne_of_lt (IsS167.lt (show IsS167 w0 _ g s0_0 t301 t302 from r0_ HI0.out)) : g ≠ gb303)); have n9_ := Aside0.mk ((by rw [hg]; exact Nat.ne_of_gt (IsS167.lt (show IsS167 w0 _ g s0_0 t301 t302 from r0_ HI0.out)) : gb303 ≠ g)); clear HO_5; clear HO_7; clear HI0; clear HK; clear HB; have HO_5 := n0_; have HO_7 := n1_; have HI0 := n2_; have HK := n3_; have HB := n4_; have BK303 := n5_; have GW303 := n6_; have GE303 := n7_; have NB0_303 := n8_; have NB303_0 := n9_; clear n0_ n1_ n2_ n3_ n4_ n5_ n6_ n7_ n8_ n9_; clear hb hbox hg; have hnb23 := NB303_0.out; have hnc23 := NB0_303.out; have hcz24_0 : w22.cell? ⟨gb303, 0, none⟩ = some (.int .i64 0) := (blk_cell BK303.out 0).trans rfl; have hcz24_1 : w22.cell? ⟨gb303, 1, none⟩ = some (.int .i64 0) := (blk_cell BK303.out 1).trans rfl; have hcz24_2 : w22.cell? ⟨gb303, 2, none⟩ = some (.int .i64 0) := (blk_cell BK303.out 2).trans rfl; have hfz24_0 := blk_frozen BK303.out 0; have hfz24_1 := blk_frozen BK303.out 1; have hfz24_2 := blk_frozen BK303.out 2; obtain ⟨Ao25, co25, eo25⟩ := Kd.R_slice HO_7.out; subst eo25))
      have n0_ : Aside0 (Kd.R k98 98 (((w22.setCell ⟨gb303, 0, none⟩ (.int .i64 x8_1)).setCell ⟨gb303, 1, none⟩ (.int .i64 t296)).setCell ⟨gb303, 2, none⟩ (.int .i64 t300)) w.heap.size (fun _ => True) (.slice (some ad299) t285.length co19) t285) := ⟨rk_ (Kd.R_mono (Kd.R_far (p := ⟨gb303, 2, none⟩) (Kd.R_far (p := ⟨gb303, 1, none⟩) (Kd.R_far (p := ⟨gb303, 0, none⟩) (Kd.R_types HO_5.out BK303.out (by decide)) (fun _ hk => hk.2) (.int .i64 x8_1)) (fun _ hk => hk.2) (.int .i64 t296)) (fun _ hk => hk.2) (.int .i64 t300)) (fun _ hk => trivial))⟩
      have n1_ : Aside0 (Kd.R k103 103 (((w22.setCell ⟨gb303, 0, none⟩ (.int .i64 x8_1)).setCell ⟨gb303, 1, none⟩ (.int .i64 t296)).setCell ⟨gb303, 2, none⟩ (.int .i64 t300)) w.heap.size (fun k_ => k_ ≠ gb303) (.slice Ao25 x7_1.length co25) x7_1) := ⟨rk_ (Kd.R_mono (Kd.R_far (p := ⟨gb303, 2, none⟩) (Kd.R_far (p := ⟨gb303, 1, none⟩) (Kd.R_far (p := ⟨gb303, 0, none⟩) (Kd.R_mono HO_7.out (fun k_ hk => (⟨hk, hk.2⟩ : _ ∧ k_ ≠ gb303))) (fun _ hk => hk.2) (.int .i64 x8_1)) (fun _ hk => hk.2) (.int .i64 t296)) (fun _ hk => hk.2) (.int .i64 t300)) (fun _ hk => hk.1.2))⟩
      have n2_ : Aside0 ((((w22.setCell ⟨gb303, 0, none⟩ (.int .i64 x8_1)).setCell ⟨gb303, 1, none⟩ (.int .i64 t296)).setCell ⟨gb303, 2, none⟩ (.int .i64 t300)).heap[gb303]? = some (.cells #[.int .i64 x8_1, .int .i64 t296, .int .i64 t300] 103 (0, 0))) := ⟨by (with_reducible repeat (first | refine blk_drewN ?_ _ | refine blk_drew ?_ | refine blk_alloc ?_ _)); refine blk_put (cs := #[.int .i64 x8_1, .int .i64 t296, .int .i64 0]) ?_ 2 _ rfl; (with_reducible repeat (first | refine blk_drewN ?_ _ | refine blk_drew ?_ | refine blk_alloc ?_ _)); refine blk_put (cs := #[.int .i64 x8_1, .int .i64 0, .int .i64 0]) ?_ 1 _ rfl; (with_reducible repeat (first | refine blk_drewN ?_ _ | refine blk_drew ?_ | refine blk_alloc ?_ _)); refine blk_put (cs := #[.int .i64 0, .int .i64 0, .int .i64 0]) ?_ 0 _ rfl; (with_reducible repeat (first | refine blk_drewN ?_ _ | refine blk_drew ?_ | refine blk_alloc ?_ _)); exact BK303.out⟩
      have n3_ : Aside0 (IsS167 w0 (((w22.setCell ⟨gb303, 0, none⟩ (.int .i64 x8_1)).setCell ⟨gb303, 1, none⟩ (.int .i64 t296)).setCell ⟨gb303, 2, none⟩ (.int .i64 t300)) g s0_0 t301 t302) := ⟨r7_ HI0.out NB0_303.out⟩
      have n4_ : Aside0 (KeepBut w (((w22.setCell ⟨gb303, 0, none⟩ (.int .i64 x8_1)).setCell ⟨gb303, 1, none⟩ (.int .i64 t296)).setCell ⟨gb303, 2, none⟩ (.int .i64 t300)) g none) := ⟨r5_ HK.out GW303.out⟩
      have n5_ : Aside0 (Below w0.heap.size w0 (((w22.setCell ⟨gb303, 0, none⟩ (.int .i64 x8_1)).setCell ⟨gb303, 1, none⟩ (.int .i64 t296)).setCell ⟨gb303, 2, none⟩ (.int .i64 t300))) := ⟨r10_ HB.out HI0.out GE303.out⟩
      (try clear HO_5)
      (try clear HO_7)
      (try clear BK303)
      (try clear HI0)
      (try clear HK)
      (try clear HB)
      generalize (((w22.setCell ⟨gb303, 0, none⟩ (.int .i64 x8_1)).setCell ⟨gb303, 1, none⟩ (.int .i64 t296)).setCell ⟨gb303, 2, none⟩ (.int .i64 t300)) = w26 at n0_ n1_ n2_ n3_ n4_ n5_ ⊢
      have HO_5 := n0_
      have HO_7 := n1_
      have BK303 := n2_
      have HI0 := n3_
      have HK := n4_
      have HB := n5_
      clear n0_ n1_ n2_ n3_ n4_ n5_
      have n0_ := Aside0.mk (Kd.R_drew HO_5.out)
      have n1_ := Aside0.mk (Kd.R_drew HO_7.out)
      have n2_ := Aside0.mk (blk_drew BK303.out)
      have n3_ := Aside0.mk (IsS167.drew HI0.out)
      have n4_ := Aside0.mk (keep_drew HK.out)
      have n5_ := Aside0.mk (below_drew1 HB.out)
      clear HO_5
      clear HO_7
      clear BK303
      clear HI0
      clear HK
      clear HB
      have HO_5 := n0_
      have HO_7 := n1_
      have BK303 := n2_
      have HI0 := n3_
      have HK := n4_
      have HB := n5_
      clear n0_ n1_ n2_ n3_ n4_ n5_
      refine start_ (n := 7) (S := fun w' => w'.cell? ⟨gb303, 0, none⟩ = some (.int .i64 x8_1) ∧ w'.cell? ⟨gb303, 1, none⟩ = some (.int .i64 t296) ∧ w'.cell? ⟨gb303, 2, none⟩ = some (.int .i64 t300)) (ds := []) #[f_,f_,f_,f_,f_,f_,f_] (by kernel_rfl) rfl rfl ⟨(blk_cell BK303.out 0).trans rfl, (blk_cell BK303.out 1).trans rfl, (blk_cell BK303.out 2).trans rfl⟩ (fun hHeld => ?_)
      generalize w26.drew = w27 at HO_5 HO_7 BK303 HI0 HK HB hHeld ⊢
      refine pure_ (i := 1) (N := some 37) (v := ?_) (a' := ?_) #[f_,t_,f_,f_,f_,f_,f_] rfl rfl (by kernel_rfl) (fun _ _ _ h => h) (Or.inl ⟨by rfl, ?_⟩) ?_ ?_
      rotate_left
      ·intro w'
       go_simp
       with_reducible rfl
      rotate_left
      ·simp only [pz_]
       rfl
      refine take_ (i := 3) (N := some 39) (v := ?_) (a' := ?_) #[f_,t_,f_,t_,f_,f_,f_] rfl rfl (by kernel_rfl) (fun _ _ _ h => h) (Or.inl ⟨by rfl, ?_⟩) hHeld ?_ ?_
      rotate_left
      ·rintro w' ⟨s0, s1, s2⟩
       go_simp
       with_reducible rfl
      rotate_left
      ·simp only [pz_]
       rfl
      refine join_ (σ := Value × Value × Value) 2 #[t_,t_,t_,t_,t_,f_,f_] (fun s_ => [(36, s_.1), (38, s_.2.1), (40, s_.2.2)]) (fun s_ w' => (w'.cell? ⟨gb303, 0, none⟩ = some (.int .i64 x8_1) ∧ w'.cell? ⟨gb303, 1, none⟩ = some (.int .i64 t296) ∧ w'.cell? ⟨gb303, 2, none⟩ = some (.int .i64 t300)) ∧ (Kd.R k103 103 w' w.heap.size (fun k_ => some k_ ≠ (s_.2.2 : Value).ownBlock ∧ some k_ ≠ (.slice Ao25 x7_1.length co25 : Value).ownBlock ∧ k_ ≠ gb303) s_.2.1 y307) ∧ (Kd.R k103 103 w' w.heap.size (fun k_ => some k_ ≠ (s_.2.1 : Value).ownBlock ∧ some k_ ≠ (.slice Ao25 x7_1.length co25 : Value).ownBlock ∧ k_ ≠ gb303) s_.2.2 y310) ∧ (Kd.R k98 98 w' w.heap.size (fun _ => True) (.slice (some ad299) t285.length co19) t285) ∧ (Kd.R k103 103 w' w.heap.size (fun k_ => some k_ ≠ (s_.2.1 : Value).ownBlock ∧ some k_ ≠ (s_.2.2 : Value).ownBlock ∧ k_ ≠ gb303) (.slice Ao25 x7_1.length co25) x7_1) ∧ (w'.heap[gb303]? = some (.cells #[.int .i64 x8_1, .int .i64 t296, .int .i64 t300] 103 (0, 0))) ∧ (IsS167 w0 w' g s0_0 t301 t302) ∧ (KeepBut w w' g none) ∧ (Below w0.heap.size w0 w')) ?_ ?_
      rotate_left
      ·intro hCont
       refine two_ (i := 0) (j := 4) (Ni := some 36) (Nj := some 40) #[t_,t_,f_,t_,f_,f_,f_] #[f_,t_,f_,t_,t_,f_,f_] rfl rfl rfl rfl (by kernel_rfl) (by decide) (by decide) (fun K hK => ?_) (fun K hK => ?_)
       ·skip
        refine Kd.R_lit_step k103 _ 103 ?hg (N := 36) ?hd (xs := ([] : List (S103))) (inner := []) (ok := fun _ => True) (okp := fun _ => True) ?hr ?hp (fun _ hk => hk) trivial (Below.refl _ _) (Nat.le_refl _) (by simp) ?_; (case hd => rfl); (case hg => rfl); (case hr => first | (go_simp; done) | (go_simp; rfl)); (case hp => exact (Reps.none _ _))
        intro v305 w28 ho29 hb hg_ hnew_
        clear hg_ hnew_
        (first | rw [← Ny304.out] at ho29 | (simp only [Int.reduceToNat] at ho29; rw [← Ny304.out] at ho29))
        have n0_ := Aside0.mk (Kd.R_below (rk_ HO_5.out) hb)
        have n1_ := Aside0.mk (Kd.R_elder' (rk_ HO_7.out) (Kd.R_base ho29) hb)
        have n2_ := Aside0.mk (Kd.R_lower (Kd.R_newB (Kd.R_new' ho29 (Kd.R_lt (rk_ HO_7.out))) (g := gb303) (o := .cells #[.int .i64 x8_1, .int .i64 t296, .int .i64 t300] 103 (0, 0)) (r1_ BK303.out)) (keep_size (w := w) (g := g) (row := none) (r5_ HK.out GW303.out)))
        have n3_ := Aside0.mk (IsS167.below (r7_ HI0.out NB0_303.out) hb)
        have n4_ := Aside0.mk (blk_below (g := gb303) (o := .cells #[.int .i64 x8_1, .int .i64 t296, .int .i64 t300] 103 (0, 0)) (r1_ BK303.out) hb)
        have n5_ := Aside0.mk (KeepBut.trans (r5_ HK.out GW303.out) (KeepBut.of_below hb g none) (.inl rfl))
        have n6_ := Aside0.mk (below_step (r10_ HB.out HI0.out GE303.out) hb)
        clear HO_5
        clear HO_7
        clear HI0
        clear BK303
        clear HK
        clear HB
        have HO_5 := n0_
        have HO_7 := n1_
        have HO306 := n2_
        have HI0 := n3_
        have BK303 := n4_
        have HK := n5_
        have HB := n6_
        clear n0_ n1_ n2_ n3_ n4_ n5_ n6_
        clear hb ho29
        refine hK.out _ _ ⟨(blk_cell BK303.out 0).trans rfl, (blk_cell BK303.out 1).trans rfl, (blk_cell BK303.out 2).trans rfl⟩ (fun hHeld => ?_)
        clear hK K
        refine norm_ (a' := ?_) ?_ ?_
        rotate_left
        ·show Act.put _ (some 36) _ = _
         simp only [pz_]
         rfl
        refine two_ (i := 2) (j := 4) (Ni := some 38) (Nj := some 40) #[t_,t_,t_,t_,f_,f_,f_] #[t_,t_,f_,t_,t_,f_,f_] rfl rfl rfl rfl (by kernel_rfl) (by decide) (by decide) (fun K hK => ?_) (fun K hK => ?_)
        ·skip
         refine Kd.R_append_rows_step k103 w.heap.size (by rfl) (.tmp 36) (.tmp 37) 26 103 (.agg #[(.int .i64 0), (.int .i64 0), (.int .i64 0)]) 24 rfl Try.underlying26 info103 rfl (by decide) (by omega) v305 y304 x7_1 _ _ _ (fun k_ => some k_ ≠ (.slice Ao25 x7_1.length co25 : Value).ownBlock ∧ k_ ≠ gb303) (fun _ => False) rfl rfl ?aO ?aR (fun _ _ h => h) (fun _ h => h.elim) ?aF (Below.refl _ _) ?aS ?aL ?_
         (case aR => exact r8_ HO_7.out)
         (case aF => exact (fun k_ hk => ⟨Kd.fresh' (Kd.R_lt (rk_ HO_7.out)) k_ hk, Kd.freshB (g := gb303) (o := .cells #[.int .i64 x8_1, .int .i64 t296, .int .i64 t300] 103 (0, 0)) (r1_ BK303.out) k_ hk⟩))
         (case aO => exact (rk_ (Kd.R_mono HO306.out (fun _ hk => ⟨hk.1.2, hk.2⟩))))
         (case aS => exact (keep_size (w := w) (g := g) (row := none) (r5_ HK.out GW303.out)))
         (case aL => have := LMc13.out; omega)
         intro v308 w30 ho hb hg hat
         rw [← Ny307.out] at ho
         have n0_ := Aside0.mk (Kd.R_over' (rk_ HO_5.out) (Kd.R_typed (rk_ HO306.out)) (by decide) hg)
         have n1_ := Aside0.mk (Kd.R_after (ok := (fun k_ => k_ ≠ gb303)) (rk_ HO_7.out) hg hat)
         have n2_ := Aside0.mk (IsS167.grown (r7_ HI0.out NB0_303.out) hg (IsS167.own_ne HI0.out HO306.out (by decide)))
         have n3_ := Aside0.mk (blk_grown (g := gb303) (o := .cells #[.int .i64 x8_1, .int .i64 t296, .int .i64 t300] 103 (0, 0)) (r1_ BK303.out) hg (Kd.R_away HO306.out (fun _ hk => hk.2)))
         have n4_ := Aside0.mk (below_weaken (r10_ HB.out HI0.out GE303.out) HL.out hb)
         have n5_ := Aside0.mk (KeepBut.trans (r5_ HK.out GW303.out) (KeepBut.of_grown hg g) (Kd.R_base2 HO306.out))
         have n6_ := Aside0.mk (ho)
         clear HO_5
         clear HO_7
         clear HI0
         clear BK303
         clear HB
         clear HK
         clear HO306
         have HO_5 := n0_
         have HO_7 := n1_
         have HI0 := n2_
         have BK303 := n3_
         have HB := n4_
         have HK := n5_
         have HO309 := n6_
         clear n0_ n1_ n2_ n3_ n4_ n5_ n6_
         clear ho hb hg hat
         refine hK.out _ _ ⟨(blk_cell BK303.out 0).trans rfl, (blk_cell BK303.out 1).trans rfl, (blk_cell BK303.out 2).trans rfl⟩ (fun hHeld => ?_)
         clear hK K
         refine norm_ (a' := ?_) ?_ ?_
         rotate_left
         ·show Act.put _ (some 38) _ = _
          simp only [pz_]
          rfl
         refine one_ (i := 4) (N := some 40) #[t_,t_,t_,t_,t_,f_,f_] rfl rfl (by kernel_rfl) (by decide) (fun K hK => ?_)
         refine Kd.R_lit_step k103 _ 103 ?hg (N := 40) ?hd (xs := ([(⟨x8_1, t296, t300⟩ : S103)] : List (S103))) (inner := [.int .i64 x8_1, .int .i64 t296, .int .i64 t300]) (ok := fun _ => True) (okp := fun _ => True) ?hr ?hp (fun _ hk => hk) trivial (Below.refl _ _) (Nat.le_refl _) (by simp) ?_; (case hd => rfl); (case hg => rfl); (case hr => first | (go_simp; done) | (go_simp; rfl)); (case hp => exact (Reps.c3 (show Kd.M k103 _ _ _ (⟨x8_1, t296, t300⟩ : S103) [.int .i64 x8_1, .int .i64 t296, .int .i64 t300] from (k103_mkM _ _ _ (⟨x8_1, t296, t300⟩ : S103) )) (Reps.none _ _)))
         intro v311 w31 ho32 hb hg_ hnew_
         clear hg_ hnew_
         (first | rw [← Ny310.out] at ho32 | (simp only [Int.reduceToNat] at ho32; rw [← Ny310.out] at ho32))
         have n0_ := Aside0.mk (Kd.R_below (rk_ HO_5.out) hb)
         have n1_ := Aside0.mk (Kd.R_elder' (rk_ HO_7.out) (Kd.R_base ho32) hb)
         have n2_ := Aside0.mk (Kd.R_elder' (rk_ HO309.out) (Kd.R_base ho32) hb)
         have n3_ := Aside0.mk (Kd.R_lower (Kd.R_newB (Kd.R_new' (Kd.R_new' ho32 (Kd.R_lt (rk_ HO_7.out))) (Kd.R_lt (rk_ HO309.out))) (g := gb303) (o := .cells #[.int .i64 x8_1, .int .i64 t296, .int .i64 t300] 103 (0, 0)) (r1_ BK303.out)) (keep_size (w := w) (g := g) (row := none) (r5_ HK.out GW303.out)))
         have n4_ := Aside0.mk (IsS167.below (r7_ HI0.out NB0_303.out) hb)
         have n5_ := Aside0.mk (blk_below (g := gb303) (o := .cells #[.int .i64 x8_1, .int .i64 t296, .int .i64 t300] 103 (0, 0)) (r1_ BK303.out) hb)
         have n6_ := Aside0.mk (KeepBut.trans (r5_ HK.out GW303.out) (KeepBut.of_below hb g none) (.inl rfl))
         have n7_ := Aside0.mk (below_step (r10_ HB.out HI0.out GE303.out) hb)
         clear HO_5
         clear HO_7
         clear HO309
         clear HI0
         clear BK303
         clear HK
         clear HB
         have HO_5 := n0_
         have HO_7 := n1_
         have HO309 := n2_
         have HO312 := n3_
         have HI0 := n4_
         have BK303 := n5_
         have HK := n6_
         have HB := n7_
         clear n0_ n1_ n2_ n3_ n4_ n5_ n6_ n7_
         clear hb ho32
         refine hK.out _ _ ⟨(blk_cell BK303.out 0).trans rfl, (blk_cell BK303.out 1).trans rfl, (blk_cell BK303.out 2).trans rfl⟩ (fun hHeld => ?_)
         clear hK K
         refine norm_ (a' := ?_) ?_ ?_
         rotate_left
         ·show Act.put _ (some 40) _ = _
          simp only [pz_]
          rfl
         exact norm_ (by simp only [putAll, Act.put, List.setIfInBounds_toArray, List.set_cons_zero, List.set_cons_succ]) (hCont (v305, v308, v311) _ ⟨hHeld, (rk_ (Kd.R_mono HO309.out (fun _ hk => ⟨hk.2, ⟨hk.1.1, hk.1.2⟩⟩))), (rk_ (Kd.R_mono HO312.out (fun _ hk => ⟨hk.1.2, ⟨hk.1.1.2, hk.2⟩⟩))), (rk_ HO_5.out), (rk_ (Kd.R_mono HO_7.out (fun _ hk => ⟨hk.1.2, ⟨hk.2, hk.1.1⟩⟩))), (r1_ BK303.out), (r7_ HI0.out NB0_303.out), (r5_ HK.out GW303.out), (r10_ HB.out HI0.out GE303.out)⟩)
        ·skip
         refine Kd.R_lit_step k103 _ 103 ?hg (N := 40) ?hd (xs := ([(⟨x8_1, t296, t300⟩ : S103)] : List (S103))) (inner := [.int .i64 x8_1, .int .i64 t296, .int .i64 t300]) (ok := fun _ => True) (okp := fun _ => True) ?hr ?hp (fun _ hk => hk) trivial (Below.refl _ _) (Nat.le_refl _) (by simp) ?_; (case hd => rfl); (case hg => rfl); (case hr => first | (go_simp; done) | (go_simp; rfl)); (case hp => exact (Reps.c3 (show Kd.M k103 _ _ _ (⟨x8_1, t296, t300⟩ : S103) [.int .i64 x8_1, .int .i64 t296, .int .i64 t300] from (k103_mkM _ _ _ (⟨x8_1, t296, t300⟩ : S103) )) (Reps.none _ _)))
         intro v311 w30 ho31 hb hg_ hnew_
         clear hg_ hnew_
         (first | rw [← Ny310.out] at ho31 | (simp only [Int.reduceToNat] at ho31; rw [← Ny310.out] at ho31))
         have n0_ := Aside0.mk (Kd.R_below (rk_ HO_5.out) hb)
         have n1_ := Aside0.mk (Kd.R_elder' (rk_ HO_7.out) (Kd.R_base ho31) hb)
         have n2_ := Aside0.mk (Kd.R_elder' (rk_ HO306.out) (Kd.R_base ho31) hb)
         have n3_ := Aside0.mk (Kd.R_lower (Kd.R_newB (Kd.R_new' (Kd.R_new' ho31 (Kd.R_lt (rk_ HO_7.out))) (Kd.R_lt (rk_ HO306.out))) (g := gb303) (o := .cells #[.int .i64 x8_1, .int .i64 t296, .int .i64 t300] 103 (0, 0)) (r1_ BK303.out)) (keep_size (w := w) (g := g) (row := none) (r5_ HK.out GW303.out)))
         have n4_ := Aside0.mk (IsS167.below (r7_ HI0.out NB0_303.out) hb)
         have n5_ := Aside0.mk (blk_below (g := gb303) (o := .cells #[.int .i64 x8_1, .int .i64 t296, .int .i64 t300] 103 (0, 0)) (r1_ BK303.out) hb)
         have n6_ := Aside0.mk (KeepBut.trans (r5_ HK.out GW303.out) (KeepBut.of_below hb g none) (.inl rfl))
         have n7_ := Aside0.mk (below_step (r10_ HB.out HI0.out GE303.out) hb)
         clear HO_5
         clear HO_7
         clear HO306
         clear HI0
         clear BK303
         clear HK
         clear HB
         have HO_5 := n0_
         have HO_7 := n1_
         have HO306 := n2_
         have HO312 := n3_
         have HI0 := n4_
         have BK303 := n5_
         have HK := n6_
         have HB := n7_
         clear n0_ n1_ n2_ n3_ n4_ n5_ n6_ n7_
         clear hb ho31
         refine hK.out _ _ ⟨(blk_cell BK303.out 0).trans rfl, (blk_cell BK303.out 1).trans rfl, (blk_cell BK303.out 2).trans rfl⟩ (fun hHeld => ?_)
         clear hK K
         refine norm_ (a' := ?_) ?_ ?_
         rotate_left
         ·show Act.put _ (some 40) _ = _
          simp only [pz_]
          rfl
         refine one_ (i := 2) (N := some 38) #[t_,t_,t_,t_,t_,f_,f_] rfl rfl (by kernel_rfl) (by decide) (fun K hK => ?_)
         refine Kd.R_append_rows_step k103 w.heap.size (by rfl) (.tmp 36) (.tmp 37) 26 103 (.agg #[(.int .i64 0), (.int .i64 0), (.int .i64 0)]) 24 rfl Try.underlying26 info103 rfl (by decide) (by omega) v305 y304 x7_1 _ _ _ (fun k_ => some k_ ≠ (.slice Ao25 x7_1.length co25 : Value).ownBlock ∧ some k_ ≠ (v311 : Value).ownBlock ∧ k_ ≠ gb303) (fun _ => False) rfl rfl ?aO ?aR (fun _ _ h => h) (fun _ h => h.elim) ?aF (Below.refl _ _) ?aS ?aL ?_
         (case aR => exact r8_ HO_7.out)
         (case aF => exact (fun k_ hk => ⟨Kd.fresh' (Kd.R_lt (rk_ HO_7.out)) k_ hk, Kd.fresh' (Kd.R_lt (rk_ HO312.out)) k_ hk, Kd.freshB (g := gb303) (o := .cells #[.int .i64 x8_1, .int .i64 t296, .int .i64 t300] 103 (0, 0)) (r1_ BK303.out) k_ hk⟩))
         (case aO => exact (rk_ (Kd.R_mono HO306.out (fun _ hk => ⟨hk.1.1.2, ⟨hk.2, hk.1.2⟩⟩))))
         (case aS => exact (keep_size (w := w) (g := g) (row := none) (r5_ HK.out GW303.out)))
         (case aL => have := LMc13.out; omega)
         intro v308 w32 ho hb hg hat
         rw [← Ny307.out] at ho
         have n0_ := Aside0.mk (Kd.R_over' (rk_ HO_5.out) (Kd.R_typed (rk_ HO306.out)) (by decide) hg)
         have n1_ := Aside0.mk (Kd.R_after (ok := (fun k_ => some k_ ≠ (v311 : Value).ownBlock ∧ k_ ≠ gb303)) (rk_ (Kd.R_mono HO_7.out (fun _ hk => ⟨⟨hk.2, hk.1.1⟩, hk.1.2⟩))) hg hat)
         have n2_ := Aside0.mk (IsS167.grown (r7_ HI0.out NB0_303.out) hg (IsS167.own_ne HI0.out HO306.out (by decide)))
         have n3_ := Aside0.mk (blk_grown (g := gb303) (o := .cells #[.int .i64 x8_1, .int .i64 t296, .int .i64 t300] 103 (0, 0)) (r1_ BK303.out) hg (Kd.R_away HO306.out (fun _ hk => hk.1.2)))
         have n4_ := Aside0.mk (Kd.R_after (ok := (fun k_ => some k_ ≠ (.slice Ao25 x7_1.length co25 : Value).ownBlock ∧ k_ ≠ gb303)) (rk_ (Kd.R_mono HO312.out (fun _ hk => ⟨⟨hk.1.1.2, hk.2⟩, hk.1.2⟩))) hg hat)
         have n5_ := Aside0.mk (below_weaken (r10_ HB.out HI0.out GE303.out) HL.out hb)
         have n6_ := Aside0.mk (KeepBut.trans (r5_ HK.out GW303.out) (KeepBut.of_grown hg g) (Kd.R_base2 HO306.out))
         have n7_ := Aside0.mk (ho)
         clear HO_5
         clear HO_7
         clear HI0
         clear BK303
         clear HO312
         clear HB
         clear HK
         clear HO306
         have HO_5 := n0_
         have HO_7 := n1_
         have HI0 := n2_
         have BK303 := n3_
         have HO312 := n4_
         have HB := n5_
         have HK := n6_
         have HO309 := n7_
         clear n0_ n1_ n2_ n3_ n4_ n5_ n6_ n7_
         clear ho hb hg hat
         refine hK.out _ _ ⟨(blk_cell BK303.out 0).trans rfl, (blk_cell BK303.out 1).trans rfl, (blk_cell BK303.out 2).trans rfl⟩ (fun hHeld => ?_)
         clear hK K
         refine norm_ (a' := ?_) ?_ ?_
         rotate_left
         ·show Act.put _ (some 38) _ = _
          simp only [pz_]
          rfl
         exact norm_ (by simp only [putAll, Act.put, List.setIfInBounds_toArray, List.set_cons_zero, List.set_cons_succ]) (hCont (v305, v308, v311) _ ⟨hHeld, (rk_ (Kd.R_mono HO309.out (fun _ hk => ⟨hk.2.1, ⟨hk.1, hk.2.2⟩⟩))), (rk_ (Kd.R_mono HO312.out (fun _ hk => ⟨hk.2, ⟨hk.1.1, hk.1.2⟩⟩))), (rk_ HO_5.out), (rk_ (Kd.R_mono HO_7.out (fun _ hk => ⟨hk.2, ⟨hk.1.1, hk.1.2⟩⟩))), (r1_ BK303.out), (r7_ HI0.out NB0_303.out), (r5_ HK.out GW303.out), (r10_ HB.out HI0.out GE303.out)⟩)
       ·skip
        refine Kd.R_lit_step k103 _ 103 ?hg (N := 40) ?hd (xs := ([(⟨x8_1, t296, t300⟩ : S103)] : List (S103))) (inner := [.int .i64 x8_1, .int .i64 t296, .int .i64 t300]) (ok := fun _ => True) (okp := fun _ => True) ?hr ?hp (fun _ hk => hk) trivial (Below.refl _ _) (Nat.le_refl _) (by simp) ?_; (case hd => rfl); (case hg => rfl); (case hr => first | (go_simp; done) | (go_simp; rfl)); (case hp => exact (Reps.c3 (show Kd.M k103 _ _ _ (⟨x8_1, t296, t300⟩ : S103) [.int .i64 x8_1, .int .i64 t296, .int .i64 t300] from (k103_mkM _ _ _ (⟨x8_1, t296, t300⟩ : S103) )) (Reps.none _ _)))
        intro v311 w28 ho29 hb hg_ hnew_
        clear hg_ hnew_
        (first | rw [← Ny310.out] at ho29 | (simp only [Int.reduceToNat] at ho29; rw [← Ny310.out] at ho29))
        have n0_ := Aside0.mk (Kd.R_below (rk_ HO_5.out) hb)
        have n1_ := Aside0.mk (Kd.R_elder' (rk_ HO_7.out) (Kd.R_base ho29) hb)
        have n2_ := Aside0.mk (Kd.R_lower (Kd.R_newB (Kd.R_new' ho29 (Kd.R_lt (rk_ HO_7.out))) (g := gb303) (o := .cells #[.int .i64 x8_1, .int .i64 t296, .int .i64 t300] 103 (0, 0)) (r1_ BK303.out)) (keep_size (w := w) (g := g) (row := none) (r5_ HK.out GW303.out)))
        have n3_ := Aside0.mk (IsS167.below (r7_ HI0.out NB0_303.out) hb)
        have n4_ := Aside0.mk (blk_below (g := gb303) (o := .cells #[.int .i64 x8_1, .int .i64 t296, .int .i64 t300] 103 (0, 0)) (r1_ BK303.out) hb)
        have n5_ := Aside0.mk (KeepBut.trans (r5_ HK.out GW303.out) (KeepBut.of_below hb g none) (.inl rfl))
        have n6_ := Aside0.mk (below_step (r10_ HB.out HI0.out GE303.out) hb)
        clear HO_5
        clear HO_7
        clear HI0
        clear BK303
        clear HK
        clear HB
        have HO_5 := n0_
        have HO_7 := n1_
        have HO312 := n2_
        have HI0 := n3_
        have BK303 := n4_
        have HK := n5_
        have HB := n6_
        clear n0_ n1_ n2_ n3_ n4_ n5_ n6_
        clear hb ho29
        refine hK.out _ _ ⟨(blk_cell BK303.out 0).trans rfl, (blk_cell BK303.out 1).trans rfl, (blk_cell BK303.out 2).trans rfl⟩ (fun hHeld => ?_)
        clear hK K
        refine norm_ (a' := ?_) ?_ ?_
        rotate_left
        ·show Act.put _ (some 40) _ = _
         simp only [pz_]
         rfl
        refine one_ (i := 0) (N := some 36) #[t_,t_,f_,t_,t_,f_,f_] rfl rfl (by kernel_rfl) (by decide) (fun K hK => ?_)
        refine Kd.R_lit_step k103 _ 103 ?hg (N := 36) ?hd (xs := ([] : List (S103))) (inner := []) (ok := fun _ => True) (okp := fun _ => True) ?hr ?hp (fun _ hk => hk) trivial (Below.refl _ _) (Nat.le_refl _) (by simp) ?_; (case hd => rfl); (case hg => rfl); (case hr => first | (go_simp; done) | (go_simp; rfl)); (case hp => exact (Reps.none _ _))
        intro v305 w30 ho31 hb hg_ hnew_
        clear hg_ hnew_
        (first | rw [← Ny304.out] at ho31 | (simp only [Int.reduceToNat] at ho31; rw [← Ny304.out] at ho31))
        have n0_ := Aside0.mk (Kd.R_below (rk_ HO_5.out) hb)
        have n1_ := Aside0.mk (Kd.R_elder' (rk_ HO_7.out) (Kd.R_base ho31) hb)
        have n2_ := Aside0.mk (Kd.R_elder' (rk_ HO312.out) (Kd.R_base ho31) hb)
        have n3_ := Aside0.mk (Kd.R_lower (Kd.R_newB (Kd.R_new' (Kd.R_new' ho31 (Kd.R_lt (rk_ HO_7.out))) (Kd.R_lt (rk_ HO312.out))) (g := gb303) (o := .cells #[.int .i64 x8_1, .int .i64 t296, .int .i64 t300] 103 (0, 0)) (r1_ BK303.out)) (keep_size (w := w) (g := g) (row := none) (r5_ HK.out GW303.out)))
        have n4_ := Aside0.mk (IsS167.below (r7_ HI0.out NB0_303.out) hb)
        have n5_ := Aside0.mk (blk_below (g := gb303) (o := .cells #[.int .i64 x8_1, .int .i64 t296, .int .i64 t300] 103 (0, 0)) (r1_ BK303.out) hb)
        have n6_ := Aside0.mk (KeepBut.trans (r5_ HK.out GW303.out) (KeepBut.of_below hb g none) (.inl rfl))
        have n7_ := Aside0.mk (below_step (r10_ HB.out HI0.out GE303.out) hb)
        clear HO_5
        clear HO_7
        clear HO312
        clear HI0
        clear BK303
        clear HK
        clear HB
        have HO_5 := n0_
        have HO_7 := n1_
        have HO312 := n2_
        have HO306 := n3_
        have HI0 := n4_
        have BK303 := n5_
        have HK := n6_
        have HB := n7_
        clear n0_ n1_ n2_ n3_ n4_ n5_ n6_ n7_
        clear hb ho31
        refine hK.out _ _ ⟨(blk_cell BK303.out 0).trans rfl, (blk_cell BK303.out 1).trans rfl, (blk_cell BK303.out 2).trans rfl⟩ (fun hHeld => ?_)
        clear hK K
        refine norm_ (a' := ?_) ?_ ?_
        rotate_left
        ·show Act.put _ (some 36) _ = _
         simp only [pz_]
         rfl
        refine one_ (i := 2) (N := some 38) #[t_,t_,t_,t_,t_,f_,f_] rfl rfl (by kernel_rfl) (by decide) (fun K hK => ?_)
        refine Kd.R_append_rows_step k103 w.heap.size (by rfl) (.tmp 36) (.tmp 37) 26 103 (.agg #[(.int .i64 0), (.int .i64 0), (.int .i64 0)]) 24 rfl Try.underlying26 info103 rfl (by decide) (by omega) v305 y304 x7_1 _ _ _ (fun k_ => some k_ ≠ (.slice Ao25 x7_1.length co25 : Value).ownBlock ∧ some k_ ≠ (v311 : Value).ownBlock ∧ k_ ≠ gb303) (fun _ => False) rfl rfl ?aO ?aR (fun _ _ h => h) (fun _ h => h.elim) ?aF (Below.refl _ _) ?aS ?aL ?_
        (case aR => exact r8_ HO_7.out)
        (case aF => exact (fun k_ hk => ⟨Kd.fresh' (Kd.R_lt (rk_ HO_7.out)) k_ hk, Kd.fresh' (Kd.R_lt (rk_ HO312.out)) k_ hk, Kd.freshB (g := gb303) (o := .cells #[.int .i64 x8_1, .int .i64 t296, .int .i64 t300] 103 (0, 0)) (r1_ BK303.out) k_ hk⟩))
        (case aO => exact (rk_ (Kd.R_mono HO306.out (fun _ hk => ⟨hk.1.1.2, ⟨hk.1.2, hk.2⟩⟩))))
        (case aS => exact (keep_size (w := w) (g := g) (row := none) (r5_ HK.out GW303.out)))
        (case aL => have := LMc13.out; omega)
        intro v308 w32 ho hb hg hat
        rw [← Ny307.out] at ho
        have n0_ := Aside0.mk (Kd.R_over' (rk_ HO_5.out) (Kd.R_typed (rk_ HO306.out)) (by decide) hg)
        have n1_ := Aside0.mk (Kd.R_after (ok := (fun k_ => some k_ ≠ (v311 : Value).ownBlock ∧ k_ ≠ gb303)) (rk_ (Kd.R_mono HO_7.out (fun _ hk => ⟨⟨hk.1.2, hk.1.1⟩, hk.2⟩))) hg hat)
        have n2_ := Aside0.mk (IsS167.grown (r7_ HI0.out NB0_303.out) hg (IsS167.own_ne HI0.out HO306.out (by decide)))
        have n3_ := Aside0.mk (blk_grown (g := gb303) (o := .cells #[.int .i64 x8_1, .int .i64 t296, .int .i64 t300] 103 (0, 0)) (r1_ BK303.out) hg (Kd.R_away HO306.out (fun _ hk => hk.2)))
        have n4_ := Aside0.mk (Kd.R_after (ok := (fun k_ => some k_ ≠ (.slice Ao25 x7_1.length co25 : Value).ownBlock ∧ k_ ≠ gb303)) (rk_ (Kd.R_mono HO312.out (fun _ hk => ⟨⟨hk.1.1.2, hk.1.2⟩, hk.2⟩))) hg hat)
        have n5_ := Aside0.mk (below_weaken (r10_ HB.out HI0.out GE303.out) HL.out hb)
        have n6_ := Aside0.mk (KeepBut.trans (r5_ HK.out GW303.out) (KeepBut.of_grown hg g) (Kd.R_base2 HO306.out))
        have n7_ := Aside0.mk (ho)
        clear HO_5
        clear HO_7
        clear HI0
        clear BK303
        clear HO312
        clear HB
        clear HK
        clear HO306
        have HO_5 := n0_
        have HO_7 := n1_
        have HI0 := n2_
        have BK303 := n3_
        have HO312 := n4_
        have HB := n5_
        have HK := n6_
        have HO309 := n7_
        clear n0_ n1_ n2_ n3_ n4_ n5_ n6_ n7_
        clear ho hb hg hat
        refine hK.out _ _ ⟨(blk_cell BK303.out 0).trans rfl, (blk_cell BK303.out 1).trans rfl, (blk_cell BK303.out 2).trans rfl⟩ (fun hHeld => ?_)
        clear hK K
        refine norm_ (a' := ?_) ?_ ?_
        rotate_left
        ·show Act.put _ (some 38) _ = _
         simp only [pz_]
         rfl
        exact norm_ (by simp only [putAll, Act.put, List.setIfInBounds_toArray, List.set_cons_zero, List.set_cons_succ]) (hCont (v305, v308, v311) _ ⟨hHeld, (rk_ (Kd.R_mono HO309.out (fun _ hk => ⟨hk.2.1, ⟨hk.1, hk.2.2⟩⟩))), (rk_ (Kd.R_mono HO312.out (fun _ hk => ⟨hk.2, ⟨hk.1.1, hk.1.2⟩⟩))), (rk_ HO_5.out), (rk_ (Kd.R_mono HO_7.out (fun _ hk => ⟨hk.2, ⟨hk.1.1, hk.1.2⟩⟩))), (r1_ BK303.out), (r7_ HI0.out NB0_303.out), (r5_ HK.out GW303.out), (r10_ HB.out HI0.out GE303.out)⟩)
      rintro ⟨v305, v308, v311⟩ w33 ⟨hS_, h0_, h1_, h2_, h3_, h4_, h5_, h6_, h7_⟩
      have n0_ : Aside0 (Kd.R k103 103 w33 w.heap.size (fun k_ => some k_ ≠ (v311 : Value).ownBlock ∧ some k_ ≠ (.slice Ao25 x7_1.length co25 : Value).ownBlock ∧ k_ ≠ gb303) v308 y307) := ⟨h0_⟩
      have n1_ : Aside0 (Kd.R k103 103 w33 w.heap.size (fun k_ => some k_ ≠ (v308 : Value).ownBlock ∧ some k_ ≠ (.slice Ao25 x7_1.length co25 : Value).ownBlock ∧ k_ ≠ gb303) v311 y310) := ⟨h1_⟩
      have n2_ : Aside0 (Kd.R k98 98 w33 w.heap.size (fun _ => True) (.slice (some ad299) t285.length co19) t285) := ⟨h2_⟩
      have n3_ : Aside0 (Kd.R k103 103 w33 w.heap.size (fun k_ => some k_ ≠ (v308 : Value).ownBlock ∧ some k_ ≠ (v311 : Value).ownBlock ∧ k_ ≠ gb303) (.slice Ao25 x7_1.length co25) x7_1) := ⟨h3_⟩
      have n4_ : Aside0 (w33.heap[gb303]? = some (.cells #[.int .i64 x8_1, .int .i64 t296, .int .i64 t300] 103 (0, 0))) := ⟨h4_⟩
      have n5_ : Aside0 (IsS167 w0 w33 g s0_0 t301 t302) := ⟨h5_⟩
      have n6_ : Aside0 (KeepBut w w33 g none) := ⟨h6_⟩
      have n7_ : Aside0 (Below w0.heap.size w0 w33) := ⟨h7_⟩
      clear HO_5
      clear HO_7
      clear BK303
      clear HI0
      clear HK
      clear HB
      clear h0_ h1_ h2_ h3_ h4_ h5_ h6_ h7_
      have HO309 := n0_
      have HO312 := n1_
      have HO_5 := n2_
      have HO_7 := n3_
      have BK303 := n4_
      have HI0 := n5_
      have HK := n6_
      have HB := n7_
      clear n0_ n1_ n2_ n3_ n4_ n5_ n6_ n7_
      have hHeld : w33.cell? ⟨gb303, 0, none⟩ = some (.int .i64 x8_1) ∧ w33.cell? ⟨gb303, 1, none⟩ = some (.int .i64 t296) ∧ w33.cell? ⟨gb303, 2, none⟩ = some (.int .i64 t300) := hS_
      obtain ⟨Ao35, co35, eo35⟩ := Kd.R_slice HO312.out
      (first | subst eo35 | (injection eo35 with f1_ f2_ f3_; have f4_ := f1_.symm; have f5_ := f3_.symm; clear f1_ f2_ f3_; subst f4_; subst f5_))
      refine norm_ (a' := ?_) ?_ ?_
      rotate_left
      ·simp only [putAll, Act.put, List.setIfInBounds_toArray, List.set_cons_zero, List.set_cons_succ]
       rfl
      refine one_ (i := 5) (N := some 41) #[t_,t_,t_,t_,t_,t_,f_] rfl rfl (by kernel_rfl) (by decide) (fun K hK => ?_)
      refine Kd.R_append_rows_step k103 w.heap.size (by rfl) (.tmp 38) (.tmp 40) 26 103 (.agg #[(.int .i64 0), (.int .i64 0), (.int .i64 0)]) 24 rfl Try.underlying26 info103 rfl (by decide) (by omega) v308 y307 y310 _ _ _ (fun k_ => some k_ ≠ (.slice Ao25 x7_1.length co25 : Value).ownBlock ∧ some k_ ≠ (.slice Ao35 y310.length co35 : Value).ownBlock ∧ k_ ≠ gb303) (fun _ => False) rfl rfl ?aO ?aR (fun _ _ h => h) (fun _ h => h.elim) ?aF (Below.refl _ _) ?aS ?aL ?_
      (case aR => exact r8_ HO312.out)
      (case aF => exact (fun k_ hk => ⟨Kd.fresh' (Kd.R_lt (rk_ HO_7.out)) k_ hk, Kd.fresh' (Kd.R_lt (rk_ HO312.out)) k_ hk, Kd.freshB (g := gb303) (o := .cells #[.int .i64 x8_1, .int .i64 t296, .int .i64 t300] 103 (0, 0)) (r1_ BK303.out) k_ hk⟩))
      (case aO => exact (rk_ (Kd.R_mono HO309.out (fun _ hk => ⟨hk.2.1, ⟨hk.1, hk.2.2⟩⟩))))
      (case aS => exact (keep_size (w := w) (g := g) (row := none) (r5_ HK.out GW303.out)))
      (case aL => have := LMc14.out; omega)
      intro v314 w34 ho hb hg hat
      rw [← Ny313.out] at ho
      have n0_ := Aside0.mk (Kd.R_over' (rk_ HO_5.out) (Kd.R_typed (rk_ HO309.out)) (by decide) hg)
      have n1_ := Aside0.mk (Kd.R_after (ok := (fun k_ => some k_ ≠ (.slice Ao35 y310.length co35 : Value).ownBlock ∧ k_ ≠ gb303)) (rk_ (Kd.R_mono HO_7.out (fun _ hk => ⟨⟨hk.2.1, hk.2.2⟩, hk.1⟩))) hg hat)
      have n2_ := Aside0.mk (IsS167.grown (r7_ HI0.out NB0_303.out) hg (IsS167.own_ne HI0.out HO309.out (by decide)))
      have n3_ := Aside0.mk (blk_grown (g := gb303) (o := .cells #[.int .i64 x8_1, .int .i64 t296, .int .i64 t300] 103 (0, 0)) (r1_ BK303.out) hg (Kd.R_away HO309.out (fun _ hk => hk.2.2)))
      have n4_ := Aside0.mk (Kd.R_after (ok := (fun k_ => some k_ ≠ (.slice Ao25 x7_1.length co25 : Value).ownBlock ∧ k_ ≠ gb303)) (rk_ (Kd.R_mono HO312.out (fun _ hk => ⟨⟨hk.2.1, hk.2.2⟩, hk.1⟩))) hg hat)
      have n5_ := Aside0.mk (below_weaken (r10_ HB.out HI0.out GE303.out) HL.out hb)
      have n6_ := Aside0.mk (KeepBut.trans (r5_ HK.out GW303.out) (KeepBut.of_grown hg g) (Kd.R_base2 HO309.out))
      have n7_ := Aside0.mk (ho)
      clear HO_5
      clear HO_7
      clear HI0
      clear BK303
      clear HO312
      clear HB
      clear HK
      clear HO309
      have HO_5 := n0_
      have HO_7 := n1_
      have HI0 := n2_
      have BK303 := n3_
      have HO312 := n4_
      have HB := n5_
      have HK := n6_
      have HO315 := n7_
      clear n0_ n1_ n2_ n3_ n4_ n5_ n6_ n7_
      clear ho hb hg hat
      refine hK.out _ _ ⟨(blk_cell BK303.out 0).trans rfl, (blk_cell BK303.out 1).trans rfl, (blk_cell BK303.out 2).trans rfl⟩ (fun hHeld => ?_)
      clear hK K
      refine norm_ (a' := ?_) ?_ ?_
      rotate_left
      ·show Act.put _ (some 41) _ = _
       simp only [pz_]
       rfl
      refine pure_ (i := 6) (N := some 11) (v := ?_) (a' := ?_) #[t_,t_,t_,t_,t_,t_,t_] rfl rfl (by kernel_rfl) (fun _ _ _ h => h) (Or.inl ⟨by rfl, ?_⟩) ?_ ?_
      rotate_left
      ·intro w'
       go_simp
       with_reducible rfl
      rotate_left
      ·simp only [pz_]
       rfl
      refine done_ (by kernel_rfl) ?_
      try go_wp2_with (first | ((with_reducible refine gate_callee (f := 119) rfl ?_); refine goesL_ (some 43) rfl rfl Try.func119 (by kernel_rfl) rfl #[.pointer (some ⟨g, 0, none⟩), .int .i64 3] rfl ag_ ?_; (with_reducible refine (spec_l01Next.calls g s0_0 t301 t302 3 t316 t317 t318 w0 _ ?side1 ?side2 A15.out).mono ?_); (case side1 => exact r7_ HI0.out NB0_303.out); (case side2 => exact r10_ HB.out HI0.out GE303.out); rintro e w36 ⟨rfl, hi, hb, hk⟩; refine ⟨_, rfl, ?_⟩; have n0_ := Aside0.mk (Kd.R_mono (Kd.R_keep (IsS167.apart (show IsS167 w0 _ g s0_0 t301 t302 from r7_ HI0.out NB0_303.out) (rk_ HO_5.out) (by decide)) hk (fun _ h => h.2)) (fun _ h => h.1)); have n1_ := Aside0.mk (Kd.R_mono (Kd.R_keep (IsS167.apart (show IsS167 w0 _ g s0_0 t301 t302 from r7_ HI0.out NB0_303.out) (rk_ HO_7.out) (by decide)) hk (fun _ h => h.2)) (fun _ h => h.1)); have n2_ := Aside0.mk (KeepBut.blk hk (g' := gb303) (o := .cells #[.int .i64 x8_1, .int .i64 t296, .int .i64 t300] 103 (0, 0)) (r1_ BK303.out) NB303_0.out (by simp)); have n3_ := Aside0.mk (Kd.R_mono (Kd.R_keep (IsS167.apart (show IsS167 w0 _ g s0_0 t301 t302 from r7_ HI0.out NB0_303.out) (rk_ HO312.out) (by decide)) hk (fun _ h => h.2)) (fun _ h => h.1)); have n4_ := Aside0.mk (Kd.R_mono (Kd.R_keep (IsS167.apart (show IsS167 w0 _ g s0_0 t301 t302 from r7_ HI0.out NB0_303.out) (rk_ HO315.out) (by decide)) hk (fun _ h => h.2)) (fun _ h => h.1)); have n5_ := Aside0.mk (KeepBut.trans (r5_ HK.out GW303.out) hk (.inl rfl)); have n6_ := Aside0.mk (hb); have n7_ := Aside0.mk (hi); clear HO_5; clear HO_7; clear BK303; clear HO312; clear HO315; clear HK; clear HB; clear HI0; have HO_5 := n0_; have HO_7 := n1_; have BK303 := n2_; have HO312 := n3_; have HO315 := n4_; have HK := n5_; have HB := n6_; have HI0 := n7_; clear n0_ n1_ n2_ n3_ n4_ n5_ n6_ n7_; (try clear hb); (try clear hb2); (try clear hk); (try clear hi); obtain ⟨Ao37, co37, eo37⟩ := Kd.R_slice HO315.out; subst eo37) | (go_at_call 141; (with_reducible refine (spec_AreWires.calls k1 _ _ t285 t290 _ _ y313 true _ ?side1 ?side2 ?side3 ?side4 A17.out).mono ?_); (case side1 => exact r8_ HO_5.out); (case side2 => exact (Kd.R_reads' HO_5.out).2.1); (case side3 => exact r8_ HO315.out); (case side4 => exact (Kd.R_reads' HO315.out).2.1); rintro e w38 ⟨rfl, hb⟩; have n0_ := Aside0.mk (Kd.R_below (rk_ HO_5.out) hb); have n1_ := Aside0.mk (Kd.R_below (rk_ HO_7.out) hb); have n2_ := Aside0.mk (Kd.R_below (rk_ HO312.out) hb); have n3_ := Aside0.mk (Kd.R_below (rk_ HO315.out) hb); have n4_ := Aside0.mk (IsS167.below (r7_ HI0.out NB0_303.out) hb); have n5_ := Aside0.mk (blk_below (g := gb303) (o := .cells #[.int .i64 x8_1, .int .i64 t296, .int .i64 t300] 103 (0, 0)) (r1_ BK303.out) hb); have n6_ := Aside0.mk (KeepBut.trans (r5_ HK.out GW303.out) (KeepBut.of_below hb g none) (.inl rfl)); have n7_ := Aside0.mk (below_step (r10_ HB.out HI0.out GE303.out) hb); clear HO_5; clear HO_7; clear HO312; clear HO315; clear HI0; clear BK303; clear HK; clear HB; have HO_5 := n0_; have HO_7 := n1_; have HO312 := n2_; have HO315 := n3_; have HI0 := n4_; have BK303 := n5_; have HK := n6_; have HB := n7_; clear n0_ n1_ n2_ n3_ n4_ n5_ n6_ n7_; (try clear hb); (try clear hb2); (try clear hk); (try clear hi)))
      go_roundg k1
      case measure => have := HK1.out; omega
      case rel => exact ⟨(y313), (wrap64 (x8_1 + 1)), (t317), (t318), (by first | rfl | (simp; done) | (simp [*]; done)), H', ⟨by have := HK1.out; omega⟩, ⟨rk_ HO_5.out⟩, ⟨rk_ (Kd.R_mono HO315.out (fun _ hk => trivial))⟩, ⟨r7_ HI0.out NB0_303.out⟩, ⟨r5_ HK.out GW303.out⟩, ⟨r10_ HB.out HI0.out GE303.out⟩⟩
     ·replace c18 := Bool.eq_false_iff.mpr c18
      subst c18
      have H1 : (spec_l13Good.l0 k1 t285 t290 x7_1 (wrap64 (x8_1 + 1)) s0_0 t317 t318) = some (r1, r2, r3, r4, r5) := by rw [if_neg (show ¬ (false = true) by decide)] at H; exact H
      clear H
      have H := H1
      clear H1
      have H' := Aside0.mk H
      clear H
      obtain ⟨Ao39, co39, eo39⟩ := Kd.R_slice HO_5.out
      subst eo39
      try go_wp2_with (first | ((with_reducible refine gate_callee (f := 119) rfl ?_); refine goesL_ (some 25) rfl rfl Try.func119 (by kernel_rfl) rfl #[.pointer (some ⟨g, 0, none⟩), .int .i64 (t285.length : Int)] rfl ag_ ?_; (with_reducible refine (spec_l01Next.calls g s0_0 x1001_1 x1002_1 (t285.length : Int) t296 t297 t298 w0 _ ?side1 ?side2 A9.out).mono ?_); (case side1 => exact r0_ HI0.out); (case side2 => exact r3_ HB.out HI0.out); rintro e w40 ⟨rfl, hi, hb, hk⟩; refine ⟨_, rfl, ?_⟩; have n0_ := Aside0.mk (Kd.R_mono (Kd.R_keep (IsS167.apart (show IsS167 w0 _ g s0_0 x1001_1 x1002_1 from r0_ HI0.out) (rk_ HO_5.out) (by decide)) hk (fun _ h => h.2)) (fun _ h => h.1)); have n1_ := Aside0.mk (Kd.R_mono (Kd.R_keep (IsS167.apart (show IsS167 w0 _ g s0_0 x1001_1 x1002_1 from r0_ HI0.out) (rk_ HO_7.out) (by decide)) hk (fun _ h => h.2)) (fun _ h => h.1)); have n2_ := Aside0.mk (KeepBut.trans (r2_ HK.out) hk (.inl rfl)); have n3_ := Aside0.mk (hb); have n4_ := Aside0.mk (hi); clear HO_5; clear HO_7; clear HK; clear HB; clear HI0; have HO_5 := n0_; have HO_7 := n1_; have HK := n2_; have HB := n3_; have HI0 := n4_; clear n0_ n1_ n2_ n3_ n4_; (try clear hb); (try clear hb2); (try clear hk); (try clear hi); have p299 : 0 ≤ (t296 : Int) := od_; have q299 : t296 < (t285.length : Int) := od_; obtain ⟨ad299, e299, hx299_0, hx299_1⟩ := at_T98 (Kd.R_reads' HO_5.out).2.2 t296 p299 q299; cases e299; replace p299 := eq_true p299; replace q299 := eq_true q299) | ((with_reducible refine gate_callee (f := 119) rfl ?_); refine goesL_ (some 34) rfl rfl Try.func119 (by kernel_rfl) rfl #[.pointer (some ⟨g, 0, none⟩), .int .i64 ((rd_T98 t285 t296).f1)] rfl ag_ ?_; (with_reducible refine (spec_l01Next.calls g s0_0 t297 t298 ((rd_T98 t285 t296).f1) t300 t301 t302 w0 _ ?side1 ?side2 A12.out).mono ?_); (case side1 => exact r0_ HI0.out); (case side2 => exact r3_ HB.out HI0.out); rintro e w41 ⟨rfl, hi, hb, hk⟩; refine ⟨_, rfl, ?_⟩; have n0_ := Aside0.mk (Kd.R_mono (Kd.R_keep (IsS167.apart (show IsS167 w0 _ g s0_0 t297 t298 from r0_ HI0.out) (rk_ HO_5.out) (by decide)) hk (fun _ h => h.2)) (fun _ h => h.1)); have n1_ := Aside0.mk (Kd.R_mono (Kd.R_keep (IsS167.apart (show IsS167 w0 _ g s0_0 t297 t298 from r0_ HI0.out) (rk_ HO_7.out) (by decide)) hk (fun _ h => h.2)) (fun _ h => h.1)); have n2_ := Aside0.mk (KeepBut.trans (r2_ HK.out) hk (.inl rfl)); have n3_ := Aside0.mk (hb); have n4_ := Aside0.mk (hi); clear HO_5; clear HO_7; clear HK; clear HB; clear HI0; have HO_5 := n0_; have HO_7 := n1_; have HK := n2_; have HB := n3_; have HI0 := n4_; clear n0_ n1_ n2_ n3_ n4_; (try clear hb); (try clear hb2); (try clear hk); (try clear hi)) | ((with_reducible refine gate_dst (N := 10) rfl ?_); refine box_event ?hg (N := 10) ?hd (cs := #[.int .i64 0, .int .i64 0, .int .i64 0]) (t := 103) ?hr ?_; (case hd => rfl); (case hg => rfl); (case hr => first | (go_simp; done) | (go_simp; rfl)); intro gb303 hg w42 hbox hb; have n0_ := Aside0.mk (Kd.R_below (rk_ HO_5.out) hb); have n1_ := Aside0.mk (Kd.R_below (Kd.R_elderB (rk_ HO_7.out) gb303 (Nat.le_of_eq hg.symm)) hb); have n2_ := Aside0.mk (IsS167.below (r0_ HI0.out) hb); have n3_ := Aside0.mk (KeepBut.trans (r2_ HK.out) (KeepBut.of_below hb g none) (.inl rfl)); have n4_ := Aside0.mk (below_step (r3_ HB.out HI0.out) hb); have n5_ := Aside0.mk (hbox); have n6_ := Aside0.mk ((by rw [hg]; exact (keep_size (w := w) (g := g) (row := none) (r2_ HK.out)) : w.heap.size ≤ gb303)); have n7_ := Aside0.mk ((Nat.le_trans HW0.out (by rw [hg]; exact (keep_size (w := w) (g := g) (row := none) (r2_ HK.out)) : w.heap.size ≤ gb303) : w0.heap.size ≤ gb303)); have n8_ := Aside0.mk ((by rw [hg]; exact Nat.ne_of_lt (IsS167.lt (show IsS167 w0 _ g s0_0 t301 t302 from r0_ HI0.out)) : g ≠ gb303)); have n9_ := Aside0.mk ((by rw [hg]; exact Nat.ne_of_gt (IsS167.lt (show IsS167 w0 _ g s0_0 t301 t302 from r0_ HI0.out)) : gb303 ≠ g)); clear HO_5; clear HO_7; clear HI0; clear HK; clear HB; have HO_5 := n0_; have HO_7 := n1_; have HI0 := n2_; have HK := n3_; have HB := n4_; have BK303 := n5_; have GW303 := n6_; have GE303 := n7_; have NB0_303 := n8_; have NB303_0 := n9_; clear n0_ n1_ n2_ n3_ n4_ n5_ n6_ n7_ n8_ n9_; clear hb hbox hg; have hnb43 := NB303_0.out; have hnc43 := NB0_303.out; have hcz44_0 : w42.cell? ⟨gb303, 0, none⟩ = some (.int .i64 0) := (blk_cell BK303.out 0).trans rfl; have hcz44_1 : w42.cell? ⟨gb303, 1, none⟩ = some (.int .i64 0) := (blk_cell BK303.out 1).trans rfl; have hcz44_2 : w42.cell? ⟨gb303, 2, none⟩ = some (.int .i64 0) := (blk_cell BK303.out 2).trans rfl; have hfz44_0 := blk_frozen BK303.out 0; have hfz44_1 := blk_frozen BK303.out 1; have hfz44_2 := blk_frozen BK303.out 2; obtain ⟨Ao45, co45, eo45⟩ := Kd.R_slice HO_7.out; subst eo45))
      have n0_ : Aside0 (Kd.R k98 98 (((w42.setCell ⟨gb303, 0, none⟩ (.int .i64 x8_1)).setCell ⟨gb303, 1, none⟩ (.int .i64 t296)).setCell ⟨gb303, 2, none⟩ (.int .i64 t300)) w.heap.size (fun _ => True) (.slice (some ad299) t285.length co39) t285) := ⟨rk_ (Kd.R_mono (Kd.R_far (p := ⟨gb303, 2, none⟩) (Kd.R_far (p := ⟨gb303, 1, none⟩) (Kd.R_far (p := ⟨gb303, 0, none⟩) (Kd.R_types HO_5.out BK303.out (by decide)) (fun _ hk => hk.2) (.int .i64 x8_1)) (fun _ hk => hk.2) (.int .i64 t296)) (fun _ hk => hk.2) (.int .i64 t300)) (fun _ hk => trivial))⟩
      have n1_ : Aside0 (Kd.R k103 103 (((w42.setCell ⟨gb303, 0, none⟩ (.int .i64 x8_1)).setCell ⟨gb303, 1, none⟩ (.int .i64 t296)).setCell ⟨gb303, 2, none⟩ (.int .i64 t300)) w.heap.size (fun k_ => k_ ≠ gb303) (.slice Ao45 x7_1.length co45) x7_1) := ⟨rk_ (Kd.R_mono (Kd.R_far (p := ⟨gb303, 2, none⟩) (Kd.R_far (p := ⟨gb303, 1, none⟩) (Kd.R_far (p := ⟨gb303, 0, none⟩) (Kd.R_mono HO_7.out (fun k_ hk => (⟨hk, hk.2⟩ : _ ∧ k_ ≠ gb303))) (fun _ hk => hk.2) (.int .i64 x8_1)) (fun _ hk => hk.2) (.int .i64 t296)) (fun _ hk => hk.2) (.int .i64 t300)) (fun _ hk => hk.1.2))⟩
      have n2_ : Aside0 ((((w42.setCell ⟨gb303, 0, none⟩ (.int .i64 x8_1)).setCell ⟨gb303, 1, none⟩ (.int .i64 t296)).setCell ⟨gb303, 2, none⟩ (.int .i64 t300)).heap[gb303]? = some (.cells #[.int .i64 x8_1, .int .i64 t296, .int .i64 t300] 103 (0, 0))) := ⟨by (with_reducible repeat (first | refine blk_drewN ?_ _ | refine blk_drew ?_ | refine blk_alloc ?_ _)); refine blk_put (cs := #[.int .i64 x8_1, .int .i64 t296, .int .i64 0]) ?_ 2 _ rfl; (with_reducible repeat (first | refine blk_drewN ?_ _ | refine blk_drew ?_ | refine blk_alloc ?_ _)); refine blk_put (cs := #[.int .i64 x8_1, .int .i64 0, .int .i64 0]) ?_ 1 _ rfl; (with_reducible repeat (first | refine blk_drewN ?_ _ | refine blk_drew ?_ | refine blk_alloc ?_ _)); refine blk_put (cs := #[.int .i64 0, .int .i64 0, .int .i64 0]) ?_ 0 _ rfl; (with_reducible repeat (first | refine blk_drewN ?_ _ | refine blk_drew ?_ | refine blk_alloc ?_ _)); exact BK303.out⟩
      have n3_ : Aside0 (IsS167 w0 (((w42.setCell ⟨gb303, 0, none⟩ (.int .i64 x8_1)).setCell ⟨gb303, 1, none⟩ (.int .i64 t296)).setCell ⟨gb303, 2, none⟩ (.int .i64 t300)) g s0_0 t301 t302) := ⟨r7_ HI0.out NB0_303.out⟩
      have n4_ : Aside0 (KeepBut w (((w42.setCell ⟨gb303, 0, none⟩ (.int .i64 x8_1)).setCell ⟨gb303, 1, none⟩ (.int .i64 t296)).setCell ⟨gb303, 2, none⟩ (.int .i64 t300)) g none) := ⟨r5_ HK.out GW303.out⟩
      have n5_ : Aside0 (Below w0.heap.size w0 (((w42.setCell ⟨gb303, 0, none⟩ (.int .i64 x8_1)).setCell ⟨gb303, 1, none⟩ (.int .i64 t296)).setCell ⟨gb303, 2, none⟩ (.int .i64 t300))) := ⟨r10_ HB.out HI0.out GE303.out⟩
      (try clear HO_5)
      (try clear HO_7)
      (try clear BK303)
      (try clear HI0)
      (try clear HK)
      (try clear HB)
      generalize (((w42.setCell ⟨gb303, 0, none⟩ (.int .i64 x8_1)).setCell ⟨gb303, 1, none⟩ (.int .i64 t296)).setCell ⟨gb303, 2, none⟩ (.int .i64 t300)) = w46 at n0_ n1_ n2_ n3_ n4_ n5_ ⊢
      have HO_5 := n0_
      have HO_7 := n1_
      have BK303 := n2_
      have HI0 := n3_
      have HK := n4_
      have HB := n5_
      clear n0_ n1_ n2_ n3_ n4_ n5_
      have n0_ := Aside0.mk (Kd.R_drew HO_5.out)
      have n1_ := Aside0.mk (Kd.R_drew HO_7.out)
      have n2_ := Aside0.mk (blk_drew BK303.out)
      have n3_ := Aside0.mk (IsS167.drew HI0.out)
      have n4_ := Aside0.mk (keep_drew HK.out)
      have n5_ := Aside0.mk (below_drew1 HB.out)
      clear HO_5
      clear HO_7
      clear BK303
      clear HI0
      clear HK
      clear HB
      have HO_5 := n0_
      have HO_7 := n1_
      have BK303 := n2_
      have HI0 := n3_
      have HK := n4_
      have HB := n5_
      clear n0_ n1_ n2_ n3_ n4_ n5_
      refine start_ (n := 7) (S := fun w' => w'.cell? ⟨gb303, 0, none⟩ = some (.int .i64 x8_1) ∧ w'.cell? ⟨gb303, 1, none⟩ = some (.int .i64 t296) ∧ w'.cell? ⟨gb303, 2, none⟩ = some (.int .i64 t300)) (ds := []) #[f_,f_,f_,f_,f_,f_,f_] (by kernel_rfl) rfl rfl ⟨(blk_cell BK303.out 0).trans rfl, (blk_cell BK303.out 1).trans rfl, (blk_cell BK303.out 2).trans rfl⟩ (fun hHeld => ?_)
      generalize w46.drew = w47 at HO_5 HO_7 BK303 HI0 HK HB hHeld ⊢
      refine pure_ (i := 1) (N := some 37) (v := ?_) (a' := ?_) #[f_,t_,f_,f_,f_,f_,f_] rfl rfl (by kernel_rfl) (fun _ _ _ h => h) (Or.inl ⟨by rfl, ?_⟩) ?_ ?_
      rotate_left
      ·intro w'
       go_simp
       with_reducible rfl
      rotate_left
      ·simp only [pz_]
       rfl
      refine take_ (i := 3) (N := some 39) (v := ?_) (a' := ?_) #[f_,t_,f_,t_,f_,f_,f_] rfl rfl (by kernel_rfl) (fun _ _ _ h => h) (Or.inl ⟨by rfl, ?_⟩) hHeld ?_ ?_
      rotate_left
      ·rintro w' ⟨s0, s1, s2⟩
       go_simp
       with_reducible rfl
      rotate_left
      ·simp only [pz_]
       rfl
      refine join_ (σ := Value × Value × Value) 2 #[t_,t_,t_,t_,t_,f_,f_] (fun s_ => [(36, s_.1), (38, s_.2.1), (40, s_.2.2)]) (fun s_ w' => (w'.cell? ⟨gb303, 0, none⟩ = some (.int .i64 x8_1) ∧ w'.cell? ⟨gb303, 1, none⟩ = some (.int .i64 t296) ∧ w'.cell? ⟨gb303, 2, none⟩ = some (.int .i64 t300)) ∧ (Kd.R k103 103 w' w.heap.size (fun k_ => some k_ ≠ (s_.2.2 : Value).ownBlock ∧ some k_ ≠ (.slice Ao45 x7_1.length co45 : Value).ownBlock ∧ k_ ≠ gb303) s_.2.1 y307) ∧ (Kd.R k103 103 w' w.heap.size (fun k_ => some k_ ≠ (s_.2.1 : Value).ownBlock ∧ some k_ ≠ (.slice Ao45 x7_1.length co45 : Value).ownBlock ∧ k_ ≠ gb303) s_.2.2 y310) ∧ (Kd.R k98 98 w' w.heap.size (fun _ => True) (.slice (some ad299) t285.length co39) t285) ∧ (Kd.R k103 103 w' w.heap.size (fun k_ => some k_ ≠ (s_.2.1 : Value).ownBlock ∧ some k_ ≠ (s_.2.2 : Value).ownBlock ∧ k_ ≠ gb303) (.slice Ao45 x7_1.length co45) x7_1) ∧ (w'.heap[gb303]? = some (.cells #[.int .i64 x8_1, .int .i64 t296, .int .i64 t300] 103 (0, 0))) ∧ (IsS167 w0 w' g s0_0 t301 t302) ∧ (KeepBut w w' g none) ∧ (Below w0.heap.size w0 w')) ?_ ?_
      rotate_left
      ·intro hCont
       refine two_ (i := 0) (j := 4) (Ni := some 36) (Nj := some 40) #[t_,t_,f_,t_,f_,f_,f_] #[f_,t_,f_,t_,t_,f_,f_] rfl rfl rfl rfl (by kernel_rfl) (by decide) (by decide) (fun K hK => ?_) (fun K hK => ?_)
       ·skip
        refine Kd.R_lit_step k103 _ 103 ?hg (N := 36) ?hd (xs := ([] : List (S103))) (inner := []) (ok := fun _ => True) (okp := fun _ => True) ?hr ?hp (fun _ hk => hk) trivial (Below.refl _ _) (Nat.le_refl _) (by simp) ?_; (case hd => rfl); (case hg => rfl); (case hr => first | (go_simp; done) | (go_simp; rfl)); (case hp => exact (Reps.none _ _))
        intro v305 w48 ho49 hb hg_ hnew_
        clear hg_ hnew_
        (first | rw [← Ny304.out] at ho49 | (simp only [Int.reduceToNat] at ho49; rw [← Ny304.out] at ho49))
        have n0_ := Aside0.mk (Kd.R_below (rk_ HO_5.out) hb)
        have n1_ := Aside0.mk (Kd.R_elder' (rk_ HO_7.out) (Kd.R_base ho49) hb)
        have n2_ := Aside0.mk (Kd.R_lower (Kd.R_newB (Kd.R_new' ho49 (Kd.R_lt (rk_ HO_7.out))) (g := gb303) (o := .cells #[.int .i64 x8_1, .int .i64 t296, .int .i64 t300] 103 (0, 0)) (r1_ BK303.out)) (keep_size (w := w) (g := g) (row := none) (r5_ HK.out GW303.out)))
        have n3_ := Aside0.mk (IsS167.below (r7_ HI0.out NB0_303.out) hb)
        have n4_ := Aside0.mk (blk_below (g := gb303) (o := .cells #[.int .i64 x8_1, .int .i64 t296, .int .i64 t300] 103 (0, 0)) (r1_ BK303.out) hb)
        have n5_ := Aside0.mk (KeepBut.trans (r5_ HK.out GW303.out) (KeepBut.of_below hb g none) (.inl rfl))
        have n6_ := Aside0.mk (below_step (r10_ HB.out HI0.out GE303.out) hb)
        clear HO_5
        clear HO_7
        clear HI0
        clear BK303
        clear HK
        clear HB
        have HO_5 := n0_
        have HO_7 := n1_
        have HO306 := n2_
        have HI0 := n3_
        have BK303 := n4_
        have HK := n5_
        have HB := n6_
        clear n0_ n1_ n2_ n3_ n4_ n5_ n6_
        clear hb ho49
        refine hK.out _ _ ⟨(blk_cell BK303.out 0).trans rfl, (blk_cell BK303.out 1).trans rfl, (blk_cell BK303.out 2).trans rfl⟩ (fun hHeld => ?_)
        clear hK K
        refine norm_ (a' := ?_) ?_ ?_
        rotate_left
        ·show Act.put _ (some 36) _ = _
         simp only [pz_]
         rfl
        refine two_ (i := 2) (j := 4) (Ni := some 38) (Nj := some 40) #[t_,t_,t_,t_,f_,f_,f_] #[t_,t_,f_,t_,t_,f_,f_] rfl rfl rfl rfl (by kernel_rfl) (by decide) (by decide) (fun K hK => ?_) (fun K hK => ?_)
        ·skip
         refine Kd.R_append_rows_step k103 w.heap.size (by rfl) (.tmp 36) (.tmp 37) 26 103 (.agg #[(.int .i64 0), (.int .i64 0), (.int .i64 0)]) 24 rfl Try.underlying26 info103 rfl (by decide) (by omega) v305 y304 x7_1 _ _ _ (fun k_ => some k_ ≠ (.slice Ao45 x7_1.length co45 : Value).ownBlock ∧ k_ ≠ gb303) (fun _ => False) rfl rfl ?aO ?aR (fun _ _ h => h) (fun _ h => h.elim) ?aF (Below.refl _ _) ?aS ?aL ?_
         (case aR => exact r8_ HO_7.out)
         (case aF => exact (fun k_ hk => ⟨Kd.fresh' (Kd.R_lt (rk_ HO_7.out)) k_ hk, Kd.freshB (g := gb303) (o := .cells #[.int .i64 x8_1, .int .i64 t296, .int .i64 t300] 103 (0, 0)) (r1_ BK303.out) k_ hk⟩))
         (case aO => exact (rk_ (Kd.R_mono HO306.out (fun _ hk => ⟨hk.1.2, hk.2⟩))))
         (case aS => exact (keep_size (w := w) (g := g) (row := none) (r5_ HK.out GW303.out)))
         (case aL => have := LMc13.out; omega)
         intro v308 w50 ho hb hg hat
         rw [← Ny307.out] at ho
         have n0_ := Aside0.mk (Kd.R_over' (rk_ HO_5.out) (Kd.R_typed (rk_ HO306.out)) (by decide) hg)
         have n1_ := Aside0.mk (Kd.R_after (ok := (fun k_ => k_ ≠ gb303)) (rk_ HO_7.out) hg hat)
         have n2_ := Aside0.mk (IsS167.grown (r7_ HI0.out NB0_303.out) hg (IsS167.own_ne HI0.out HO306.out (by decide)))
         have n3_ := Aside0.mk (blk_grown (g := gb303) (o := .cells #[.int .i64 x8_1, .int .i64 t296, .int .i64 t300] 103 (0, 0)) (r1_ BK303.out) hg (Kd.R_away HO306.out (fun _ hk => hk.2)))
         have n4_ := Aside0.mk (below_weaken (r10_ HB.out HI0.out GE303.out) HL.out hb)
         have n5_ := Aside0.mk (KeepBut.trans (r5_ HK.out GW303.out) (KeepBut.of_grown hg g) (Kd.R_base2 HO306.out))
         have n6_ := Aside0.mk (ho)
         clear HO_5
         clear HO_7
         clear HI0
         clear BK303
         clear HB
         clear HK
         clear HO306
         have HO_5 := n0_
         have HO_7 := n1_
         have HI0 := n2_
         have BK303 := n3_
         have HB := n4_
         have HK := n5_
         have HO309 := n6_
         clear n0_ n1_ n2_ n3_ n4_ n5_ n6_
         clear ho hb hg hat
         refine hK.out _ _ ⟨(blk_cell BK303.out 0).trans rfl, (blk_cell BK303.out 1).trans rfl, (blk_cell BK303.out 2).trans rfl⟩ (fun hHeld => ?_)
         clear hK K
         refine norm_ (a' := ?_) ?_ ?_
         rotate_left
         ·show Act.put _ (some 38) _ = _
          simp only [pz_]
          rfl
         refine one_ (i := 4) (N := some 40) #[t_,t_,t_,t_,t_,f_,f_] rfl rfl (by kernel_rfl) (by decide) (fun K hK => ?_)
         refine Kd.R_lit_step k103 _ 103 ?hg (N := 40) ?hd (xs := ([(⟨x8_1, t296, t300⟩ : S103)] : List (S103))) (inner := [.int .i64 x8_1, .int .i64 t296, .int .i64 t300]) (ok := fun _ => True) (okp := fun _ => True) ?hr ?hp (fun _ hk => hk) trivial (Below.refl _ _) (Nat.le_refl _) (by simp) ?_; (case hd => rfl); (case hg => rfl); (case hr => first | (go_simp; done) | (go_simp; rfl)); (case hp => exact (Reps.c3 (show Kd.M k103 _ _ _ (⟨x8_1, t296, t300⟩ : S103) [.int .i64 x8_1, .int .i64 t296, .int .i64 t300] from (k103_mkM _ _ _ (⟨x8_1, t296, t300⟩ : S103) )) (Reps.none _ _)))
         intro v311 w51 ho52 hb hg_ hnew_
         clear hg_ hnew_
         (first | rw [← Ny310.out] at ho52 | (simp only [Int.reduceToNat] at ho52; rw [← Ny310.out] at ho52))
         have n0_ := Aside0.mk (Kd.R_below (rk_ HO_5.out) hb)
         have n1_ := Aside0.mk (Kd.R_elder' (rk_ HO_7.out) (Kd.R_base ho52) hb)
         have n2_ := Aside0.mk (Kd.R_elder' (rk_ HO309.out) (Kd.R_base ho52) hb)
         have n3_ := Aside0.mk (Kd.R_lower (Kd.R_newB (Kd.R_new' (Kd.R_new' ho52 (Kd.R_lt (rk_ HO_7.out))) (Kd.R_lt (rk_ HO309.out))) (g := gb303) (o := .cells #[.int .i64 x8_1, .int .i64 t296, .int .i64 t300] 103 (0, 0)) (r1_ BK303.out)) (keep_size (w := w) (g := g) (row := none) (r5_ HK.out GW303.out)))
         have n4_ := Aside0.mk (IsS167.below (r7_ HI0.out NB0_303.out) hb)
         have n5_ := Aside0.mk (blk_below (g := gb303) (o := .cells #[.int .i64 x8_1, .int .i64 t296, .int .i64 t300] 103 (0, 0)) (r1_ BK303.out) hb)
         have n6_ := Aside0.mk (KeepBut.trans (r5_ HK.out GW303.out) (KeepBut.of_below hb g none) (.inl rfl))
         have n7_ := Aside0.mk (below_step (r10_ HB.out HI0.out GE303.out) hb)
         clear HO_5
         clear HO_7
         clear HO309
         clear HI0
         clear BK303
         clear HK
         clear HB
         have HO_5 := n0_
         have HO_7 := n1_
         have HO309 := n2_
         have HO312 := n3_
         have HI0 := n4_
         have BK303 := n5_
         have HK := n6_
         have HB := n7_
         clear n0_ n1_ n2_ n3_ n4_ n5_ n6_ n7_
         clear hb ho52
         refine hK.out _ _ ⟨(blk_cell BK303.out 0).trans rfl, (blk_cell BK303.out 1).trans rfl, (blk_cell BK303.out 2).trans rfl⟩ (fun hHeld => ?_)
         clear hK K
         refine norm_ (a' := ?_) ?_ ?_
         rotate_left
         ·show Act.put _ (some 40) _ = _
          simp only [pz_]
          rfl
         exact norm_ (by simp only [putAll, Act.put, List.setIfInBounds_toArray, List.set_cons_zero, List.set_cons_succ]) (hCont (v305, v308, v311) _ ⟨hHeld, (rk_ (Kd.R_mono HO309.out (fun _ hk => ⟨hk.2, ⟨hk.1.1, hk.1.2⟩⟩))), (rk_ (Kd.R_mono HO312.out (fun _ hk => ⟨hk.1.2, ⟨hk.1.1.2, hk.2⟩⟩))), (rk_ HO_5.out), (rk_ (Kd.R_mono HO_7.out (fun _ hk => ⟨hk.1.2, ⟨hk.2, hk.1.1⟩⟩))), (r1_ BK303.out), (r7_ HI0.out NB0_303.out), (r5_ HK.out GW303.out), (r10_ HB.out HI0.out GE303.out)⟩)
        ·skip
         refine Kd.R_lit_step k103 _ 103 ?hg (N := 40) ?hd (xs := ([(⟨x8_1, t296, t300⟩ : S103)] : List (S103))) (inner := [.int .i64 x8_1, .int .i64 t296, .int .i64 t300]) (ok := fun _ => True) (okp := fun _ => True) ?hr ?hp (fun _ hk => hk) trivial (Below.refl _ _) (Nat.le_refl _) (by simp) ?_; (case hd => rfl); (case hg => rfl); (case hr => first | (go_simp; done) | (go_simp; rfl)); (case hp => exact (Reps.c3 (show Kd.M k103 _ _ _ (⟨x8_1, t296, t300⟩ : S103) [.int .i64 x8_1, .int .i64 t296, .int .i64 t300] from (k103_mkM _ _ _ (⟨x8_1, t296, t300⟩ : S103) )) (Reps.none _ _)))
         intro v311 w50 ho51 hb hg_ hnew_
         clear hg_ hnew_
         (first | rw [← Ny310.out] at ho51 | (simp only [Int.reduceToNat] at ho51; rw [← Ny310.out] at ho51))
         have n0_ := Aside0.mk (Kd.R_below (rk_ HO_5.out) hb)
         have n1_ := Aside0.mk (Kd.R_elder' (rk_ HO_7.out) (Kd.R_base ho51) hb)
         have n2_ := Aside0.mk (Kd.R_elder' (rk_ HO306.out) (Kd.R_base ho51) hb)
         have n3_ := Aside0.mk (Kd.R_lower (Kd.R_newB (Kd.R_new' (Kd.R_new' ho51 (Kd.R_lt (rk_ HO_7.out))) (Kd.R_lt (rk_ HO306.out))) (g := gb303) (o := .cells #[.int .i64 x8_1, .int .i64 t296, .int .i64 t300] 103 (0, 0)) (r1_ BK303.out)) (keep_size (w := w) (g := g) (row := none) (r5_ HK.out GW303.out)))
         have n4_ := Aside0.mk (IsS167.below (r7_ HI0.out NB0_303.out) hb)
         have n5_ := Aside0.mk (blk_below (g := gb303) (o := .cells #[.int .i64 x8_1, .int .i64 t296, .int .i64 t300] 103 (0, 0)) (r1_ BK303.out) hb)
         have n6_ := Aside0.mk (KeepBut.trans (r5_ HK.out GW303.out) (KeepBut.of_below hb g none) (.inl rfl))
         have n7_ := Aside0.mk (below_step (r10_ HB.out HI0.out GE303.out) hb)
         clear HO_5
         clear HO_7
         clear HO306
         clear HI0
         clear BK303
         clear HK
         clear HB
         have HO_5 := n0_
         have HO_7 := n1_
         have HO306 := n2_
         have HO312 := n3_
         have HI0 := n4_
         have BK303 := n5_
         have HK := n6_
         have HB := n7_
         clear n0_ n1_ n2_ n3_ n4_ n5_ n6_ n7_
         clear hb ho51
         refine hK.out _ _ ⟨(blk_cell BK303.out 0).trans rfl, (blk_cell BK303.out 1).trans rfl, (blk_cell BK303.out 2).trans rfl⟩ (fun hHeld => ?_)
         clear hK K
         refine norm_ (a' := ?_) ?_ ?_
         rotate_left
         ·show Act.put _ (some 40) _ = _
          simp only [pz_]
          rfl
         refine one_ (i := 2) (N := some 38) #[t_,t_,t_,t_,t_,f_,f_] rfl rfl (by kernel_rfl) (by decide) (fun K hK => ?_)
         refine Kd.R_append_rows_step k103 w.heap.size (by rfl) (.tmp 36) (.tmp 37) 26 103 (.agg #[(.int .i64 0), (.int .i64 0), (.int .i64 0)]) 24 rfl Try.underlying26 info103 rfl (by decide) (by omega) v305 y304 x7_1 _ _ _ (fun k_ => some k_ ≠ (.slice Ao45 x7_1.length co45 : Value).ownBlock ∧ some k_ ≠ (v311 : Value).ownBlock ∧ k_ ≠ gb303) (fun _ => False) rfl rfl ?aO ?aR (fun _ _ h => h) (fun _ h => h.elim) ?aF (Below.refl _ _) ?aS ?aL ?_
         (case aR => exact r8_ HO_7.out)
         (case aF => exact (fun k_ hk => ⟨Kd.fresh' (Kd.R_lt (rk_ HO_7.out)) k_ hk, Kd.fresh' (Kd.R_lt (rk_ HO312.out)) k_ hk, Kd.freshB (g := gb303) (o := .cells #[.int .i64 x8_1, .int .i64 t296, .int .i64 t300] 103 (0, 0)) (r1_ BK303.out) k_ hk⟩))
         (case aO => exact (rk_ (Kd.R_mono HO306.out (fun _ hk => ⟨hk.1.1.2, ⟨hk.2, hk.1.2⟩⟩))))
         (case aS => exact (keep_size (w := w) (g := g) (row := none) (r5_ HK.out GW303.out)))
         (case aL => have := LMc13.out; omega)
         intro v308 w52 ho hb hg hat
         rw [← Ny307.out] at ho
         have n0_ := Aside0.mk (Kd.R_over' (rk_ HO_5.out) (Kd.R_typed (rk_ HO306.out)) (by decide) hg)
         have n1_ := Aside0.mk (Kd.R_after (ok := (fun k_ => some k_ ≠ (v311 : Value).ownBlock ∧ k_ ≠ gb303)) (rk_ (Kd.R_mono HO_7.out (fun _ hk => ⟨⟨hk.2, hk.1.1⟩, hk.1.2⟩))) hg hat)
         have n2_ := Aside0.mk (IsS167.grown (r7_ HI0.out NB0_303.out) hg (IsS167.own_ne HI0.out HO306.out (by decide)))
         have n3_ := Aside0.mk (blk_grown (g := gb303) (o := .cells #[.int .i64 x8_1, .int .i64 t296, .int .i64 t300] 103 (0, 0)) (r1_ BK303.out) hg (Kd.R_away HO306.out (fun _ hk => hk.1.2)))
         have n4_ := Aside0.mk (Kd.R_after (ok := (fun k_ => some k_ ≠ (.slice Ao45 x7_1.length co45 : Value).ownBlock ∧ k_ ≠ gb303)) (rk_ (Kd.R_mono HO312.out (fun _ hk => ⟨⟨hk.1.1.2, hk.2⟩, hk.1.2⟩))) hg hat)
         have n5_ := Aside0.mk (below_weaken (r10_ HB.out HI0.out GE303.out) HL.out hb)
         have n6_ := Aside0.mk (KeepBut.trans (r5_ HK.out GW303.out) (KeepBut.of_grown hg g) (Kd.R_base2 HO306.out))
         have n7_ := Aside0.mk (ho)
         clear HO_5
         clear HO_7
         clear HI0
         clear BK303
         clear HO312
         clear HB
         clear HK
         clear HO306
         have HO_5 := n0_
         have HO_7 := n1_
         have HI0 := n2_
         have BK303 := n3_
         have HO312 := n4_
         have HB := n5_
         have HK := n6_
         have HO309 := n7_
         clear n0_ n1_ n2_ n3_ n4_ n5_ n6_ n7_
         clear ho hb hg hat
         refine hK.out _ _ ⟨(blk_cell BK303.out 0).trans rfl, (blk_cell BK303.out 1).trans rfl, (blk_cell BK303.out 2).trans rfl⟩ (fun hHeld => ?_)
         clear hK K
         refine norm_ (a' := ?_) ?_ ?_
         rotate_left
         ·show Act.put _ (some 38) _ = _
          simp only [pz_]
          rfl
         exact norm_ (by simp only [putAll, Act.put, List.setIfInBounds_toArray, List.set_cons_zero, List.set_cons_succ]) (hCont (v305, v308, v311) _ ⟨hHeld, (rk_ (Kd.R_mono HO309.out (fun _ hk => ⟨hk.2.1, ⟨hk.1, hk.2.2⟩⟩))), (rk_ (Kd.R_mono HO312.out (fun _ hk => ⟨hk.2, ⟨hk.1.1, hk.1.2⟩⟩))), (rk_ HO_5.out), (rk_ (Kd.R_mono HO_7.out (fun _ hk => ⟨hk.2, ⟨hk.1.1, hk.1.2⟩⟩))), (r1_ BK303.out), (r7_ HI0.out NB0_303.out), (r5_ HK.out GW303.out), (r10_ HB.out HI0.out GE303.out)⟩)
       ·skip
        refine Kd.R_lit_step k103 _ 103 ?hg (N := 40) ?hd (xs := ([(⟨x8_1, t296, t300⟩ : S103)] : List (S103))) (inner := [.int .i64 x8_1, .int .i64 t296, .int .i64 t300]) (ok := fun _ => True) (okp := fun _ => True) ?hr ?hp (fun _ hk => hk) trivial (Below.refl _ _) (Nat.le_refl _) (by simp) ?_; (case hd => rfl); (case hg => rfl); (case hr => first | (go_simp; done) | (go_simp; rfl)); (case hp => exact (Reps.c3 (show Kd.M k103 _ _ _ (⟨x8_1, t296, t300⟩ : S103) [.int .i64 x8_1, .int .i64 t296, .int .i64 t300] from (k103_mkM _ _ _ (⟨x8_1, t296, t300⟩ : S103) )) (Reps.none _ _)))
        intro v311 w48 ho49 hb hg_ hnew_
        clear hg_ hnew_
        (first | rw [← Ny310.out] at ho49 | (simp only [Int.reduceToNat] at ho49; rw [← Ny310.out] at ho49))
        have n0_ := Aside0.mk (Kd.R_below (rk_ HO_5.out) hb)
        have n1_ := Aside0.mk (Kd.R_elder' (rk_ HO_7.out) (Kd.R_base ho49) hb)
        have n2_ := Aside0.mk (Kd.R_lower (Kd.R_newB (Kd.R_new' ho49 (Kd.R_lt (rk_ HO_7.out))) (g := gb303) (o := .cells #[.int .i64 x8_1, .int .i64 t296, .int .i64 t300] 103 (0, 0)) (r1_ BK303.out)) (keep_size (w := w) (g := g) (row := none) (r5_ HK.out GW303.out)))
        have n3_ := Aside0.mk (IsS167.below (r7_ HI0.out NB0_303.out) hb)
        have n4_ := Aside0.mk (blk_below (g := gb303) (o := .cells #[.int .i64 x8_1, .int .i64 t296, .int .i64 t300] 103 (0, 0)) (r1_ BK303.out) hb)
        have n5_ := Aside0.mk (KeepBut.trans (r5_ HK.out GW303.out) (KeepBut.of_below hb g none) (.inl rfl))
        have n6_ := Aside0.mk (below_step (r10_ HB.out HI0.out GE303.out) hb)
        clear HO_5
        clear HO_7
        clear HI0
        clear BK303
        clear HK
        clear HB
        have HO_5 := n0_
        have HO_7 := n1_
        have HO312 := n2_
        have HI0 := n3_
        have BK303 := n4_
        have HK := n5_
        have HB := n6_
        clear n0_ n1_ n2_ n3_ n4_ n5_ n6_
        clear hb ho49
        refine hK.out _ _ ⟨(blk_cell BK303.out 0).trans rfl, (blk_cell BK303.out 1).trans rfl, (blk_cell BK303.out 2).trans rfl⟩ (fun hHeld => ?_)
        clear hK K
        refine norm_ (a' := ?_) ?_ ?_
        rotate_left
        ·show Act.put _ (some 40) _ = _
         simp only [pz_]
         rfl
        refine one_ (i := 0) (N := some 36) #[t_,t_,f_,t_,t_,f_,f_] rfl rfl (by kernel_rfl) (by decide) (fun K hK => ?_)
        refine Kd.R_lit_step k103 _ 103 ?hg (N := 36) ?hd (xs := ([] : List (S103))) (inner := []) (ok := fun _ => True) (okp := fun _ => True) ?hr ?hp (fun _ hk => hk) trivial (Below.refl _ _) (Nat.le_refl _) (by simp) ?_; (case hd => rfl); (case hg => rfl); (case hr => first | (go_simp; done) | (go_simp; rfl)); (case hp => exact (Reps.none _ _))
        intro v305 w50 ho51 hb hg_ hnew_
        clear hg_ hnew_
        (first | rw [← Ny304.out] at ho51 | (simp only [Int.reduceToNat] at ho51; rw [← Ny304.out] at ho51))
        have n0_ := Aside0.mk (Kd.R_below (rk_ HO_5.out) hb)
        have n1_ := Aside0.mk (Kd.R_elder' (rk_ HO_7.out) (Kd.R_base ho51) hb)
        have n2_ := Aside0.mk (Kd.R_elder' (rk_ HO312.out) (Kd.R_base ho51) hb)
        have n3_ := Aside0.mk (Kd.R_lower (Kd.R_newB (Kd.R_new' (Kd.R_new' ho51 (Kd.R_lt (rk_ HO_7.out))) (Kd.R_lt (rk_ HO312.out))) (g := gb303) (o := .cells #[.int .i64 x8_1, .int .i64 t296, .int .i64 t300] 103 (0, 0)) (r1_ BK303.out)) (keep_size (w := w) (g := g) (row := none) (r5_ HK.out GW303.out)))
        have n4_ := Aside0.mk (IsS167.below (r7_ HI0.out NB0_303.out) hb)
        have n5_ := Aside0.mk (blk_below (g := gb303) (o := .cells #[.int .i64 x8_1, .int .i64 t296, .int .i64 t300] 103 (0, 0)) (r1_ BK303.out) hb)
        have n6_ := Aside0.mk (KeepBut.trans (r5_ HK.out GW303.out) (KeepBut.of_below hb g none) (.inl rfl))
        have n7_ := Aside0.mk (below_step (r10_ HB.out HI0.out GE303.out) hb)
        clear HO_5
        clear HO_7
        clear HO312
        clear HI0
        clear BK303
        clear HK
        clear HB
        have HO_5 := n0_
        have HO_7 := n1_
        have HO312 := n2_
        have HO306 := n3_
        have HI0 := n4_
        have BK303 := n5_
        have HK := n6_
        have HB := n7_
        clear n0_ n1_ n2_ n3_ n4_ n5_ n6_ n7_
        clear hb ho51
        refine hK.out _ _ ⟨(blk_cell BK303.out 0).trans rfl, (blk_cell BK303.out 1).trans rfl, (blk_cell BK303.out 2).trans rfl⟩ (fun hHeld => ?_)
        clear hK K
        refine norm_ (a' := ?_) ?_ ?_
        rotate_left
        ·show Act.put _ (some 36) _ = _
         simp only [pz_]
         rfl
        refine one_ (i := 2) (N := some 38) #[t_,t_,t_,t_,t_,f_,f_] rfl rfl (by kernel_rfl) (by decide) (fun K hK => ?_)
        refine Kd.R_append_rows_step k103 w.heap.size (by rfl) (.tmp 36) (.tmp 37) 26 103 (.agg #[(.int .i64 0), (.int .i64 0), (.int .i64 0)]) 24 rfl Try.underlying26 info103 rfl (by decide) (by omega) v305 y304 x7_1 _ _ _ (fun k_ => some k_ ≠ (.slice Ao45 x7_1.length co45 : Value).ownBlock ∧ some k_ ≠ (v311 : Value).ownBlock ∧ k_ ≠ gb303) (fun _ => False) rfl rfl ?aO ?aR (fun _ _ h => h) (fun _ h => h.elim) ?aF (Below.refl _ _) ?aS ?aL ?_
        (case aR => exact r8_ HO_7.out)
        (case aF => exact (fun k_ hk => ⟨Kd.fresh' (Kd.R_lt (rk_ HO_7.out)) k_ hk, Kd.fresh' (Kd.R_lt (rk_ HO312.out)) k_ hk, Kd.freshB (g := gb303) (o := .cells #[.int .i64 x8_1, .int .i64 t296, .int .i64 t300] 103 (0, 0)) (r1_ BK303.out) k_ hk⟩))
        (case aO => exact (rk_ (Kd.R_mono HO306.out (fun _ hk => ⟨hk.1.1.2, ⟨hk.1.2, hk.2⟩⟩))))
        (case aS => exact (keep_size (w := w) (g := g) (row := none) (r5_ HK.out GW303.out)))
        (case aL => have := LMc13.out; omega)
        intro v308 w52 ho hb hg hat
        rw [← Ny307.out] at ho
        have n0_ := Aside0.mk (Kd.R_over' (rk_ HO_5.out) (Kd.R_typed (rk_ HO306.out)) (by decide) hg)
        have n1_ := Aside0.mk (Kd.R_after (ok := (fun k_ => some k_ ≠ (v311 : Value).ownBlock ∧ k_ ≠ gb303)) (rk_ (Kd.R_mono HO_7.out (fun _ hk => ⟨⟨hk.1.2, hk.1.1⟩, hk.2⟩))) hg hat)
        have n2_ := Aside0.mk (IsS167.grown (r7_ HI0.out NB0_303.out) hg (IsS167.own_ne HI0.out HO306.out (by decide)))
        have n3_ := Aside0.mk (blk_grown (g := gb303) (o := .cells #[.int .i64 x8_1, .int .i64 t296, .int .i64 t300] 103 (0, 0)) (r1_ BK303.out) hg (Kd.R_away HO306.out (fun _ hk => hk.2)))
        have n4_ := Aside0.mk (Kd.R_after (ok := (fun k_ => some k_ ≠ (.slice Ao45 x7_1.length co45 : Value).ownBlock ∧ k_ ≠ gb303)) (rk_ (Kd.R_mono HO312.out (fun _ hk => ⟨⟨hk.1.1.2, hk.1.2⟩, hk.2⟩))) hg hat)
        have n5_ := Aside0.mk (below_weaken (r10_ HB.out HI0.out GE303.out) HL.out hb)
        have n6_ := Aside0.mk (KeepBut.trans (r5_ HK.out GW303.out) (KeepBut.of_grown hg g) (Kd.R_base2 HO306.out))
        have n7_ := Aside0.mk (ho)
        clear HO_5
        clear HO_7
        clear HI0
        clear BK303
        clear HO312
        clear HB
        clear HK
        clear HO306
        have HO_5 := n0_
        have HO_7 := n1_
        have HI0 := n2_
        have BK303 := n3_
        have HO312 := n4_
        have HB := n5_
        have HK := n6_
        have HO309 := n7_
        clear n0_ n1_ n2_ n3_ n4_ n5_ n6_ n7_
        clear ho hb hg hat
        refine hK.out _ _ ⟨(blk_cell BK303.out 0).trans rfl, (blk_cell BK303.out 1).trans rfl, (blk_cell BK303.out 2).trans rfl⟩ (fun hHeld => ?_)
        clear hK K
        refine norm_ (a' := ?_) ?_ ?_
        rotate_left
        ·show Act.put _ (some 38) _ = _
         simp only [pz_]
         rfl
        exact norm_ (by simp only [putAll, Act.put, List.setIfInBounds_toArray, List.set_cons_zero, List.set_cons_succ]) (hCont (v305, v308, v311) _ ⟨hHeld, (rk_ (Kd.R_mono HO309.out (fun _ hk => ⟨hk.2.1, ⟨hk.1, hk.2.2⟩⟩))), (rk_ (Kd.R_mono HO312.out (fun _ hk => ⟨hk.2, ⟨hk.1.1, hk.1.2⟩⟩))), (rk_ HO_5.out), (rk_ (Kd.R_mono HO_7.out (fun _ hk => ⟨hk.2, ⟨hk.1.1, hk.1.2⟩⟩))), (r1_ BK303.out), (r7_ HI0.out NB0_303.out), (r5_ HK.out GW303.out), (r10_ HB.out HI0.out GE303.out)⟩)
      rintro ⟨v305, v308, v311⟩ w53 ⟨hS_, h0_, h1_, h2_, h3_, h4_, h5_, h6_, h7_⟩
      have n0_ : Aside0 (Kd.R k103 103 w53 w.heap.size (fun k_ => some k_ ≠ (v311 : Value).ownBlock ∧ some k_ ≠ (.slice Ao45 x7_1.length co45 : Value).ownBlock ∧ k_ ≠ gb303) v308 y307) := ⟨h0_⟩
      have n1_ : Aside0 (Kd.R k103 103 w53 w.heap.size (fun k_ => some k_ ≠ (v308 : Value).ownBlock ∧ some k_ ≠ (.slice Ao45 x7_1.length co45 : Value).ownBlock ∧ k_ ≠ gb303) v311 y310) := ⟨h1_⟩
      have n2_ : Aside0 (Kd.R k98 98 w53 w.heap.size (fun _ => True) (.slice (some ad299) t285.length co39) t285) := ⟨h2_⟩
      have n3_ : Aside0 (Kd.R k103 103 w53 w.heap.size (fun k_ => some k_ ≠ (v308 : Value).ownBlock ∧ some k_ ≠ (v311 : Value).ownBlock ∧ k_ ≠ gb303) (.slice Ao45 x7_1.length co45) x7_1) := ⟨h3_⟩
      have n4_ : Aside0 (w53.heap[gb303]? = some (.cells #[.int .i64 x8_1, .int .i64 t296, .int .i64 t300] 103 (0, 0))) := ⟨h4_⟩
      have n5_ : Aside0 (IsS167 w0 w53 g s0_0 t301 t302) := ⟨h5_⟩
      have n6_ : Aside0 (KeepBut w w53 g none) := ⟨h6_⟩
      have n7_ : Aside0 (Below w0.heap.size w0 w53) := ⟨h7_⟩
      clear HO_5
      clear HO_7
      clear BK303
      clear HI0
      clear HK
      clear HB
      clear h0_ h1_ h2_ h3_ h4_ h5_ h6_ h7_
      have HO309 := n0_
      have HO312 := n1_
      have HO_5 := n2_
      have HO_7 := n3_
      have BK303 := n4_
      have HI0 := n5_
      have HK := n6_
      have HB := n7_
      clear n0_ n1_ n2_ n3_ n4_ n5_ n6_ n7_
      have hHeld : w53.cell? ⟨gb303, 0, none⟩ = some (.int .i64 x8_1) ∧ w53.cell? ⟨gb303, 1, none⟩ = some (.int .i64 t296) ∧ w53.cell? ⟨gb303, 2, none⟩ = some (.int .i64 t300) := hS_
      obtain ⟨Ao55, co55, eo55⟩ := Kd.R_slice HO312.out
      (first | subst eo55 | (injection eo55 with f1_ f2_ f3_; have f4_ := f1_.symm; have f5_ := f3_.symm; clear f1_ f2_ f3_; subst f4_; subst f5_))
      refine norm_ (a' := ?_) ?_ ?_
      rotate_left
      ·simp only [putAll, Act.put, List.setIfInBounds_toArray, List.set_cons_zero, List.set_cons_succ]
       rfl
      refine one_ (i := 5) (N := some 41) #[t_,t_,t_,t_,t_,t_,f_] rfl rfl (by kernel_rfl) (by decide) (fun K hK => ?_)
      refine Kd.R_append_rows_step k103 w.heap.size (by rfl) (.tmp 38) (.tmp 40) 26 103 (.agg #[(.int .i64 0), (.int .i64 0), (.int .i64 0)]) 24 rfl Try.underlying26 info103 rfl (by decide) (by omega) v308 y307 y310 _ _ _ (fun k_ => some k_ ≠ (.slice Ao45 x7_1.length co45 : Value).ownBlock ∧ some k_ ≠ (.slice Ao55 y310.length co55 : Value).ownBlock ∧ k_ ≠ gb303) (fun _ => False) rfl rfl ?aO ?aR (fun _ _ h => h) (fun _ h => h.elim) ?aF (Below.refl _ _) ?aS ?aL ?_
      (case aR => exact r8_ HO312.out)
      (case aF => exact (fun k_ hk => ⟨Kd.fresh' (Kd.R_lt (rk_ HO_7.out)) k_ hk, Kd.fresh' (Kd.R_lt (rk_ HO312.out)) k_ hk, Kd.freshB (g := gb303) (o := .cells #[.int .i64 x8_1, .int .i64 t296, .int .i64 t300] 103 (0, 0)) (r1_ BK303.out) k_ hk⟩))
      (case aO => exact (rk_ (Kd.R_mono HO309.out (fun _ hk => ⟨hk.2.1, ⟨hk.1, hk.2.2⟩⟩))))
      (case aS => exact (keep_size (w := w) (g := g) (row := none) (r5_ HK.out GW303.out)))
      (case aL => have := LMc14.out; omega)
      intro v314 w54 ho hb hg hat
      rw [← Ny313.out] at ho
      have n0_ := Aside0.mk (Kd.R_over' (rk_ HO_5.out) (Kd.R_typed (rk_ HO309.out)) (by decide) hg)
      have n1_ := Aside0.mk (Kd.R_after (ok := (fun k_ => some k_ ≠ (.slice Ao55 y310.length co55 : Value).ownBlock ∧ k_ ≠ gb303)) (rk_ (Kd.R_mono HO_7.out (fun _ hk => ⟨⟨hk.2.1, hk.2.2⟩, hk.1⟩))) hg hat)
      have n2_ := Aside0.mk (IsS167.grown (r7_ HI0.out NB0_303.out) hg (IsS167.own_ne HI0.out HO309.out (by decide)))
      have n3_ := Aside0.mk (blk_grown (g := gb303) (o := .cells #[.int .i64 x8_1, .int .i64 t296, .int .i64 t300] 103 (0, 0)) (r1_ BK303.out) hg (Kd.R_away HO309.out (fun _ hk => hk.2.2)))
      have n4_ := Aside0.mk (Kd.R_after (ok := (fun k_ => some k_ ≠ (.slice Ao45 x7_1.length co45 : Value).ownBlock ∧ k_ ≠ gb303)) (rk_ (Kd.R_mono HO312.out (fun _ hk => ⟨⟨hk.2.1, hk.2.2⟩, hk.1⟩))) hg hat)
      have n5_ := Aside0.mk (below_weaken (r10_ HB.out HI0.out GE303.out) HL.out hb)
      have n6_ := Aside0.mk (KeepBut.trans (r5_ HK.out GW303.out) (KeepBut.of_grown hg g) (Kd.R_base2 HO309.out))
      have n7_ := Aside0.mk (ho)
      clear HO_5
      clear HO_7
      clear HI0
      clear BK303
      clear HO312
      clear HB
      clear HK
      clear HO309
      have HO_5 := n0_
      have HO_7 := n1_
      have HI0 := n2_
      have BK303 := n3_
      have HO312 := n4_
      have HB := n5_
      have HK := n6_
      have HO315 := n7_
      clear n0_ n1_ n2_ n3_ n4_ n5_ n6_ n7_
      clear ho hb hg hat
      refine hK.out _ _ ⟨(blk_cell BK303.out 0).trans rfl, (blk_cell BK303.out 1).trans rfl, (blk_cell BK303.out 2).trans rfl⟩ (fun hHeld => ?_)
      clear hK K
      refine norm_ (a' := ?_) ?_ ?_
      rotate_left
      ·show Act.put _ (some 41) _ = _
       simp only [pz_]
       rfl
      refine pure_ (i := 6) (N := some 11) (v := ?_) (a' := ?_) #[t_,t_,t_,t_,t_,t_,t_] rfl rfl (by kernel_rfl) (fun _ _ _ h => h) (Or.inl ⟨by rfl, ?_⟩) ?_ ?_
      rotate_left
      ·intro w'
       go_simp
       with_reducible rfl
      rotate_left
      ·simp only [pz_]
       rfl
      refine done_ (by kernel_rfl) ?_
      try go_wp2_with (first | ((with_reducible refine gate_callee (f := 119) rfl ?_); refine goesL_ (some 43) rfl rfl Try.func119 (by kernel_rfl) rfl #[.pointer (some ⟨g, 0, none⟩), .int .i64 3] rfl ag_ ?_; (with_reducible refine (spec_l01Next.calls g s0_0 t301 t302 3 t316 t317 t318 w0 _ ?side1 ?side2 A15.out).mono ?_); (case side1 => exact r7_ HI0.out NB0_303.out); (case side2 => exact r10_ HB.out HI0.out GE303.out); rintro e w56 ⟨rfl, hi, hb, hk⟩; refine ⟨_, rfl, ?_⟩; have n0_ := Aside0.mk (Kd.R_mono (Kd.R_keep (IsS167.apart (show IsS167 w0 _ g s0_0 t301 t302 from r7_ HI0.out NB0_303.out) (rk_ HO_5.out) (by decide)) hk (fun _ h => h.2)) (fun _ h => h.1)); have n1_ := Aside0.mk (Kd.R_mono (Kd.R_keep (IsS167.apart (show IsS167 w0 _ g s0_0 t301 t302 from r7_ HI0.out NB0_303.out) (rk_ HO_7.out) (by decide)) hk (fun _ h => h.2)) (fun _ h => h.1)); have n2_ := Aside0.mk (KeepBut.blk hk (g' := gb303) (o := .cells #[.int .i64 x8_1, .int .i64 t296, .int .i64 t300] 103 (0, 0)) (r1_ BK303.out) NB303_0.out (by simp)); have n3_ := Aside0.mk (Kd.R_mono (Kd.R_keep (IsS167.apart (show IsS167 w0 _ g s0_0 t301 t302 from r7_ HI0.out NB0_303.out) (rk_ HO312.out) (by decide)) hk (fun _ h => h.2)) (fun _ h => h.1)); have n4_ := Aside0.mk (Kd.R_mono (Kd.R_keep (IsS167.apart (show IsS167 w0 _ g s0_0 t301 t302 from r7_ HI0.out NB0_303.out) (rk_ HO315.out) (by decide)) hk (fun _ h => h.2)) (fun _ h => h.1)); have n5_ := Aside0.mk (KeepBut.trans (r5_ HK.out GW303.out) hk (.inl rfl)); have n6_ := Aside0.mk (hb); have n7_ := Aside0.mk (hi); clear HO_5; clear HO_7; clear BK303; clear HO312; clear HO315; clear HK; clear HB; clear HI0; have HO_5 := n0_; have HO_7 := n1_; have BK303 := n2_; have HO312 := n3_; have HO315 := n4_; have HK := n5_; have HB := n6_; have HI0 := n7_; clear n0_ n1_ n2_ n3_ n4_ n5_ n6_ n7_; (try clear hb); (try clear hb2); (try clear hk); (try clear hi); obtain ⟨Ao57, co57, eo57⟩ := Kd.R_slice HO315.out; subst eo57) | (go_at_call 141; (with_reducible refine (spec_AreWires.calls k1 _ _ t285 t290 _ _ y313 false _ ?side1 ?side2 ?side3 ?side4 A17.out).mono ?_); (case side1 => exact r8_ HO_5.out); (case side2 => exact (Kd.R_reads' HO_5.out).2.1); (case side3 => exact r8_ HO315.out); (case side4 => exact (Kd.R_reads' HO315.out).2.1); rintro e w58 ⟨rfl, hb⟩; have n0_ := Aside0.mk (Kd.R_below (rk_ HO_5.out) hb); have n1_ := Aside0.mk (Kd.R_below (rk_ HO_7.out) hb); have n2_ := Aside0.mk (Kd.R_below (rk_ HO312.out) hb); have n3_ := Aside0.mk (Kd.R_below (rk_ HO315.out) hb); have n4_ := Aside0.mk (IsS167.below (r7_ HI0.out NB0_303.out) hb); have n5_ := Aside0.mk (blk_below (g := gb303) (o := .cells #[.int .i64 x8_1, .int .i64 t296, .int .i64 t300] 103 (0, 0)) (r1_ BK303.out) hb); have n6_ := Aside0.mk (KeepBut.trans (r5_ HK.out GW303.out) (KeepBut.of_below hb g none) (.inl rfl)); have n7_ := Aside0.mk (below_step (r10_ HB.out HI0.out GE303.out) hb); clear HO_5; clear HO_7; clear HO312; clear HO315; clear HI0; clear BK303; clear HK; clear HB; have HO_5 := n0_; have HO_7 := n1_; have HO312 := n2_; have HO315 := n3_; have HI0 := n4_; have BK303 := n5_; have HK := n6_; have HB := n7_; clear n0_ n1_ n2_ n3_ n4_ n5_ n6_ n7_; (try clear hb); (try clear hb2); (try clear hk); (try clear hi)))
      go_roundg k1
      case measure => have := HK1.out; omega
      case rel => exact ⟨(x7_1), (wrap64 (x8_1 + 1)), (t317), (t318), (by first | rfl | (simp; done) | (simp [*]; done)), H', ⟨by have := HK1.out; omega⟩, ⟨rk_ HO_5.out⟩, ⟨rk_ (Kd.R_mono HO_7.out (fun _ hk => trivial))⟩, ⟨r7_ HI0.out NB0_303.out⟩, ⟨r5_ HK.out GW303.out⟩, ⟨r10_ HB.out HI0.out GE303.out⟩⟩
    ·rw [if_neg c16] at H
     have c16b0 : decide (0 < t316) = false := decide_eq_false c16
     clear c16
     have H' := Aside0.mk H
     clear H
     obtain ⟨Ao59, co59, eo59⟩ := Kd.R_slice HO_5.out
     subst eo59
     try go_wp2_with (first | ((with_reducible refine gate_callee (f := 119) rfl ?_); refine goesL_ (some 25) rfl rfl Try.func119 (by kernel_rfl) rfl #[.pointer (some ⟨g, 0, none⟩), .int .i64 (t285.length : Int)] rfl ag_ ?_; (with_reducible refine (spec_l01Next.calls g s0_0 x1001_1 x1002_1 (t285.length : Int) t296 t297 t298 w0 _ ?side1 ?side2 A9.out).mono ?_); (case side1 => exact r0_ HI0.out); (case side2 => exact r3_ HB.out HI0.out); rintro e w60 ⟨rfl, hi, hb, hk⟩; refine ⟨_, rfl, ?_⟩; have n0_ := Aside0.mk (Kd.R_mono (Kd.R_keep (IsS167.apart (show IsS167 w0 _ g s0_0 x1001_1 x1002_1 from r0_ HI0.out) (rk_ HO_5.out) (by decide)) hk (fun _ h => h.2)) (fun _ h => h.1)); have n1_ := Aside0.mk (Kd.R_mono (Kd.R_keep (IsS167.apart (show IsS167 w0 _ g s0_0 x1001_1 x1002_1 from r0_ HI0.out) (rk_ HO_7.out) (by decide)) hk (fun _ h => h.2)) (fun _ h => h.1)); have n2_ := Aside0.mk (KeepBut.trans (r2_ HK.out) hk (.inl rfl)); have n3_ := Aside0.mk (hb); have n4_ := Aside0.mk (hi); clear HO_5; clear HO_7; clear HK; clear HB; clear HI0; have HO_5 := n0_; have HO_7 := n1_; have HK := n2_; have HB := n3_; have HI0 := n4_; clear n0_ n1_ n2_ n3_ n4_; (try clear hb); (try clear hb2); (try clear hk); (try clear hi); have p299 : 0 ≤ (t296 : Int) := od_; have q299 : t296 < (t285.length : Int) := od_; obtain ⟨ad299, e299, hx299_0, hx299_1⟩ := at_T98 (Kd.R_reads' HO_5.out).2.2 t296 p299 q299; cases e299; replace p299 := eq_true p299; replace q299 := eq_true q299) | ((with_reducible refine gate_callee (f := 119) rfl ?_); refine goesL_ (some 34) rfl rfl Try.func119 (by kernel_rfl) rfl #[.pointer (some ⟨g, 0, none⟩), .int .i64 ((rd_T98 t285 t296).f1)] rfl ag_ ?_; (with_reducible refine (spec_l01Next.calls g s0_0 t297 t298 ((rd_T98 t285 t296).f1) t300 t301 t302 w0 _ ?side1 ?side2 A12.out).mono ?_); (case side1 => exact r0_ HI0.out); (case side2 => exact r3_ HB.out HI0.out); rintro e w61 ⟨rfl, hi, hb, hk⟩; refine ⟨_, rfl, ?_⟩; have n0_ := Aside0.mk (Kd.R_mono (Kd.R_keep (IsS167.apart (show IsS167 w0 _ g s0_0 t297 t298 from r0_ HI0.out) (rk_ HO_5.out) (by decide)) hk (fun _ h => h.2)) (fun _ h => h.1)); have n1_ := Aside0.mk (Kd.R_mono (Kd.R_keep (IsS167.apart (show IsS167 w0 _ g s0_0 t297 t298 from r0_ HI0.out) (rk_ HO_7.out) (by decide)) hk (fun _ h => h.2)) (fun _ h => h.1)); have n2_ := Aside0.mk (KeepBut.trans (r2_ HK.out) hk (.inl rfl)); have n3_ := Aside0.mk (hb); have n4_ := Aside0.mk (hi); clear HO_5; clear HO_7; clear HK; clear HB; clear HI0; have HO_5 := n0_; have HO_7 := n1_; have HK := n2_; have HB := n3_; have HI0 := n4_; clear n0_ n1_ n2_ n3_ n4_; (try clear hb); (try clear hb2); (try clear hk); (try clear hi)) | ((with_reducible refine gate_dst (N := 10) rfl ?_); refine box_event ?hg (N := 10) ?hd (cs := #[.int .i64 0, .int .i64 0, .int .i64 0]) (t := 103) ?hr ?_; (case hd => rfl); (case hg => rfl); (case hr => first | (go_simp; done) | (go_simp; rfl)); intro gb303 hg w62 hbox hb; have n0_ := Aside0.mk (Kd.R_below (rk_ HO_5.out) hb); have n1_ := Aside0.mk (Kd.R_below (Kd.R_elderB (rk_ HO_7.out) gb303 (Nat.le_of_eq hg.symm)) hb); have n2_ := Aside0.mk (IsS167.below (r0_ HI0.out) hb); have n3_ := Aside0.mk (KeepBut.trans (r2_ HK.out) (KeepBut.of_below hb g none) (.inl rfl)); have n4_ := Aside0.mk (below_step (r3_ HB.out HI0.out) hb); have n5_ := Aside0.mk (hbox); have n6_ := Aside0.mk ((by rw [hg]; exact (keep_size (w := w) (g := g) (row := none) (r2_ HK.out)) : w.heap.size ≤ gb303)); have n7_ := Aside0.mk ((Nat.le_trans HW0.out (by rw [hg]; exact (keep_size (w := w) (g := g) (row := none) (r2_ HK.out)) : w.heap.size ≤ gb303) : w0.heap.size ≤ gb303)); have n8_ := Aside0.mk ((by rw [hg]; exact Nat.ne_of_lt (IsS167.lt (show IsS167 w0 _ g s0_0 t301 t302 from r0_ HI0.out)) : g ≠ gb303)); have n9_ := Aside0.mk ((by rw [hg]; exact Nat.ne_of_gt (IsS167.lt (show IsS167 w0 _ g s0_0 t301 t302 from r0_ HI0.out)) : gb303 ≠ g)); clear HO_5; clear HO_7; clear HI0; clear HK; clear HB; have HO_5 := n0_; have HO_7 := n1_; have HI0 := n2_; have HK := n3_; have HB := n4_; have BK303 := n5_; have GW303 := n6_; have GE303 := n7_; have NB0_303 := n8_; have NB303_0 := n9_; clear n0_ n1_ n2_ n3_ n4_ n5_ n6_ n7_ n8_ n9_; clear hb hbox hg; have hnb63 := NB303_0.out; have hnc63 := NB0_303.out; have hcz64_0 : w62.cell? ⟨gb303, 0, none⟩ = some (.int .i64 0) := (blk_cell BK303.out 0).trans rfl; have hcz64_1 : w62.cell? ⟨gb303, 1, none⟩ = some (.int .i64 0) := (blk_cell BK303.out 1).trans rfl; have hcz64_2 : w62.cell? ⟨gb303, 2, none⟩ = some (.int .i64 0) := (blk_cell BK303.out 2).trans rfl; have hfz64_0 := blk_frozen BK303.out 0; have hfz64_1 := blk_frozen BK303.out 1; have hfz64_2 := blk_frozen BK303.out 2; obtain ⟨Ao65, co65, eo65⟩ := Kd.R_slice HO_7.out; subst eo65))
     have n0_ : Aside0 (Kd.R k98 98 (((w62.setCell ⟨gb303, 0, none⟩ (.int .i64 x8_1)).setCell ⟨gb303, 1, none⟩ (.int .i64 t296)).setCell ⟨gb303, 2, none⟩ (.int .i64 t300)) w.heap.size (fun _ => True) (.slice (some ad299) t285.length co59) t285) := ⟨rk_ (Kd.R_mono (Kd.R_far (p := ⟨gb303, 2, none⟩) (Kd.R_far (p := ⟨gb303, 1, none⟩) (Kd.R_far (p := ⟨gb303, 0, none⟩) (Kd.R_types HO_5.out BK303.out (by decide)) (fun _ hk => hk.2) (.int .i64 x8_1)) (fun _ hk => hk.2) (.int .i64 t296)) (fun _ hk => hk.2) (.int .i64 t300)) (fun _ hk => trivial))⟩
     have n1_ : Aside0 (Kd.R k103 103 (((w62.setCell ⟨gb303, 0, none⟩ (.int .i64 x8_1)).setCell ⟨gb303, 1, none⟩ (.int .i64 t296)).setCell ⟨gb303, 2, none⟩ (.int .i64 t300)) w.heap.size (fun k_ => k_ ≠ gb303) (.slice Ao65 x7_1.length co65) x7_1) := ⟨rk_ (Kd.R_mono (Kd.R_far (p := ⟨gb303, 2, none⟩) (Kd.R_far (p := ⟨gb303, 1, none⟩) (Kd.R_far (p := ⟨gb303, 0, none⟩) (Kd.R_mono HO_7.out (fun k_ hk => (⟨hk, hk.2⟩ : _ ∧ k_ ≠ gb303))) (fun _ hk => hk.2) (.int .i64 x8_1)) (fun _ hk => hk.2) (.int .i64 t296)) (fun _ hk => hk.2) (.int .i64 t300)) (fun _ hk => hk.1.2))⟩
     have n2_ : Aside0 ((((w62.setCell ⟨gb303, 0, none⟩ (.int .i64 x8_1)).setCell ⟨gb303, 1, none⟩ (.int .i64 t296)).setCell ⟨gb303, 2, none⟩ (.int .i64 t300)).heap[gb303]? = some (.cells #[.int .i64 x8_1, .int .i64 t296, .int .i64 t300] 103 (0, 0))) := ⟨by (with_reducible repeat (first | refine blk_drewN ?_ _ | refine blk_drew ?_ | refine blk_alloc ?_ _)); refine blk_put (cs := #[.int .i64 x8_1, .int .i64 t296, .int .i64 0]) ?_ 2 _ rfl; (with_reducible repeat (first | refine blk_drewN ?_ _ | refine blk_drew ?_ | refine blk_alloc ?_ _)); refine blk_put (cs := #[.int .i64 x8_1, .int .i64 0, .int .i64 0]) ?_ 1 _ rfl; (with_reducible repeat (first | refine blk_drewN ?_ _ | refine blk_drew ?_ | refine blk_alloc ?_ _)); refine blk_put (cs := #[.int .i64 0, .int .i64 0, .int .i64 0]) ?_ 0 _ rfl; (with_reducible repeat (first | refine blk_drewN ?_ _ | refine blk_drew ?_ | refine blk_alloc ?_ _)); exact BK303.out⟩
     have n3_ : Aside0 (IsS167 w0 (((w62.setCell ⟨gb303, 0, none⟩ (.int .i64 x8_1)).setCell ⟨gb303, 1, none⟩ (.int .i64 t296)).setCell ⟨gb303, 2, none⟩ (.int .i64 t300)) g s0_0 t301 t302) := ⟨r7_ HI0.out NB0_303.out⟩
     have n4_ : Aside0 (KeepBut w (((w62.setCell ⟨gb303, 0, none⟩ (.int .i64 x8_1)).setCell ⟨gb303, 1, none⟩ (.int .i64 t296)).setCell ⟨gb303, 2, none⟩ (.int .i64 t300)) g none) := ⟨r5_ HK.out GW303.out⟩
     have n5_ : Aside0 (Below w0.heap.size w0 (((w62.setCell ⟨gb303, 0, none⟩ (.int .i64 x8_1)).setCell ⟨gb303, 1, none⟩ (.int .i64 t296)).setCell ⟨gb303, 2, none⟩ (.int .i64 t300))) := ⟨r10_ HB.out HI0.out GE303.out⟩
     (try clear HO_5)
     (try clear HO_7)
     (try clear BK303)
     (try clear HI0)
     (try clear HK)
     (try clear HB)
     generalize (((w62.setCell ⟨gb303, 0, none⟩ (.int .i64 x8_1)).setCell ⟨gb303, 1, none⟩ (.int .i64 t296)).setCell ⟨gb303, 2, none⟩ (.int .i64 t300)) = w66 at n0_ n1_ n2_ n3_ n4_ n5_ ⊢
     have HO_5 := n0_
     have HO_7 := n1_
     have BK303 := n2_
     have HI0 := n3_
     have HK := n4_
     have HB := n5_
     clear n0_ n1_ n2_ n3_ n4_ n5_
     have n0_ := Aside0.mk (Kd.R_drew HO_5.out)
     have n1_ := Aside0.mk (Kd.R_drew HO_7.out)
     have n2_ := Aside0.mk (blk_drew BK303.out)
     have n3_ := Aside0.mk (IsS167.drew HI0.out)
     have n4_ := Aside0.mk (keep_drew HK.out)
     have n5_ := Aside0.mk (below_drew1 HB.out)
     clear HO_5
     clear HO_7
     clear BK303
     clear HI0
     clear HK
     clear HB
     have HO_5 := n0_
     have HO_7 := n1_
     have BK303 := n2_
     have HI0 := n3_
     have HK := n4_
     have HB := n5_
     clear n0_ n1_ n2_ n3_ n4_ n5_
     refine start_ (n := 7) (S := fun w' => w'.cell? ⟨gb303, 0, none⟩ = some (.int .i64 x8_1) ∧ w'.cell? ⟨gb303, 1, none⟩ = some (.int .i64 t296) ∧ w'.cell? ⟨gb303, 2, none⟩ = some (.int .i64 t300)) (ds := []) #[f_,f_,f_,f_,f_,f_,f_] (by kernel_rfl) rfl rfl ⟨(blk_cell BK303.out 0).trans rfl, (blk_cell BK303.out 1).trans rfl, (blk_cell BK303.out 2).trans rfl⟩ (fun hHeld => ?_)
     generalize w66.drew = w67 at HO_5 HO_7 BK303 HI0 HK HB hHeld ⊢
     refine pure_ (i := 1) (N := some 37) (v := ?_) (a' := ?_) #[f_,t_,f_,f_,f_,f_,f_] rfl rfl (by kernel_rfl) (fun _ _ _ h => h) (Or.inl ⟨by rfl, ?_⟩) ?_ ?_
     rotate_left
     ·intro w'
      go_simp
      with_reducible rfl
     rotate_left
     ·simp only [pz_]
      rfl
     refine take_ (i := 3) (N := some 39) (v := ?_) (a' := ?_) #[f_,t_,f_,t_,f_,f_,f_] rfl rfl (by kernel_rfl) (fun _ _ _ h => h) (Or.inl ⟨by rfl, ?_⟩) hHeld ?_ ?_
     rotate_left
     ·rintro w' ⟨s0, s1, s2⟩
      go_simp
      with_reducible rfl
     rotate_left
     ·simp only [pz_]
      rfl
     refine join_ (σ := Value × Value × Value) 2 #[t_,t_,t_,t_,t_,f_,f_] (fun s_ => [(36, s_.1), (38, s_.2.1), (40, s_.2.2)]) (fun s_ w' => (w'.cell? ⟨gb303, 0, none⟩ = some (.int .i64 x8_1) ∧ w'.cell? ⟨gb303, 1, none⟩ = some (.int .i64 t296) ∧ w'.cell? ⟨gb303, 2, none⟩ = some (.int .i64 t300)) ∧ (Kd.R k103 103 w' w.heap.size (fun k_ => some k_ ≠ (s_.2.2 : Value).ownBlock ∧ some k_ ≠ (.slice Ao65 x7_1.length co65 : Value).ownBlock ∧ k_ ≠ gb303) s_.2.1 y307) ∧ (Kd.R k103 103 w' w.heap.size (fun k_ => some k_ ≠ (s_.2.1 : Value).ownBlock ∧ some k_ ≠ (.slice Ao65 x7_1.length co65 : Value).ownBlock ∧ k_ ≠ gb303) s_.2.2 y310) ∧ (Kd.R k98 98 w' w.heap.size (fun _ => True) (.slice (some ad299) t285.length co59) t285) ∧ (Kd.R k103 103 w' w.heap.size (fun k_ => some k_ ≠ (s_.2.1 : Value).ownBlock ∧ some k_ ≠ (s_.2.2 : Value).ownBlock ∧ k_ ≠ gb303) (.slice Ao65 x7_1.length co65) x7_1) ∧ (w'.heap[gb303]? = some (.cells #[.int .i64 x8_1, .int .i64 t296, .int .i64 t300] 103 (0, 0))) ∧ (IsS167 w0 w' g s0_0 t301 t302) ∧ (KeepBut w w' g none) ∧ (Below w0.heap.size w0 w')) ?_ ?_
     rotate_left
     ·intro hCont
      refine two_ (i := 0) (j := 4) (Ni := some 36) (Nj := some 40) #[t_,t_,f_,t_,f_,f_,f_] #[f_,t_,f_,t_,t_,f_,f_] rfl rfl rfl rfl (by kernel_rfl) (by decide) (by decide) (fun K hK => ?_) (fun K hK => ?_)
      ·skip
       refine Kd.R_lit_step k103 _ 103 ?hg (N := 36) ?hd (xs := ([] : List (S103))) (inner := []) (ok := fun _ => True) (okp := fun _ => True) ?hr ?hp (fun _ hk => hk) trivial (Below.refl _ _) (Nat.le_refl _) (by simp) ?_; (case hd => rfl); (case hg => rfl); (case hr => first | (go_simp; done) | (go_simp; rfl)); (case hp => exact (Reps.none _ _))
       intro v305 w68 ho69 hb hg_ hnew_
       clear hg_ hnew_
       (first | rw [← Ny304.out] at ho69 | (simp only [Int.reduceToNat] at ho69; rw [← Ny304.out] at ho69))
       have n0_ := Aside0.mk (Kd.R_below (rk_ HO_5.out) hb)
       have n1_ := Aside0.mk (Kd.R_elder' (rk_ HO_7.out) (Kd.R_base ho69) hb)
       have n2_ := Aside0.mk (Kd.R_lower (Kd.R_newB (Kd.R_new' ho69 (Kd.R_lt (rk_ HO_7.out))) (g := gb303) (o := .cells #[.int .i64 x8_1, .int .i64 t296, .int .i64 t300] 103 (0, 0)) (r1_ BK303.out)) (keep_size (w := w) (g := g) (row := none) (r5_ HK.out GW303.out)))
       have n3_ := Aside0.mk (IsS167.below (r7_ HI0.out NB0_303.out) hb)
       have n4_ := Aside0.mk (blk_below (g := gb303) (o := .cells #[.int .i64 x8_1, .int .i64 t296, .int .i64 t300] 103 (0, 0)) (r1_ BK303.out) hb)
       have n5_ := Aside0.mk (KeepBut.trans (r5_ HK.out GW303.out) (KeepBut.of_below hb g none) (.inl rfl))
       have n6_ := Aside0.mk (below_step (r10_ HB.out HI0.out GE303.out) hb)
       clear HO_5
       clear HO_7
       clear HI0
       clear BK303
       clear HK
       clear HB
       have HO_5 := n0_
       have HO_7 := n1_
       have HO306 := n2_
       have HI0 := n3_
       have BK303 := n4_
       have HK := n5_
       have HB := n6_
       clear n0_ n1_ n2_ n3_ n4_ n5_ n6_
       clear hb ho69
       refine hK.out _ _ ⟨(blk_cell BK303.out 0).trans rfl, (blk_cell BK303.out 1).trans rfl, (blk_cell BK303.out 2).trans rfl⟩ (fun hHeld => ?_)
       clear hK K
       refine norm_ (a' := ?_) ?_ ?_
       rotate_left
       ·show Act.put _ (some 36) _ = _
        simp only [pz_]
        rfl
       refine two_ (i := 2) (j := 4) (Ni := some 38) (Nj := some 40) #[t_,t_,t_,t_,f_,f_,f_] #[t_,t_,f_,t_,t_,f_,f_] rfl rfl rfl rfl (by kernel_rfl) (by decide) (by decide) (fun K hK => ?_) (fun K hK => ?_)
       ·skip
        refine Kd.R_append_rows_step k103 w.heap.size (by rfl) (.tmp 36) (.tmp 37) 26 103 (.agg #[(.int .i64 0), (.int .i64 0), (.int .i64 0)]) 24 rfl Try.underlying26 info103 rfl (by decide) (by omega) v305 y304 x7_1 _ _ _ (fun k_ => some k_ ≠ (.slice Ao65 x7_1.length co65 : Value).ownBlock ∧ k_ ≠ gb303) (fun _ => False) rfl rfl ?aO ?aR (fun _ _ h => h) (fun _ h => h.elim) ?aF (Below.refl _ _) ?aS ?aL ?_
        (case aR => exact r8_ HO_7.out)
        (case aF => exact (fun k_ hk => ⟨Kd.fresh' (Kd.R_lt (rk_ HO_7.out)) k_ hk, Kd.freshB (g := gb303) (o := .cells #[.int .i64 x8_1, .int .i64 t296, .int .i64 t300] 103 (0, 0)) (r1_ BK303.out) k_ hk⟩))
        (case aO => exact (rk_ (Kd.R_mono HO306.out (fun _ hk => ⟨hk.1.2, hk.2⟩))))
        (case aS => exact (keep_size (w := w) (g := g) (row := none) (r5_ HK.out GW303.out)))
        (case aL => have := LMc13.out; omega)
        intro v308 w70 ho hb hg hat
        rw [← Ny307.out] at ho
        have n0_ := Aside0.mk (Kd.R_over' (rk_ HO_5.out) (Kd.R_typed (rk_ HO306.out)) (by decide) hg)
        have n1_ := Aside0.mk (Kd.R_after (ok := (fun k_ => k_ ≠ gb303)) (rk_ HO_7.out) hg hat)
        have n2_ := Aside0.mk (IsS167.grown (r7_ HI0.out NB0_303.out) hg (IsS167.own_ne HI0.out HO306.out (by decide)))
        have n3_ := Aside0.mk (blk_grown (g := gb303) (o := .cells #[.int .i64 x8_1, .int .i64 t296, .int .i64 t300] 103 (0, 0)) (r1_ BK303.out) hg (Kd.R_away HO306.out (fun _ hk => hk.2)))
        have n4_ := Aside0.mk (below_weaken (r10_ HB.out HI0.out GE303.out) HL.out hb)
        have n5_ := Aside0.mk (KeepBut.trans (r5_ HK.out GW303.out) (KeepBut.of_grown hg g) (Kd.R_base2 HO306.out))
        have n6_ := Aside0.mk (ho)
        clear HO_5
        clear HO_7
        clear HI0
        clear BK303
        clear HB
        clear HK
        clear HO306
        have HO_5 := n0_
        have HO_7 := n1_
        have HI0 := n2_
        have BK303 := n3_
        have HB := n4_
        have HK := n5_
        have HO309 := n6_
        clear n0_ n1_ n2_ n3_ n4_ n5_ n6_
        clear ho hb hg hat
        refine hK.out _ _ ⟨(blk_cell BK303.out 0).trans rfl, (blk_cell BK303.out 1).trans rfl, (blk_cell BK303.out 2).trans rfl⟩ (fun hHeld => ?_)
        clear hK K
        refine norm_ (a' := ?_) ?_ ?_
        rotate_left
        ·show Act.put _ (some 38) _ = _
         simp only [pz_]
         rfl
        refine one_ (i := 4) (N := some 40) #[t_,t_,t_,t_,t_,f_,f_] rfl rfl (by kernel_rfl) (by decide) (fun K hK => ?_)
        refine Kd.R_lit_step k103 _ 103 ?hg (N := 40) ?hd (xs := ([(⟨x8_1, t296, t300⟩ : S103)] : List (S103))) (inner := [.int .i64 x8_1, .int .i64 t296, .int .i64 t300]) (ok := fun _ => True) (okp := fun _ => True) ?hr ?hp (fun _ hk => hk) trivial (Below.refl _ _) (Nat.le_refl _) (by simp) ?_; (case hd => rfl); (case hg => rfl); (case hr => first | (go_simp; done) | (go_simp; rfl)); (case hp => exact (Reps.c3 (show Kd.M k103 _ _ _ (⟨x8_1, t296, t300⟩ : S103) [.int .i64 x8_1, .int .i64 t296, .int .i64 t300] from (k103_mkM _ _ _ (⟨x8_1, t296, t300⟩ : S103) )) (Reps.none _ _)))
        intro v311 w71 ho72 hb hg_ hnew_
        clear hg_ hnew_
        (first | rw [← Ny310.out] at ho72 | (simp only [Int.reduceToNat] at ho72; rw [← Ny310.out] at ho72))
        have n0_ := Aside0.mk (Kd.R_below (rk_ HO_5.out) hb)
        have n1_ := Aside0.mk (Kd.R_elder' (rk_ HO_7.out) (Kd.R_base ho72) hb)
        have n2_ := Aside0.mk (Kd.R_elder' (rk_ HO309.out) (Kd.R_base ho72) hb)
        have n3_ := Aside0.mk (Kd.R_lower (Kd.R_newB (Kd.R_new' (Kd.R_new' ho72 (Kd.R_lt (rk_ HO_7.out))) (Kd.R_lt (rk_ HO309.out))) (g := gb303) (o := .cells #[.int .i64 x8_1, .int .i64 t296, .int .i64 t300] 103 (0, 0)) (r1_ BK303.out)) (keep_size (w := w) (g := g) (row := none) (r5_ HK.out GW303.out)))
        have n4_ := Aside0.mk (IsS167.below (r7_ HI0.out NB0_303.out) hb)
        have n5_ := Aside0.mk (blk_below (g := gb303) (o := .cells #[.int .i64 x8_1, .int .i64 t296, .int .i64 t300] 103 (0, 0)) (r1_ BK303.out) hb)
        have n6_ := Aside0.mk (KeepBut.trans (r5_ HK.out GW303.out) (KeepBut.of_below hb g none) (.inl rfl))
        have n7_ := Aside0.mk (below_step (r10_ HB.out HI0.out GE303.out) hb)
        clear HO_5
        clear HO_7
        clear HO309
        clear HI0
        clear BK303
        clear HK
        clear HB
        have HO_5 := n0_
        have HO_7 := n1_
        have HO309 := n2_
        have HO312 := n3_
        have HI0 := n4_
        have BK303 := n5_
        have HK := n6_
        have HB := n7_
        clear n0_ n1_ n2_ n3_ n4_ n5_ n6_ n7_
        clear hb ho72
        refine hK.out _ _ ⟨(blk_cell BK303.out 0).trans rfl, (blk_cell BK303.out 1).trans rfl, (blk_cell BK303.out 2).trans rfl⟩ (fun hHeld => ?_)
        clear hK K
        refine norm_ (a' := ?_) ?_ ?_
        rotate_left
        ·show Act.put _ (some 40) _ = _
         simp only [pz_]
         rfl
        exact norm_ (by simp only [putAll, Act.put, List.setIfInBounds_toArray, List.set_cons_zero, List.set_cons_succ]) (hCont (v305, v308, v311) _ ⟨hHeld, (rk_ (Kd.R_mono HO309.out (fun _ hk => ⟨hk.2, ⟨hk.1.1, hk.1.2⟩⟩))), (rk_ (Kd.R_mono HO312.out (fun _ hk => ⟨hk.1.2, ⟨hk.1.1.2, hk.2⟩⟩))), (rk_ HO_5.out), (rk_ (Kd.R_mono HO_7.out (fun _ hk => ⟨hk.1.2, ⟨hk.2, hk.1.1⟩⟩))), (r1_ BK303.out), (r7_ HI0.out NB0_303.out), (r5_ HK.out GW303.out), (r10_ HB.out HI0.out GE303.out)⟩)
       ·skip
        refine Kd.R_lit_step k103 _ 103 ?hg (N := 40) ?hd (xs := ([(⟨x8_1, t296, t300⟩ : S103)] : List (S103))) (inner := [.int .i64 x8_1, .int .i64 t296, .int .i64 t300]) (ok := fun _ => True) (okp := fun _ => True) ?hr ?hp (fun _ hk => hk) trivial (Below.refl _ _) (Nat.le_refl _) (by simp) ?_; (case hd => rfl); (case hg => rfl); (case hr => first | (go_simp; done) | (go_simp; rfl)); (case hp => exact (Reps.c3 (show Kd.M k103 _ _ _ (⟨x8_1, t296, t300⟩ : S103) [.int .i64 x8_1, .int .i64 t296, .int .i64 t300] from (k103_mkM _ _ _ (⟨x8_1, t296, t300⟩ : S103) )) (Reps.none _ _)))
        intro v311 w70 ho71 hb hg_ hnew_
        clear hg_ hnew_
        (first | rw [← Ny310.out] at ho71 | (simp only [Int.reduceToNat] at ho71; rw [← Ny310.out] at ho71))
        have n0_ := Aside0.mk (Kd.R_below (rk_ HO_5.out) hb)
        have n1_ := Aside0.mk (Kd.R_elder' (rk_ HO_7.out) (Kd.R_base ho71) hb)
        have n2_ := Aside0.mk (Kd.R_elder' (rk_ HO306.out) (Kd.R_base ho71) hb)
        have n3_ := Aside0.mk (Kd.R_lower (Kd.R_newB (Kd.R_new' (Kd.R_new' ho71 (Kd.R_lt (rk_ HO_7.out))) (Kd.R_lt (rk_ HO306.out))) (g := gb303) (o := .cells #[.int .i64 x8_1, .int .i64 t296, .int .i64 t300] 103 (0, 0)) (r1_ BK303.out)) (keep_size (w := w) (g := g) (row := none) (r5_ HK.out GW303.out)))
        have n4_ := Aside0.mk (IsS167.below (r7_ HI0.out NB0_303.out) hb)
        have n5_ := Aside0.mk (blk_below (g := gb303) (o := .cells #[.int .i64 x8_1, .int .i64 t296, .int .i64 t300] 103 (0, 0)) (r1_ BK303.out) hb)
        have n6_ := Aside0.mk (KeepBut.trans (r5_ HK.out GW303.out) (KeepBut.of_below hb g none) (.inl rfl))
        have n7_ := Aside0.mk (below_step (r10_ HB.out HI0.out GE303.out) hb)
        clear HO_5
        clear HO_7
        clear HO306
        clear HI0
        clear BK303
        clear HK
        clear HB
        have HO_5 := n0_
        have HO_7 := n1_
        have HO306 := n2_
        have HO312 := n3_
        have HI0 := n4_
        have BK303 := n5_
        have HK := n6_
        have HB := n7_
        clear n0_ n1_ n2_ n3_ n4_ n5_ n6_ n7_
        clear hb ho71
        refine hK.out _ _ ⟨(blk_cell BK303.out 0).trans rfl, (blk_cell BK303.out 1).trans rfl, (blk_cell BK303.out 2).trans rfl⟩ (fun hHeld => ?_)
        clear hK K
        refine norm_ (a' := ?_) ?_ ?_
        rotate_left
        ·show Act.put _ (some 40) _ = _
         simp only [pz_]
         rfl
        refine one_ (i := 2) (N := some 38) #[t_,t_,t_,t_,t_,f_,f_] rfl rfl (by kernel_rfl) (by decide) (fun K hK => ?_)
        refine Kd.R_append_rows_step k103 w.heap.size (by rfl) (.tmp 36) (.tmp 37) 26 103 (.agg #[(.int .i64 0), (.int .i64 0), (.int .i64 0)]) 24 rfl Try.underlying26 info103 rfl (by decide) (by omega) v305 y304 x7_1 _ _ _ (fun k_ => some k_ ≠ (.slice Ao65 x7_1.length co65 : Value).ownBlock ∧ some k_ ≠ (v311 : Value).ownBlock ∧ k_ ≠ gb303) (fun _ => False) rfl rfl ?aO ?aR (fun _ _ h => h) (fun _ h => h.elim) ?aF (Below.refl _ _) ?aS ?aL ?_
        (case aR => exact r8_ HO_7.out)
        (case aF => exact (fun k_ hk => ⟨Kd.fresh' (Kd.R_lt (rk_ HO_7.out)) k_ hk, Kd.fresh' (Kd.R_lt (rk_ HO312.out)) k_ hk, Kd.freshB (g := gb303) (o := .cells #[.int .i64 x8_1, .int .i64 t296, .int .i64 t300] 103 (0, 0)) (r1_ BK303.out) k_ hk⟩))
        (case aO => exact (rk_ (Kd.R_mono HO306.out (fun _ hk => ⟨hk.1.1.2, ⟨hk.2, hk.1.2⟩⟩))))
        (case aS => exact (keep_size (w := w) (g := g) (row := none) (r5_ HK.out GW303.out)))
        (case aL => have := LMc13.out; omega)
        intro v308 w72 ho hb hg hat
        rw [← Ny307.out] at ho
        have n0_ := Aside0.mk (Kd.R_over' (rk_ HO_5.out) (Kd.R_typed (rk_ HO306.out)) (by decide) hg)
        have n1_ := Aside0.mk (Kd.R_after (ok := (fun k_ => some k_ ≠ (v311 : Value).ownBlock ∧ k_ ≠ gb303)) (rk_ (Kd.R_mono HO_7.out (fun _ hk => ⟨⟨hk.2, hk.1.1⟩, hk.1.2⟩))) hg hat)
        have n2_ := Aside0.mk (IsS167.grown (r7_ HI0.out NB0_303.out) hg (IsS167.own_ne HI0.out HO306.out (by decide)))
        have n3_ := Aside0.mk (blk_grown (g := gb303) (o := .cells #[.int .i64 x8_1, .int .i64 t296, .int .i64 t300] 103 (0, 0)) (r1_ BK303.out) hg (Kd.R_away HO306.out (fun _ hk => hk.1.2)))
        have n4_ := Aside0.mk (Kd.R_after (ok := (fun k_ => some k_ ≠ (.slice Ao65 x7_1.length co65 : Value).ownBlock ∧ k_ ≠ gb303)) (rk_ (Kd.R_mono HO312.out (fun _ hk => ⟨⟨hk.1.1.2, hk.2⟩, hk.1.2⟩))) hg hat)
        have n5_ := Aside0.mk (below_weaken (r10_ HB.out HI0.out GE303.out) HL.out hb)
        have n6_ := Aside0.mk (KeepBut.trans (r5_ HK.out GW303.out) (KeepBut.of_grown hg g) (Kd.R_base2 HO306.out))
        have n7_ := Aside0.mk (ho)
        clear HO_5
        clear HO_7
        clear HI0
        clear BK303
        clear HO312
        clear HB
        clear HK
        clear HO306
        have HO_5 := n0_
        have HO_7 := n1_
        have HI0 := n2_
        have BK303 := n3_
        have HO312 := n4_
        have HB := n5_
        have HK := n6_
        have HO309 := n7_
        clear n0_ n1_ n2_ n3_ n4_ n5_ n6_ n7_
        clear ho hb hg hat
        refine hK.out _ _ ⟨(blk_cell BK303.out 0).trans rfl, (blk_cell BK303.out 1).trans rfl, (blk_cell BK303.out 2).trans rfl⟩ (fun hHeld => ?_)
        clear hK K
        refine norm_ (a' := ?_) ?_ ?_
        rotate_left
        ·show Act.put _ (some 38) _ = _
         simp only [pz_]
         rfl
        exact norm_ (by simp only [putAll, Act.put, List.setIfInBounds_toArray, List.set_cons_zero, List.set_cons_succ]) (hCont (v305, v308, v311) _ ⟨hHeld, (rk_ (Kd.R_mono HO309.out (fun _ hk => ⟨hk.2.1, ⟨hk.1, hk.2.2⟩⟩))), (rk_ (Kd.R_mono HO312.out (fun _ hk => ⟨hk.2, ⟨hk.1.1, hk.1.2⟩⟩))), (rk_ HO_5.out), (rk_ (Kd.R_mono HO_7.out (fun _ hk => ⟨hk.2, ⟨hk.1.1, hk.1.2⟩⟩))), (r1_ BK303.out), (r7_ HI0.out NB0_303.out), (r5_ HK.out GW303.out), (r10_ HB.out HI0.out GE303.out)⟩)
      ·skip
       refine Kd.R_lit_step k103 _ 103 ?hg (N := 40) ?hd (xs := ([(⟨x8_1, t296, t300⟩ : S103)] : List (S103))) (inner := [.int .i64 x8_1, .int .i64 t296, .int .i64 t300]) (ok := fun _ => True) (okp := fun _ => True) ?hr ?hp (fun _ hk => hk) trivial (Below.refl _ _) (Nat.le_refl _) (by simp) ?_; (case hd => rfl); (case hg => rfl); (case hr => first | (go_simp; done) | (go_simp; rfl)); (case hp => exact (Reps.c3 (show Kd.M k103 _ _ _ (⟨x8_1, t296, t300⟩ : S103) [.int .i64 x8_1, .int .i64 t296, .int .i64 t300] from (k103_mkM _ _ _ (⟨x8_1, t296, t300⟩ : S103) )) (Reps.none _ _)))
       intro v311 w68 ho69 hb hg_ hnew_
       clear hg_ hnew_
       (first | rw [← Ny310.out] at ho69 | (simp only [Int.reduceToNat] at ho69; rw [← Ny310.out] at ho69))
       have n0_ := Aside0.mk (Kd.R_below (rk_ HO_5.out) hb)
       have n1_ := Aside0.mk (Kd.R_elder' (rk_ HO_7.out) (Kd.R_base ho69) hb)
       have n2_ := Aside0.mk (Kd.R_lower (Kd.R_newB (Kd.R_new' ho69 (Kd.R_lt (rk_ HO_7.out))) (g := gb303) (o := .cells #[.int .i64 x8_1, .int .i64 t296, .int .i64 t300] 103 (0, 0)) (r1_ BK303.out)) (keep_size (w := w) (g := g) (row := none) (r5_ HK.out GW303.out)))
       have n3_ := Aside0.mk (IsS167.below (r7_ HI0.out NB0_303.out) hb)
       have n4_ := Aside0.mk (blk_below (g := gb303) (o := .cells #[.int .i64 x8_1, .int .i64 t296, .int .i64 t300] 103 (0, 0)) (r1_ BK303.out) hb)
       have n5_ := Aside0.mk (KeepBut.trans (r5_ HK.out GW303.out) (KeepBut.of_below hb g none) (.inl rfl))
       have n6_ := Aside0.mk (below_step (r10_ HB.out HI0.out GE303.out) hb)
       clear HO_5
       clear HO_7
       clear HI0
       clear BK303
       clear HK
       clear HB
       have HO_5 := n0_
       have HO_7 := n1_
       have HO312 := n2_
       have HI0 := n3_
       have BK303 := n4_
       have HK := n5_
       have HB := n6_
       clear n0_ n1_ n2_ n3_ n4_ n5_ n6_
       clear hb ho69
       refine hK.out _ _ ⟨(blk_cell BK303.out 0).trans rfl, (blk_cell BK303.out 1).trans rfl, (blk_cell BK303.out 2).trans rfl⟩ (fun hHeld => ?_)
       clear hK K
       refine norm_ (a' := ?_) ?_ ?_
       rotate_left
       ·show Act.put _ (some 40) _ = _
        simp only [pz_]
        rfl
       refine one_ (i := 0) (N := some 36) #[t_,t_,f_,t_,t_,f_,f_] rfl rfl (by kernel_rfl) (by decide) (fun K hK => ?_)
       refine Kd.R_lit_step k103 _ 103 ?hg (N := 36) ?hd (xs := ([] : List (S103))) (inner := []) (ok := fun _ => True) (okp := fun _ => True) ?hr ?hp (fun _ hk => hk) trivial (Below.refl _ _) (Nat.le_refl _) (by simp) ?_; (case hd => rfl); (case hg => rfl); (case hr => first | (go_simp; done) | (go_simp; rfl)); (case hp => exact (Reps.none _ _))
       intro v305 w70 ho71 hb hg_ hnew_
       clear hg_ hnew_
       (first | rw [← Ny304.out] at ho71 | (simp only [Int.reduceToNat] at ho71; rw [← Ny304.out] at ho71))
       have n0_ := Aside0.mk (Kd.R_below (rk_ HO_5.out) hb)
       have n1_ := Aside0.mk (Kd.R_elder' (rk_ HO_7.out) (Kd.R_base ho71) hb)
       have n2_ := Aside0.mk (Kd.R_elder' (rk_ HO312.out) (Kd.R_base ho71) hb)
       have n3_ := Aside0.mk (Kd.R_lower (Kd.R_newB (Kd.R_new' (Kd.R_new' ho71 (Kd.R_lt (rk_ HO_7.out))) (Kd.R_lt (rk_ HO312.out))) (g := gb303) (o := .cells #[.int .i64 x8_1, .int .i64 t296, .int .i64 t300] 103 (0, 0)) (r1_ BK303.out)) (keep_size (w := w) (g := g) (row := none) (r5_ HK.out GW303.out)))
       have n4_ := Aside0.mk (IsS167.below (r7_ HI0.out NB0_303.out) hb)
       have n5_ := Aside0.mk (blk_below (g := gb303) (o := .cells #[.int .i64 x8_1, .int .i64 t296, .int .i64 t300] 103 (0, 0)) (r1_ BK303.out) hb)
       have n6_ := Aside0.mk (KeepBut.trans (r5_ HK.out GW303.out) (KeepBut.of_below hb g none) (.inl rfl))
       have n7_ := Aside0.mk (below_step (r10_ HB.out HI0.out GE303.out) hb)
       clear HO_5
       clear HO_7
       clear HO312
       clear HI0
       clear BK303
       clear HK
       clear HB
       have HO_5 := n0_
       have HO_7 := n1_
       have HO312 := n2_
       have HO306 := n3_
       have HI0 := n4_
       have BK303 := n5_
       have HK := n6_
       have HB := n7_
       clear n0_ n1_ n2_ n3_ n4_ n5_ n6_ n7_
       clear hb ho71
       refine hK.out _ _ ⟨(blk_cell BK303.out 0).trans rfl, (blk_cell BK303.out 1).trans rfl, (blk_cell BK303.out 2).trans rfl⟩ (fun hHeld => ?_)
       clear hK K
       refine norm_ (a' := ?_) ?_ ?_
       rotate_left
       ·show Act.put _ (some 36) _ = _
        simp only [pz_]
        rfl
       refine one_ (i := 2) (N := some 38) #[t_,t_,t_,t_,t_,f_,f_] rfl rfl (by kernel_rfl) (by decide) (fun K hK => ?_)
       refine Kd.R_append_rows_step k103 w.heap.size (by rfl) (.tmp 36) (.tmp 37) 26 103 (.agg #[(.int .i64 0), (.int .i64 0), (.int .i64 0)]) 24 rfl Try.underlying26 info103 rfl (by decide) (by omega) v305 y304 x7_1 _ _ _ (fun k_ => some k_ ≠ (.slice Ao65 x7_1.length co65 : Value).ownBlock ∧ some k_ ≠ (v311 : Value).ownBlock ∧ k_ ≠ gb303) (fun _ => False) rfl rfl ?aO ?aR (fun _ _ h => h) (fun _ h => h.elim) ?aF (Below.refl _ _) ?aS ?aL ?_
       (case aR => exact r8_ HO_7.out)
       (case aF => exact (fun k_ hk => ⟨Kd.fresh' (Kd.R_lt (rk_ HO_7.out)) k_ hk, Kd.fresh' (Kd.R_lt (rk_ HO312.out)) k_ hk, Kd.freshB (g := gb303) (o := .cells #[.int .i64 x8_1, .int .i64 t296, .int .i64 t300] 103 (0, 0)) (r1_ BK303.out) k_ hk⟩))
       (case aO => exact (rk_ (Kd.R_mono HO306.out (fun _ hk => ⟨hk.1.1.2, ⟨hk.1.2, hk.2⟩⟩))))
       (case aS => exact (keep_size (w := w) (g := g) (row := none) (r5_ HK.out GW303.out)))
       (case aL => have := LMc13.out; omega)
       intro v308 w72 ho hb hg hat
       rw [← Ny307.out] at ho
       have n0_ := Aside0.mk (Kd.R_over' (rk_ HO_5.out) (Kd.R_typed (rk_ HO306.out)) (by decide) hg)
       have n1_ := Aside0.mk (Kd.R_after (ok := (fun k_ => some k_ ≠ (v311 : Value).ownBlock ∧ k_ ≠ gb303)) (rk_ (Kd.R_mono HO_7.out (fun _ hk => ⟨⟨hk.1.2, hk.1.1⟩, hk.2⟩))) hg hat)
       have n2_ := Aside0.mk (IsS167.grown (r7_ HI0.out NB0_303.out) hg (IsS167.own_ne HI0.out HO306.out (by decide)))
       have n3_ := Aside0.mk (blk_grown (g := gb303) (o := .cells #[.int .i64 x8_1, .int .i64 t296, .int .i64 t300] 103 (0, 0)) (r1_ BK303.out) hg (Kd.R_away HO306.out (fun _ hk => hk.2)))
       have n4_ := Aside0.mk (Kd.R_after (ok := (fun k_ => some k_ ≠ (.slice Ao65 x7_1.length co65 : Value).ownBlock ∧ k_ ≠ gb303)) (rk_ (Kd.R_mono HO312.out (fun _ hk => ⟨⟨hk.1.1.2, hk.1.2⟩, hk.2⟩))) hg hat)
       have n5_ := Aside0.mk (below_weaken (r10_ HB.out HI0.out GE303.out) HL.out hb)
       have n6_ := Aside0.mk (KeepBut.trans (r5_ HK.out GW303.out) (KeepBut.of_grown hg g) (Kd.R_base2 HO306.out))
       have n7_ := Aside0.mk (ho)
       clear HO_5
       clear HO_7
       clear HI0
       clear BK303
       clear HO312
       clear HB
       clear HK
       clear HO306
       have HO_5 := n0_
       have HO_7 := n1_
       have HI0 := n2_
       have BK303 := n3_
       have HO312 := n4_
       have HB := n5_
       have HK := n6_
       have HO309 := n7_
       clear n0_ n1_ n2_ n3_ n4_ n5_ n6_ n7_
       clear ho hb hg hat
       refine hK.out _ _ ⟨(blk_cell BK303.out 0).trans rfl, (blk_cell BK303.out 1).trans rfl, (blk_cell BK303.out 2).trans rfl⟩ (fun hHeld => ?_)
       clear hK K
       refine norm_ (a' := ?_) ?_ ?_
       rotate_left
       ·show Act.put _ (some 38) _ = _
        simp only [pz_]
        rfl
       exact norm_ (by simp only [putAll, Act.put, List.setIfInBounds_toArray, List.set_cons_zero, List.set_cons_succ]) (hCont (v305, v308, v311) _ ⟨hHeld, (rk_ (Kd.R_mono HO309.out (fun _ hk => ⟨hk.2.1, ⟨hk.1, hk.2.2⟩⟩))), (rk_ (Kd.R_mono HO312.out (fun _ hk => ⟨hk.2, ⟨hk.1.1, hk.1.2⟩⟩))), (rk_ HO_5.out), (rk_ (Kd.R_mono HO_7.out (fun _ hk => ⟨hk.2, ⟨hk.1.1, hk.1.2⟩⟩))), (r1_ BK303.out), (r7_ HI0.out NB0_303.out), (r5_ HK.out GW303.out), (r10_ HB.out HI0.out GE303.out)⟩)
     rintro ⟨v305, v308, v311⟩ w73 ⟨hS_, h0_, h1_, h2_, h3_, h4_, h5_, h6_, h7_⟩
     have n0_ : Aside0 (Kd.R k103 103 w73 w.heap.size (fun k_ => some k_ ≠ (v311 : Value).ownBlock ∧ some k_ ≠ (.slice Ao65 x7_1.length co65 : Value).ownBlock ∧ k_ ≠ gb303) v308 y307) := ⟨h0_⟩
     have n1_ : Aside0 (Kd.R k103 103 w73 w.heap.size (fun k_ => some k_ ≠ (v308 : Value).ownBlock ∧ some k_ ≠ (.slice Ao65 x7_1.length co65 : Value).ownBlock ∧ k_ ≠ gb303) v311 y310) := ⟨h1_⟩
     have n2_ : Aside0 (Kd.R k98 98 w73 w.heap.size (fun _ => True) (.slice (some ad299) t285.length co59) t285) := ⟨h2_⟩
     have n3_ : Aside0 (Kd.R k103 103 w73 w.heap.size (fun k_ => some k_ ≠ (v308 : Value).ownBlock ∧ some k_ ≠ (v311 : Value).ownBlock ∧ k_ ≠ gb303) (.slice Ao65 x7_1.length co65) x7_1) := ⟨h3_⟩
     have n4_ : Aside0 (w73.heap[gb303]? = some (.cells #[.int .i64 x8_1, .int .i64 t296, .int .i64 t300] 103 (0, 0))) := ⟨h4_⟩
     have n5_ : Aside0 (IsS167 w0 w73 g s0_0 t301 t302) := ⟨h5_⟩
     have n6_ : Aside0 (KeepBut w w73 g none) := ⟨h6_⟩
     have n7_ : Aside0 (Below w0.heap.size w0 w73) := ⟨h7_⟩
     clear HO_5
     clear HO_7
     clear BK303
     clear HI0
     clear HK
     clear HB
     clear h0_ h1_ h2_ h3_ h4_ h5_ h6_ h7_
     have HO309 := n0_
     have HO312 := n1_
     have HO_5 := n2_
     have HO_7 := n3_
     have BK303 := n4_
     have HI0 := n5_
     have HK := n6_
     have HB := n7_
     clear n0_ n1_ n2_ n3_ n4_ n5_ n6_ n7_
     have hHeld : w73.cell? ⟨gb303, 0, none⟩ = some (.int .i64 x8_1) ∧ w73.cell? ⟨gb303, 1, none⟩ = some (.int .i64 t296) ∧ w73.cell? ⟨gb303, 2, none⟩ = some (.int .i64 t300) := hS_
     obtain ⟨Ao75, co75, eo75⟩ := Kd.R_slice HO312.out
     (first | subst eo75 | (injection eo75 with f1_ f2_ f3_; have f4_ := f1_.symm; have f5_ := f3_.symm; clear f1_ f2_ f3_; subst f4_; subst f5_))
     refine norm_ (a' := ?_) ?_ ?_
     rotate_left
     ·simp only [putAll, Act.put, List.setIfInBounds_toArray, List.set_cons_zero, List.set_cons_succ]
      rfl
     refine one_ (i := 5) (N := some 41) #[t_,t_,t_,t_,t_,t_,f_] rfl rfl (by kernel_rfl) (by decide) (fun K hK => ?_)
     refine Kd.R_append_rows_step k103 w.heap.size (by rfl) (.tmp 38) (.tmp 40) 26 103 (.agg #[(.int .i64 0), (.int .i64 0), (.int .i64 0)]) 24 rfl Try.underlying26 info103 rfl (by decide) (by omega) v308 y307 y310 _ _ _ (fun k_ => some k_ ≠ (.slice Ao65 x7_1.length co65 : Value).ownBlock ∧ some k_ ≠ (.slice Ao75 y310.length co75 : Value).ownBlock ∧ k_ ≠ gb303) (fun _ => False) rfl rfl ?aO ?aR (fun _ _ h => h) (fun _ h => h.elim) ?aF (Below.refl _ _) ?aS ?aL ?_
     (case aR => exact r8_ HO312.out)
     (case aF => exact (fun k_ hk => ⟨Kd.fresh' (Kd.R_lt (rk_ HO_7.out)) k_ hk, Kd.fresh' (Kd.R_lt (rk_ HO312.out)) k_ hk, Kd.freshB (g := gb303) (o := .cells #[.int .i64 x8_1, .int .i64 t296, .int .i64 t300] 103 (0, 0)) (r1_ BK303.out) k_ hk⟩))
     (case aO => exact (rk_ (Kd.R_mono HO309.out (fun _ hk => ⟨hk.2.1, ⟨hk.1, hk.2.2⟩⟩))))
     (case aS => exact (keep_size (w := w) (g := g) (row := none) (r5_ HK.out GW303.out)))
     (case aL => have := LMc14.out; omega)
     intro v314 w74 ho hb hg hat
     rw [← Ny313.out] at ho
     have n0_ := Aside0.mk (Kd.R_over' (rk_ HO_5.out) (Kd.R_typed (rk_ HO309.out)) (by decide) hg)
     have n1_ := Aside0.mk (Kd.R_after (ok := (fun k_ => some k_ ≠ (.slice Ao75 y310.length co75 : Value).ownBlock ∧ k_ ≠ gb303)) (rk_ (Kd.R_mono HO_7.out (fun _ hk => ⟨⟨hk.2.1, hk.2.2⟩, hk.1⟩))) hg hat)
     have n2_ := Aside0.mk (IsS167.grown (r7_ HI0.out NB0_303.out) hg (IsS167.own_ne HI0.out HO309.out (by decide)))
     have n3_ := Aside0.mk (blk_grown (g := gb303) (o := .cells #[.int .i64 x8_1, .int .i64 t296, .int .i64 t300] 103 (0, 0)) (r1_ BK303.out) hg (Kd.R_away HO309.out (fun _ hk => hk.2.2)))
     have n4_ := Aside0.mk (Kd.R_after (ok := (fun k_ => some k_ ≠ (.slice Ao65 x7_1.length co65 : Value).ownBlock ∧ k_ ≠ gb303)) (rk_ (Kd.R_mono HO312.out (fun _ hk => ⟨⟨hk.2.1, hk.2.2⟩, hk.1⟩))) hg hat)
     have n5_ := Aside0.mk (below_weaken (r10_ HB.out HI0.out GE303.out) HL.out hb)
     have n6_ := Aside0.mk (KeepBut.trans (r5_ HK.out GW303.out) (KeepBut.of_grown hg g) (Kd.R_base2 HO309.out))
     have n7_ := Aside0.mk (ho)
     clear HO_5
     clear HO_7
     clear HI0
     clear BK303
     clear HO312
     clear HB
     clear HK
     clear HO309
     have HO_5 := n0_
     have HO_7 := n1_
     have HI0 := n2_
     have BK303 := n3_
     have HO312 := n4_
     have HB := n5_
     have HK := n6_
     have HO315 := n7_
     clear n0_ n1_ n2_ n3_ n4_ n5_ n6_ n7_
     clear ho hb hg hat
     refine hK.out _ _ ⟨(blk_cell BK303.out 0).trans rfl, (blk_cell BK303.out 1).trans rfl, (blk_cell BK303.out 2).trans rfl⟩ (fun hHeld => ?_)
     clear hK K
     refine norm_ (a' := ?_) ?_ ?_
     rotate_left
     ·show Act.put _ (some 41) _ = _
      simp only [pz_]
      rfl
     refine pure_ (i := 6) (N := some 11) (v := ?_) (a' := ?_) #[t_,t_,t_,t_,t_,t_,t_] rfl rfl (by kernel_rfl) (fun _ _ _ h => h) (Or.inl ⟨by rfl, ?_⟩) ?_ ?_
     rotate_left
     ·intro w'
      go_simp
      with_reducible rfl
     rotate_left
     ·simp only [pz_]
      rfl
     refine done_ (by kernel_rfl) ?_
     try go_wp2_with (first | ((with_reducible refine gate_callee (f := 119) rfl ?_); refine goesL_ (some 43) rfl rfl Try.func119 (by kernel_rfl) rfl #[.pointer (some ⟨g, 0, none⟩), .int .i64 3] rfl ag_ ?_; (with_reducible refine (spec_l01Next.calls g s0_0 t301 t302 3 t316 t317 t318 w0 _ ?side1 ?side2 A15.out).mono ?_); (case side1 => exact r7_ HI0.out NB0_303.out); (case side2 => exact r10_ HB.out HI0.out GE303.out); rintro e w76 ⟨rfl, hi, hb, hk⟩; refine ⟨_, rfl, ?_⟩; have n0_ := Aside0.mk (Kd.R_mono (Kd.R_keep (IsS167.apart (show IsS167 w0 _ g s0_0 t301 t302 from r7_ HI0.out NB0_303.out) (rk_ HO_5.out) (by decide)) hk (fun _ h => h.2)) (fun _ h => h.1)); have n1_ := Aside0.mk (Kd.R_mono (Kd.R_keep (IsS167.apart (show IsS167 w0 _ g s0_0 t301 t302 from r7_ HI0.out NB0_303.out) (rk_ HO_7.out) (by decide)) hk (fun _ h => h.2)) (fun _ h => h.1)); have n2_ := Aside0.mk (KeepBut.blk hk (g' := gb303) (o := .cells #[.int .i64 x8_1, .int .i64 t296, .int .i64 t300] 103 (0, 0)) (r1_ BK303.out) NB303_0.out (by simp)); have n3_ := Aside0.mk (Kd.R_mono (Kd.R_keep (IsS167.apart (show IsS167 w0 _ g s0_0 t301 t302 from r7_ HI0.out NB0_303.out) (rk_ HO312.out) (by decide)) hk (fun _ h => h.2)) (fun _ h => h.1)); have n4_ := Aside0.mk (Kd.R_mono (Kd.R_keep (IsS167.apart (show IsS167 w0 _ g s0_0 t301 t302 from r7_ HI0.out NB0_303.out) (rk_ HO315.out) (by decide)) hk (fun _ h => h.2)) (fun _ h => h.1)); have n5_ := Aside0.mk (KeepBut.trans (r5_ HK.out GW303.out) hk (.inl rfl)); have n6_ := Aside0.mk (hb); have n7_ := Aside0.mk (hi); clear HO_5; clear HO_7; clear BK303; clear HO312; clear HO315; clear HK; clear HB; clear HI0; have HO_5 := n0_; have HO_7 := n1_; have BK303 := n2_; have HO312 := n3_; have HO315 := n4_; have HK := n5_; have HB := n6_; have HI0 := n7_; clear n0_ n1_ n2_ n3_ n4_ n5_ n6_ n7_; (try clear hb); (try clear hb2); (try clear hk); (try clear hi)))
     go_roundg k1
     case measure => have := HK1.out; omega
     case rel => exact ⟨(x7_1), (wrap64 (x8_1 + 1)), (t317), (t318), (by first | rfl | (simp; done) | (simp [*]; done)), H', ⟨by have := HK1.out; omega⟩, ⟨rk_ HO_5.out⟩, ⟨rk_ (Kd.R_mono HO_7.out (fun _ hk => trivial))⟩, ⟨r7_ HI0.out NB0_303.out⟩, ⟨r5_ HK.out GW303.out⟩, ⟨r10_ HB.out HI0.out GE303.out⟩⟩
   ·rw [if_neg c8] at H
    have c8b0 : decide (x8_1 < t290) = false := decide_eq_false c8
    clear c8
    simp only [Option.some.injEq, Prod.mk.injEq] at H
    obtain ⟨rfl, rfl, rfl, rfl, rfl⟩ := H
    go_wp2
    go_ret3
    exact ⟨_, _, by first | rfl | (simp [errW_none, errW_some] <;> rfl) | (simp [*, errW_none, errW_some] <;> rfl), rk_ HO_5.out, rk_ HO_7.out, r0_ HI0.out, r3_ HB.out HI0.out, r2_ HK.out⟩
end Go.Proofs.Ytalcbcelalbhiaa.PFnWires
