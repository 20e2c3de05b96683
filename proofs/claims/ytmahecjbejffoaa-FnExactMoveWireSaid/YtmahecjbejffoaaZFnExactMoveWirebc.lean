/- QFnExactMoveWireg of the law FnExactMoveWire: taken over, declaration by declaration, as far as the law leans on it (the words and the printed functions are the kit's own print). No condition but what each says. -/
import Derived.Test.YtmahecjbejffoaaZFnExactMoveWireav
import Derived.Test.YtmahecjbejffoaaZFnExactMoveWireba
import Derived.Test.YtmahecjbejffoaaZFnExactMoveWirebb
namespace Go.Proofs.Ytmahecjbejffoaa.PFnExactMoveWire
open Go.RowKit Go.Proofs.YtmahecjbejffoaaW.PrintWords Go.Proofs.YtmahecjbejffoaaW.PrintLast Go.Proofs.YtmahecjbejffoaaW.PrintMore
attribute [local go_sem] max2_int min2_int max_two min_two max_three min_three max_four min_four   -- for this text's walks alone
set_option linter.unusedVariables false
set_option linter.unusedSimpArgs false
def impl_wireOf.l0 : Nat → Int → List (S141) → Int → Int → Option (Int)
 | 0, _, _, _, _ => none
 | k + 1, x1, x7, x8, x9 => if x9 < x8 then (if 0 ≤ x9 then (if x9 < (x7.length : Int) then (if ((rd_T141 x7 x9).f0) = x1 then (some x9) else (impl_wireOf.l0 k x1 x7 x8 (wrap64 (x9 + 1)))) else (none)) else (none)) else (some (-1))
def impl_wireOf.f (k : Nat) (l0 : List (S141)) (a1 : Int) : Option (Int) := impl_wireOf.l0 k a1 l0 (l0.length : Int) 0
theorem impl_wireOf.mono_l : ∀ k, (∀ y0 y1 y2 y3, LeO (impl_wireOf.l0 k y0 y1 y2 y3) (impl_wireOf.l0 (k + 1) y0 y1 y2 y3))
 | 0 => fun _ _ _ _ r h => by simp [impl_wireOf.l0] at h
 | k + 1 => by
  have ih0 := impl_wireOf.mono_l k
  ·intro y0 y1 y2 y3
   unfold impl_wireOf.l0
   repeat' first
   | (with_reducible exact ih0 _ _ _ _)
   | (with_reducible exact LeO.refl _)
   | (with_reducible exact LeO.none _)
   | (with_reducible refine LeO.ite ?_ ?_)
   | (with_reducible refine LeO.bind ?_ (fun _ => ?_))
   | exact ih0 _ _ _ _
   | exact LeO.none _
   | refine LeO.ite ?_ ?_
   | refine LeO.bind ?_ (fun _ => ?_)
theorem impl_wireOf.mono : ∀ a0 a1 k, LeO (impl_wireOf.f k a0 a1) (impl_wireOf.f (k + 1) a0 a1) := by
 intro a0 a1 k
 have ih0 := impl_wireOf.mono_l k
 unfold impl_wireOf.f
 repeat' first
   | (with_reducible exact ih0 _ _ _ _)
   | (with_reducible exact LeO.refl _)
   | (with_reducible exact LeO.none _)
   | (with_reducible refine LeO.ite ?_ ?_)
   | (with_reducible refine LeO.bind ?_ (fun _ => ?_))
   | exact ih0 _ _ _ _
   | exact LeO.none _
   | refine LeO.ite ?_ ?_
   | refine LeO.bind ?_ (fun _ => ?_)
set_option maxHeartbeats 8000000 in
set_option maxRecDepth 100000 in
theorem impl_wireOf.calls (k : Nat) (A0 : Option Addr) (c0 : Nat) (l0 : List (S141)) (a1 : Int) (r : Int) (w : World) (hr0 : Kd.C k141 w A0 l0.length l0) (hc0 : l0.length ≤ c0) (h : impl_wireOf.f k l0 a1 = some r) :
  Calls Try.prog 137 #[.slice A0 l0.length c0, .int .i64 a1] w fun e w' => e = .returned (.int .i64 r) ∧ Below w.heap.size w w' := by
 have hu141 := Try.underlying141
 have HR0 := Aside0.mk hr0
 have HC0 := Aside0.mk hc0
 clear hr0 hc0
 have HB := Aside0.mk (Below.refl w.heap.size w)
 have H : (impl_wireOf.l0 k a1 l0 (l0.length : Int) 0) = some r := h
 clear h
 have H' := Aside0.mk H
 clear H
 go_enter Try.func137, Try.ntmps137
 go_wp2
 go_loopg [9] k (fun kq v9 w' => ∃ (x9_1 : Int), v9 = .int .i64 x9_1 ∧ Aside0 (impl_wireOf.l0 kq a1 l0 (l0.length : Int) x9_1 = some r) ∧ Aside0 (kq ≤ k) ∧ Aside0 (Below w.heap.size w w'))
 case atStart => exact ⟨(0), (by first | rfl | (simp; done) | (simp [*]; done)), H', ⟨Nat.le_refl _⟩, ⟨by repeat (first | (with_reducible first | exact HB.out | apply below_alloc | apply pw_below_drewN | apply below_drew1) | exact HB.out)⟩⟩
 case round =>
  clear H'
  try clear c1
  try clear p2
  obtain ⟨x9_1, rfl, HA, HK1, HB⟩ := hrel
  cases gk with
  | zero => exact absurd HA.out (by simp [impl_wireOf.l0])
  | succ k1 =>
   have H := HA.out
   clear HA
   simp only [impl_wireOf.l0] at H
   by_cases c3 : x9_1 < (l0.length : Int)
   ·rw [if_pos c3] at H
    have c3b0 : decide (x9_1 < (l0.length : Int)) = true := decide_eq_true c3
    clear c3
    by_cases c4 : 0 ≤ x9_1
    ·rw [if_pos c4] at H
     have c4b0 : decide (0 ≤ x9_1) = true := decide_eq_true c4
     clear c4
     by_cases c5 : x9_1 < (l0.length : Int)
     ·rw [if_pos c5] at H
      have c5b0 : decide (x9_1 < (l0.length : Int)) = true := decide_eq_true c5
      clear c5
      by_cases c6 : ((rd_T141 l0 x9_1).f0) = a1
      ·rw [if_pos c6] at H
       have c6b0 : (((rd_T141 l0 x9_1).f0) == a1) = true := beq_iff_eq.mpr c6
       have c6b1 : (((rd_T141 l0 x9_1).f0) != a1) = false := bne_eq_false_iff_eq.mpr c6
       clear c6
       obtain rfl := Option.some.inj H
       have p247 : 0 ≤ (x9_1 : Int) := of_decide_eq_true (by first | (with_reducible assumption) | assumption)
       have q247 : x9_1 < (l0.length : Int) := of_decide_eq_true (by first | (with_reducible assumption) | assumption)
       obtain ⟨ad247, e247, hx247_0, hx247_1, hx247_2⟩ := at_T141 HR0.out x9_1 p247 q247
       cases e247
       replace hx247_0 := (HB.out.cell (World.block_lt_of_cell? w _ hx247_0)).trans hx247_0
       replace hx247_1 := (HB.out.cell (World.block_lt_of_cell? w _ hx247_1)).trans hx247_1
       replace hx247_2 := (HB.out.cell (World.block_lt_of_cell? w _ hx247_2)).trans hx247_2
       replace p247 := eq_true p247
       replace q247 := eq_true q247
       go_wp2_with (first | ((with_reducible refine gate_dst (N := 6) rfl ?_); refine box_event ?hg (N := 6) ?hd (cs := #[.int .i64 0, .int .i64 0, .int .i64 0]) (t := 141) ?hr ?_; (case hd => rfl); (case hg => rfl); (case hr => first | (go_simp; done) | (go_simp; rfl)); intro gb248 hg w7 hbox hb; have n0_ := Aside0.mk (below_step (by repeat (first | (with_reducible first | exact HB.out | apply below_alloc | apply pw_below_drewN | apply below_drew1) | exact HB.out)) hb); have n1_ := Aside0.mk (hbox); have n2_ := Aside0.mk ((by rw [hg]; exact (below_size (by repeat (first | (with_reducible first | exact HB.out | apply below_alloc | apply pw_below_drewN | apply below_drew1) | exact HB.out))) : w.heap.size ≤ gb248)); have n3_ := Aside0.mk ((by rw [hg]; exact (below_size (by repeat (first | (with_reducible first | exact HB.out | apply below_alloc | apply pw_below_drewN | apply below_drew1) | exact HB.out))) : w.heap.size ≤ gb248)); clear HB; have HB := n0_; have BK248 := n1_; have GW248 := n2_; have GE248 := n3_; clear n0_ n1_ n2_ n3_; clear hb hbox hg; have hcz8_0 : w7.cell? ⟨gb248, 0, none⟩ = some (.int .i64 0) := (blk_cell BK248.out 0).trans rfl; have hcz8_1 : w7.cell? ⟨gb248, 1, none⟩ = some (.int .i64 0) := (blk_cell BK248.out 1).trans rfl; have hcz8_2 : w7.cell? ⟨gb248, 2, none⟩ = some (.int .i64 0) := (blk_cell BK248.out 2).trans rfl; have hfz8_0 := blk_frozen BK248.out 0; have hfz8_1 := blk_frozen BK248.out 1; have hfz8_2 := blk_frozen BK248.out 2))
       go_ret
       exact ⟨by first | rfl | (simp [errW_none, errW_some] <;> rfl) | (simp [*, errW_none, errW_some] <;> rfl), by repeat (first | (with_reducible first | exact HB.out | apply below_alloc | apply pw_below_drewN | apply below_drew1 | refine below_set ?_ GE248.out) | exact HB.out)⟩
      ·rw [if_neg c6] at H
       have c6b0 : (((rd_T141 l0 x9_1).f0) == a1) = false := beq_eq_false_iff_ne.mpr c6
       have c6b1 : (((rd_T141 l0 x9_1).f0) != a1) = true := bne_iff_ne.mpr c6
       have H' := Aside0.mk H
       clear H
       have p247 : 0 ≤ (x9_1 : Int) := of_decide_eq_true (by first | (with_reducible assumption) | assumption)
       have q247 : x9_1 < (l0.length : Int) := of_decide_eq_true (by first | (with_reducible assumption) | assumption)
       obtain ⟨ad247, e247, hx247_0, hx247_1, hx247_2⟩ := at_T141 HR0.out x9_1 p247 q247
       cases e247
       replace hx247_0 := (HB.out.cell (World.block_lt_of_cell? w _ hx247_0)).trans hx247_0
       replace hx247_1 := (HB.out.cell (World.block_lt_of_cell? w _ hx247_1)).trans hx247_1
       replace hx247_2 := (HB.out.cell (World.block_lt_of_cell? w _ hx247_2)).trans hx247_2
       replace p247 := eq_true p247
       replace q247 := eq_true q247
       go_wp2_with (first | ((with_reducible refine gate_dst (N := 6) rfl ?_); refine box_event ?hg (N := 6) ?hd (cs := #[.int .i64 0, .int .i64 0, .int .i64 0]) (t := 141) ?hr ?_; (case hd => rfl); (case hg => rfl); (case hr => first | (go_simp; done) | (go_simp; rfl)); intro gb248 hg w9 hbox hb; have n0_ := Aside0.mk (below_step (by repeat (first | (with_reducible first | exact HB.out | apply below_alloc | apply pw_below_drewN | apply below_drew1) | exact HB.out)) hb); have n1_ := Aside0.mk (hbox); have n2_ := Aside0.mk ((by rw [hg]; exact (below_size (by repeat (first | (with_reducible first | exact HB.out | apply below_alloc | apply pw_below_drewN | apply below_drew1) | exact HB.out))) : w.heap.size ≤ gb248)); have n3_ := Aside0.mk ((by rw [hg]; exact (below_size (by repeat (first | (with_reducible first | exact HB.out | apply below_alloc | apply pw_below_drewN | apply below_drew1) | exact HB.out))) : w.heap.size ≤ gb248)); clear HB; have HB := n0_; have BK248 := n1_; have GW248 := n2_; have GE248 := n3_; clear n0_ n1_ n2_ n3_; clear hb hbox hg; have hcz10_0 : w9.cell? ⟨gb248, 0, none⟩ = some (.int .i64 0) := (blk_cell BK248.out 0).trans rfl; have hcz10_1 : w9.cell? ⟨gb248, 1, none⟩ = some (.int .i64 0) := (blk_cell BK248.out 1).trans rfl; have hcz10_2 : w9.cell? ⟨gb248, 2, none⟩ = some (.int .i64 0) := (blk_cell BK248.out 2).trans rfl; have hfz10_0 := blk_frozen BK248.out 0; have hfz10_1 := blk_frozen BK248.out 1; have hfz10_2 := blk_frozen BK248.out 2))
       go_roundg k1
       case measure => have := HK1.out; omega
       case rel => exact ⟨(wrap64 (x9_1 + 1)), (by first | rfl | (simp; done) | (simp [*]; done)), H', ⟨by have := HK1.out; omega⟩, ⟨by repeat (first | (with_reducible first | exact HB.out | apply below_alloc | apply pw_below_drewN | apply below_drew1 | refine below_set ?_ GE248.out) | exact HB.out)⟩⟩
     ·rw [if_neg c5] at H
      exact absurd H (by simp)
    ·rw [if_neg c4] at H
     exact absurd H (by simp)
   ·rw [if_neg c3] at H
    have c3b0 : decide (x9_1 < (l0.length : Int)) = false := decide_eq_false c3
    clear c3
    obtain rfl := Option.some.inj H
    go_wp2
    go_ret
    exact ⟨by first | rfl | (simp [errW_none, errW_some] <;> rfl) | (simp [*, errW_none, errW_some] <;> rfl), by repeat (first | (with_reducible first | exact HB.out | apply below_alloc | apply pw_below_drewN | apply below_drew1) | exact HB.out)⟩
def impl_MoveWire.j0 : Nat → List (S141) → Int → Int → Int → Bool → Option ((List (S141)) × Int)
 | 0, _, _, _, _, _ => none
 | k + 1, x2, x3, x4, x5, x33 => if x33 = true then (some (([] : List (S141)), 2)) else ((impl_wireOf.f k x2 x3).bind fun t252 => (if t252 < 0 then (some (([] : List (S141)), 4)) else ((impl_cueAt.f k x2 x4 x5).bind fun t253 => (if t253 ≥ 0 then (if t253 = x3 then ((some (([] : List (S141)) : List (S141))).bind fun y254 => (if y254.length + x2.length < 5864062014805 then ((some (y254 ++ x2 : List (S141))).bind fun y257 => (if 0 ≤ t252 then (if t252 < (y257.length : Int) then ((some (y257.set (t252 : Int).toNat (⟨(rd_T141 y257 t252).f0, x4, (rd_T141 y257 t252).f2⟩ : S141) : List (S141))).bind fun y260 => (some ((y260.set (t252 : Int).toNat (⟨(rd_T141 y260 t252).f0, (rd_T141 y260 t252).f1, x5⟩ : S141)), 0))) else (none)) else (none))) else (none))) else (some (([] : List (S141)), 5))) else ((some (([] : List (S141)) : List (S141))).bind fun y262 => (if y262.length + x2.length < 5864062014805 then ((some (y262 ++ x2 : List (S141))).bind fun y265 => (if 0 ≤ t252 then (if t252 < (y265.length : Int) then ((some (y265.set (t252 : Int).toNat (⟨(rd_T141 y265 t252).f0, x4, (rd_T141 y265 t252).f2⟩ : S141) : List (S141))).bind fun y268 => (some ((y268.set (t252 : Int).toNat (⟨(rd_T141 y268 t252).f0, (rd_T141 y268 t252).f1, x5⟩ : S141)), 0))) else (none)) else (none))) else (none)))))))
def impl_MoveWire.f (k : Nat) (l0 : List (S47)) (a1 : Int) (l2 : List (S141)) (a3 : Int) (a4 : Int) (a5 : Int) : Option ((List (S141)) × Int) := (impl_AreWires.f k l0 a1 l2).bind fun t249 => (if t249 = true then ((impl_within.f a3 0 (wrap64 (a1 - 1))).bind fun t250 => (if t250 = true then ((impl_isPin.f l0 a4 a5).bind fun t251 => (impl_MoveWire.j0 k l2 a3 a4 a5 (!t251))) else (impl_MoveWire.j0 k l2 a3 a4 a5 true))) else (some (([] : List (S141)), 1)))
theorem impl_MoveWire.mono_l : ∀ k, (∀ y0 y1 y2 y3 y4, LeO (impl_MoveWire.j0 k y0 y1 y2 y3 y4) (impl_MoveWire.j0 (k + 1) y0 y1 y2 y3 y4))
 | 0 => fun _ _ _ _ _ r h => by simp [impl_MoveWire.j0] at h
 | k + 1 => by
  have ih0 := impl_MoveWire.mono_l k
  ·intro y0 y1 y2 y3 y4
   unfold impl_MoveWire.j0
   repeat' first
   | (with_reducible exact ih0 _ _ _ _ _)
   | (with_reducible exact impl_AreWires.mono _ _ _ _)
   | (with_reducible exact impl_cueAt.mono _ _ _ _)
   | (with_reducible exact impl_wireOf.mono _ _ _)
   | (with_reducible exact LeO.refl _)
   | (with_reducible exact LeO.none _)
   | (with_reducible refine LeO.ite ?_ ?_)
   | (with_reducible refine LeO.bind ?_ (fun _ => ?_))
   | exact ih0 _ _ _ _ _
   | exact impl_AreWires.mono _ _ _ _
   | exact impl_cueAt.mono _ _ _ _
   | exact impl_wireOf.mono _ _ _
   | exact LeO.none _
   | refine LeO.ite ?_ ?_
   | refine LeO.bind ?_ (fun _ => ?_)
theorem impl_MoveWire.mono : ∀ a0 a1 a2 a3 a4 a5 k, LeO (impl_MoveWire.f k a0 a1 a2 a3 a4 a5) (impl_MoveWire.f (k + 1) a0 a1 a2 a3 a4 a5) := by
 intro a0 a1 a2 a3 a4 a5 k
 have ih0 := impl_MoveWire.mono_l k
 unfold impl_MoveWire.f
 repeat' first
   | (with_reducible exact ih0 _ _ _ _ _)
   | (with_reducible exact impl_AreWires.mono _ _ _ _)
   | (with_reducible exact impl_cueAt.mono _ _ _ _)
   | (with_reducible exact impl_wireOf.mono _ _ _)
   | (with_reducible exact LeO.refl _)
   | (with_reducible exact LeO.none _)
   | (with_reducible refine LeO.ite ?_ ?_)
   | (with_reducible refine LeO.bind ?_ (fun _ => ?_))
   | exact ih0 _ _ _ _ _
   | exact impl_AreWires.mono _ _ _ _
   | exact impl_cueAt.mono _ _ _ _
   | exact impl_wireOf.mono _ _ _
   | exact LeO.none _
   | refine LeO.ite ?_ ?_
   | refine LeO.bind ?_ (fun _ => ?_)
set_option maxHeartbeats 8000000 in
set_option maxRecDepth 100000 in
theorem impl_MoveWire.calls (k : Nat) (A0 : Option Addr) (c0 : Nat) (l0 : List (S47)) (a1 : Int) (A2 : Option Addr) (c2 : Nat) (l2 : List (S141)) (a3 : Int) (a4 : Int) (a5 : Int) (r1 : List (S141)) (r2 : Int) (w : World) (hr0 : Kd.C k47 w A0 l0.length l0) (hc0 : l0.length ≤ c0) (hr2 : Kd.C k141 w A2 l2.length l2) (hc2 : l2.length ≤ c2) (h : impl_MoveWire.f k l0 a1 l2 a3 a4 a5 = some (r1, r2)) :
  Calls Try.prog 83 #[.slice A0 l0.length c0, .int .i64 a1, .slice A2 l2.length c2, .int .i64 a3, .int .i64 a4, .int .i64 a5] w fun e w' => ∃ v0_ : Value, e = .returned (.tuple #[v0_, .int .i64 r2]) ∧ Kd.R k141 141 w' w.heap.size (fun _ => True) v0_ r1 ∧ Below w.heap.size w w' := by
 have HR0 := Aside0.mk hr0
 have HC0 := Aside0.mk hc0
 clear hr0 hc0
 have HR2 := Aside0.mk hr2
 have HC2 := Aside0.mk hc2
 clear hr2 hc2
 have HB := Aside0.mk (Below.refl w.heap.size w)
 have H : ((impl_AreWires.f k l0 a1 l2).bind fun t249 => (if t249 = true then ((impl_within.f a3 0 (wrap64 (a1 - 1))).bind fun t250 => (if t250 = true then ((impl_isPin.f l0 a4 a5).bind fun t251 => (impl_MoveWire.j0 k l2 a3 a4 a5 (!t251))) else (impl_MoveWire.j0 k l2 a3 a4 a5 true))) else (some (([] : List (S141)), 1)))) = some (r1, r2) := h
 clear h
 replace H := Option.bind_eq_some_iff.mp H
 obtain ⟨t249, A70, H⟩ := H
 replace H : (if t249 = true then ((impl_within.f a3 0 (wrap64 (a1 - 1))).bind fun t250 => (if t250 = true then ((impl_isPin.f l0 a4 a5).bind fun t251 => (impl_MoveWire.j0 k l2 a3 a4 a5 (!t251))) else (impl_MoveWire.j0 k l2 a3 a4 a5 true))) else (some (([] : List (S141)), 1))) = some (r1, r2) := H
 have A7 := Aside0.mk A70
 clear A70
 by_cases c8 : t249 = true
 ·subst c8
  have H1 : ((impl_within.f a3 0 (wrap64 (a1 - 1))).bind fun t250 => (if t250 = true then ((impl_isPin.f l0 a4 a5).bind fun t251 => (impl_MoveWire.j0 k l2 a3 a4 a5 (!t251))) else (impl_MoveWire.j0 k l2 a3 a4 a5 true))) = some (r1, r2) := by rw [if_pos rfl] at H; exact H
  clear H
  have H := H1
  clear H1
  have HC9 := Aside0.mk H
  clear H
  go_enter Try.func83, Try.ntmps83
  go_upto_region 3 with (first | ((with_reducible refine gate_callee (f := 131) rfl ?_); refine goesL_ (some 20) rfl rfl Try.func131 (by kernel_rfl) rfl #[.slice A0 l0.length c0, .int .i64 a1, .slice A2 l2.length c2] rfl (by (try simp only [List.map_toArray, List.map_cons, List.map_nil]); first | done | rfl | (simp only [List.length_drop, List.length_take]; rfl)) ?_; (with_reducible refine (impl_AreWires.calls k _ _ l0 a1 _ _ l2 true _ ?side1 ?side2 ?side3 ?side4 A7.out).mono ?_); (case side1 => repeat (first | exact HR0.out | (with_reducible refine Kd.C_alloc ?_ _) | (with_reducible refine Kd.C_drewN ?_ _) | (with_reducible refine Kd.C_drew ?_))); (case side2 => exact HC0.out); (case side3 => repeat (first | exact HR2.out | (with_reducible refine Kd.C_alloc ?_ _) | (with_reducible refine Kd.C_drewN ?_ _) | (with_reducible refine Kd.C_drew ?_))); (case side4 => exact HC2.out); rintro e w10 ⟨rfl, hb⟩; refine ⟨_, rfl, ?_⟩; have n0_ := Aside0.mk (below_step (by repeat (first | (with_reducible first | exact HB.out | apply below_alloc | apply pw_below_drewN | apply below_drew1) | exact HB.out)) hb); clear HB; have HB := n0_; clear n0_; (try clear hb); (try clear hb2); (try clear hk); (try clear hi)))
  (try simp only [Act.put, List.setIfInBounds_toArray, List.set_cons_zero, List.set_cons_succ])
  go_cut [33] (fun v33 wc => ∃ (kq : Nat) (x33_8 : Bool), v33 = .bool x33_8 ∧ Aside0 (impl_MoveWire.j0 kq l2 a3 a4 a5 x33_8 = some (r1, r2)) ∧ Aside0 (kq ≤ k) ∧ Aside0 (Below w.heap.size w wc))
  case first =>
   have H := HC9.out
   clear HC9
   replace H := Option.bind_eq_some_iff.mp H
   obtain ⟨t250, A110, H⟩ := H
   replace H : (if t250 = true then ((impl_isPin.f l0 a4 a5).bind fun t251 => (impl_MoveWire.j0 k l2 a3 a4 a5 (!t251))) else (impl_MoveWire.j0 k l2 a3 a4 a5 true)) = some (r1, r2) := H
   have A11 := Aside0.mk A110
   clear A110
   by_cases c12 : t250 = true
   ·subst c12
    have H1 : ((impl_isPin.f l0 a4 a5).bind fun t251 => (impl_MoveWire.j0 k l2 a3 a4 a5 (!t251))) = some (r1, r2) := by rw [if_pos rfl] at H; exact H
    clear H
    have H := H1
    clear H1
    replace H := Option.bind_eq_some_iff.mp H
    obtain ⟨t251, A130, H⟩ := H
    replace H : (impl_MoveWire.j0 k l2 a3 a4 a5 (!t251)) = some (r1, r2) := H
    have A13 := Aside0.mk A130
    clear A130
    have H' := Aside0.mk H
    clear H
    go_wp2_with (first | ((with_reducible refine gate_callee (f := 101) rfl ?_); refine goesL_ (some 25) rfl rfl Try.func101 (by kernel_rfl) rfl #[.int .i64 a3, .int .i64 0, .int .i64 (wrap64 (a1 - 1))] rfl (by (try simp only [List.map_toArray, List.map_cons, List.map_nil]); first | done | rfl | (simp only [List.length_drop, List.length_take]; rfl)) ?_; (with_reducible refine (impl_within.calls a3 0 (wrap64 (a1 - 1)) true _ A11.out).mono ?_); rintro e w' ⟨rfl, ⟨nd, rfl⟩⟩; refine ⟨_, rfl, ?_⟩) | (go_at_call 158; (with_reducible refine (impl_isPin.calls _ _ l0 a4 a5 t251 _ ?side1 ?side2 A13.out).mono ?_); (case side1 => repeat (first | exact (Kd.C_below HR0.out (by repeat (first | (with_reducible first | exact HB.out | apply below_alloc | apply pw_below_drewN | apply below_drew1) | exact HB.out))) | (with_reducible refine Kd.C_alloc ?_ _) | (with_reducible refine Kd.C_drewN ?_ _) | (with_reducible refine Kd.C_drew ?_))); (case side2 => exact HC0.out); rintro e w' ⟨rfl, ⟨nd, rfl⟩⟩))
    go_meet
    case rel => exact ⟨_, (!t251), (by first | rfl | (simp; done) | (simp [*]; done)), H', ⟨by first | omega | exact Nat.le_refl _⟩, ⟨by repeat (first | (with_reducible first | exact HB.out | apply below_alloc | apply pw_below_drewN | apply below_drew1) | exact HB.out)⟩⟩
   ·replace c12 := Bool.eq_false_iff.mpr c12
    subst c12
    have H1 : (impl_MoveWire.j0 k l2 a3 a4 a5 true) = some (r1, r2) := by rw [if_neg (show ¬ (false = true) by decide)] at H; exact H
    clear H
    have H := H1
    clear H1
    have H' := Aside0.mk H
    clear H
    go_wp2_with (first | ((with_reducible refine gate_callee (f := 101) rfl ?_); refine goesL_ (some 25) rfl rfl Try.func101 (by kernel_rfl) rfl #[.int .i64 a3, .int .i64 0, .int .i64 (wrap64 (a1 - 1))] rfl (by (try simp only [List.map_toArray, List.map_cons, List.map_nil]); first | done | rfl | (simp only [List.length_drop, List.length_take]; rfl)) ?_; (with_reducible refine (impl_within.calls a3 0 (wrap64 (a1 - 1)) false _ A11.out).mono ?_); rintro e w' ⟨rfl, ⟨nd, rfl⟩⟩; refine ⟨_, rfl, ?_⟩))
    go_meet
    case rel => exact ⟨_, (true), (by first | rfl | (simp; done) | (simp [*]; done)), H', ⟨by first | omega | exact Nat.le_refl _⟩, ⟨by repeat (first | (with_reducible first | exact HB.out | apply below_alloc | apply pw_below_drewN | apply below_drew1) | exact HB.out)⟩⟩
  case rest =>
   clear HC9
   try clear c1
   try clear c2
   try clear p2
   try clear p6
   try clear c8
   try clear c10
   try clear c12
   try clear c13
   obtain ⟨kq, x33_8, rfl, HA, HJ8, HB⟩ := hcut
   cases kq with
   | zero => exact absurd HA.out (by simp [impl_MoveWire.j0])
   | succ kj8 =>
    have H := HA.out
    clear HA
    simp only [impl_MoveWire.j0] at H
    by_cases c14 : x33_8 = true
    ·subst c14
     have H1 : (some (([] : List (S141)), 2)) = some (r1, r2) := by rw [if_pos rfl] at H; exact H
     clear H
     have H := H1
     clear H1
     simp only [Option.some.injEq, Prod.mk.injEq] at H
     obtain ⟨rfl, rfl⟩ := H
     go_wp2
     go_ret2
     exact ⟨_, by first | rfl | (simp [errW_none, errW_some] <;> rfl) | (simp [*, errW_none, errW_some] <;> rfl), by first | exact Kd.R_nil _ _ _ _ _ | exact Kd.N_nil _ _ _ _ _ | exact Kd.V_nil _ _ _ _ _ | exact Kd.Q_nil _ _ _ _ _ | exact Kd.S_nil _ _ _ _ _, by repeat (first | (with_reducible first | exact HB.out | apply below_alloc | apply pw_below_drewN | apply below_drew1) | exact HB.out)⟩
    ·replace c14 := Bool.eq_false_iff.mpr c14
     subst c14
     have H1 : ((impl_wireOf.f kj8 l2 a3).bind fun t252 => (if t252 < 0 then (some (([] : List (S141)), 4)) else ((impl_cueAt.f kj8 l2 a4 a5).bind fun t253 => (if t253 ≥ 0 then (if t253 = a3 then ((some (([] : List (S141)) : List (S141))).bind fun y254 => (if y254.length + l2.length < 5864062014805 then ((some (y254 ++ l2 : List (S141))).bind fun y257 => (if 0 ≤ t252 then (if t252 < (y257.length : Int) then ((some (y257.set (t252 : Int).toNat (⟨(rd_T141 y257 t252).f0, a4, (rd_T141 y257 t252).f2⟩ : S141) : List (S141))).bind fun y260 => (some ((y260.set (t252 : Int).toNat (⟨(rd_T141 y260 t252).f0, (rd_T141 y260 t252).f1, a5⟩ : S141)), 0))) else (none)) else (none))) else (none))) else (some (([] : List (S141)), 5))) else ((some (([] : List (S141)) : List (S141))).bind fun y262 => (if y262.length + l2.length < 5864062014805 then ((some (y262 ++ l2 : List (S141))).bind fun y265 => (if 0 ≤ t252 then (if t252 < (y265.length : Int) then ((some (y265.set (t252 : Int).toNat (⟨(rd_T141 y265 t252).f0, a4, (rd_T141 y265 t252).f2⟩ : S141) : List (S141))).bind fun y268 => (some ((y268.set (t252 : Int).toNat (⟨(rd_T141 y268 t252).f0, (rd_T141 y268 t252).f1, a5⟩ : S141)), 0))) else (none)) else (none))) else (none))))))) = some (r1, r2) := by rw [if_neg (show ¬ (false = true) by decide)] at H; exact H
     clear H
     have H := H1
     clear H1
     replace H := Option.bind_eq_some_iff.mp H
     obtain ⟨t252, A150, H⟩ := H
     replace H : (if t252 < 0 then (some (([] : List (S141)), 4)) else ((impl_cueAt.f kj8 l2 a4 a5).bind fun t253 => (if t253 ≥ 0 then (if t253 = a3 then ((some (([] : List (S141)) : List (S141))).bind fun y254 => (if y254.length + l2.length < 5864062014805 then ((some (y254 ++ l2 : List (S141))).bind fun y257 => (if 0 ≤ t252 then (if t252 < (y257.length : Int) then ((some (y257.set (t252 : Int).toNat (⟨(rd_T141 y257 t252).f0, a4, (rd_T141 y257 t252).f2⟩ : S141) : List (S141))).bind fun y260 => (some ((y260.set (t252 : Int).toNat (⟨(rd_T141 y260 t252).f0, (rd_T141 y260 t252).f1, a5⟩ : S141)), 0))) else (none)) else (none))) else (none))) else (some (([] : List (S141)), 5))) else ((some (([] : List (S141)) : List (S141))).bind fun y262 => (if y262.length + l2.length < 5864062014805 then ((some (y262 ++ l2 : List (S141))).bind fun y265 => (if 0 ≤ t252 then (if t252 < (y265.length : Int) then ((some (y265.set (t252 : Int).toNat (⟨(rd_T141 y265 t252).f0, a4, (rd_T141 y265 t252).f2⟩ : S141) : List (S141))).bind fun y268 => (some ((y268.set (t252 : Int).toNat (⟨(rd_T141 y268 t252).f0, (rd_T141 y268 t252).f1, a5⟩ : S141)), 0))) else (none)) else (none))) else (none)))))) = some (r1, r2) := H
     have A15 := Aside0.mk A150
     clear A150
     by_cases c16 : t252 < 0
     ·rw [if_pos c16] at H
      have c16b0 : decide (t252 < 0) = true := decide_eq_true c16
      clear c16
      simp only [Option.some.injEq, Prod.mk.injEq] at H
      obtain ⟨rfl, rfl⟩ := H
      go_wp2_with (first | ((with_reducible refine gate_callee (f := 137) rfl ?_); refine goesL_ (some 36) rfl rfl Try.func137 (by kernel_rfl) rfl #[.slice A2 l2.length c2, .int .i64 a3] rfl (by (try simp only [List.map_toArray, List.map_cons, List.map_nil]); first | done | rfl | (simp only [List.length_drop, List.length_take]; rfl)) ?_; (with_reducible refine (impl_wireOf.calls kj8 _ _ l2 a3 t252 _ ?side1 ?side2 A15.out).mono ?_); (case side1 => repeat (first | exact (Kd.C_below HR2.out HB.out) | (with_reducible refine Kd.C_alloc ?_ _) | (with_reducible refine Kd.C_drewN ?_ _) | (with_reducible refine Kd.C_drew ?_))); (case side2 => exact HC2.out); rintro e w17 ⟨rfl, hb⟩; refine ⟨_, rfl, ?_⟩; have n0_ := Aside0.mk (below_step (by repeat (first | (with_reducible first | exact HB.out | apply below_alloc | apply pw_below_drewN | apply below_drew1) | exact HB.out)) hb); clear HB; have HB := n0_; clear n0_; (try clear hb); (try clear hb2); (try clear hk); (try clear hi)))
      go_ret2
      exact ⟨_, by first | rfl | (simp [errW_none, errW_some] <;> rfl) | (simp [*, errW_none, errW_some] <;> rfl), by first | exact Kd.R_nil _ _ _ _ _ | exact Kd.N_nil _ _ _ _ _ | exact Kd.V_nil _ _ _ _ _ | exact Kd.Q_nil _ _ _ _ _ | exact Kd.S_nil _ _ _ _ _, by repeat (first | (with_reducible first | exact HB.out | apply below_alloc | apply pw_below_drewN | apply below_drew1) | exact HB.out)⟩
     ·rw [if_neg c16] at H
      have c16b0 : decide (t252 < 0) = false := decide_eq_false c16
      clear c16
      replace H := Option.bind_eq_some_iff.mp H
      obtain ⟨t253, A180, H⟩ := H
      replace H : (if t253 ≥ 0 then (if t253 = a3 then ((some (([] : List (S141)) : List (S141))).bind fun y254 => (if y254.length + l2.length < 5864062014805 then ((some (y254 ++ l2 : List (S141))).bind fun y257 => (if 0 ≤ t252 then (if t252 < (y257.length : Int) then ((some (y257.set (t252 : Int).toNat (⟨(rd_T141 y257 t252).f0, a4, (rd_T141 y257 t252).f2⟩ : S141) : List (S141))).bind fun y260 => (some ((y260.set (t252 : Int).toNat (⟨(rd_T141 y260 t252).f0, (rd_T141 y260 t252).f1, a5⟩ : S141)), 0))) else (none)) else (none))) else (none))) else (some (([] : List (S141)), 5))) else ((some (([] : List (S141)) : List (S141))).bind fun y262 => (if y262.length + l2.length < 5864062014805 then ((some (y262 ++ l2 : List (S141))).bind fun y265 => (if 0 ≤ t252 then (if t252 < (y265.length : Int) then ((some (y265.set (t252 : Int).toNat (⟨(rd_T141 y265 t252).f0, a4, (rd_T141 y265 t252).f2⟩ : S141) : List (S141))).bind fun y268 => (some ((y268.set (t252 : Int).toNat (⟨(rd_T141 y268 t252).f0, (rd_T141 y268 t252).f1, a5⟩ : S141)), 0))) else (none)) else (none))) else (none)))) = some (r1, r2) := H
      have A18 := Aside0.mk A180
      clear A180
      by_cases c19 : t253 ≥ 0
      ·rw [if_pos c19] at H
       have c19b0 : decide (0 ≤ t253) = true := decide_eq_true c19
       clear c19
       by_cases c20 : t253 = a3
       ·rw [if_pos c20] at H
        have c20b0 : (t253 == a3) = true := beq_iff_eq.mpr c20
        have c20b1 : (t253 != a3) = false := bne_eq_false_iff_eq.mpr c20
        clear c20
        obtain ⟨y254, hy254⟩ : ∃ y_ : List (S141), y_ = (([] : List (S141))) := ⟨_, rfl⟩
        replace H : (if y254.length + l2.length < 5864062014805 then ((some (y254 ++ l2 : List (S141))).bind fun y257 => (if 0 ≤ t252 then (if t252 < (y257.length : Int) then ((some (y257.set (t252 : Int).toNat (⟨(rd_T141 y257 t252).f0, a4, (rd_T141 y257 t252).f2⟩ : S141) : List (S141))).bind fun y260 => (some ((y260.set (t252 : Int).toNat (⟨(rd_T141 y260 t252).f0, (rd_T141 y260 t252).f1, a5⟩ : S141)), 0))) else (none)) else (none))) else (none)) = some (r1, r2) := by first | (rw [hy254]; with_reducible exact H) | (have H2_ := (Option.bind_some _ _).symm.trans H; rw [hy254]; with_reducible exact H2_) | (have H2_ := (Option.bind_some _ _).symm.trans H; with_reducible exact H2_) | with_reducible exact H | (rw [hy254]; exact H) | exact H
        have Ny254 := Aside0.mk hy254
        clear hy254
        by_cases c21 : y254.length + l2.length < 5864062014805
        ·rw [if_pos c21] at H
         have LMc21 := Aside0.mk c21
         clear c21
         obtain ⟨y257, hy257⟩ : ∃ y_ : List (S141), y_ = (y254 ++ l2) := ⟨_, rfl⟩
         replace H : (if 0 ≤ t252 then (if t252 < (y257.length : Int) then ((some (y257.set (t252 : Int).toNat (⟨(rd_T141 y257 t252).f0, a4, (rd_T141 y257 t252).f2⟩ : S141) : List (S141))).bind fun y260 => (some ((y260.set (t252 : Int).toNat (⟨(rd_T141 y260 t252).f0, (rd_T141 y260 t252).f1, a5⟩ : S141)), 0))) else (none)) else (none)) = some (r1, r2) := by first | (rw [hy257]; with_reducible exact H) | (have H2_ := (Option.bind_some _ _).symm.trans H; rw [hy257]; with_reducible exact H2_) | (have H2_ := (Option.bind_some _ _).symm.trans H; with_reducible exact H2_) | with_reducible exact H | (rw [hy257]; exact H) | exact H
         have Ny257 := Aside0.mk hy257
         clear hy257
         by_cases c22 : 0 ≤ t252
         ·rw [if_pos c22] at H
          have c22b0 : decide (0 ≤ t252) = true := decide_eq_true c22
          clear c22
          by_cases c23 : t252 < (y257.length : Int)
          ·rw [if_pos c23] at H
           have c23b0 : decide (t252 < (y257.length : Int)) = true := decide_eq_true c23
           clear c23
           obtain ⟨y260, hy260⟩ : ∃ y_ : List (S141), y_ = (y257.set (t252 : Int).toNat (⟨(rd_T141 y257 t252).f0, a4, (rd_T141 y257 t252).f2⟩ : S141)) := ⟨_, rfl⟩
           replace H : (some ((y260.set (t252 : Int).toNat (⟨(rd_T141 y260 t252).f0, (rd_T141 y260 t252).f1, a5⟩ : S141)), 0)) = some (r1, r2) := by first | (rw [hy260]; with_reducible exact H) | (have H2_ := (Option.bind_some _ _).symm.trans H; rw [hy260]; with_reducible exact H2_) | (have H2_ := (Option.bind_some _ _).symm.trans H; with_reducible exact H2_) | with_reducible exact H | (rw [hy260]; exact H) | exact H
           have Ny260 := Aside0.mk hy260
           clear hy260
           obtain ⟨y261, hy261⟩ : ∃ y_ : List (S141), y_ = (y260.set (t252 : Int).toNat (⟨(rd_T141 y260 t252).f0, (rd_T141 y260 t252).f1, a5⟩ : S141)) := ⟨_, rfl⟩
           replace H : (some (y261, 0)) = some (r1, r2) := by first | (rw [hy261]; with_reducible exact H) | (have H2_ := (Option.bind_some _ _).symm.trans H; rw [hy261]; with_reducible exact H2_) | (have H2_ := (Option.bind_some _ _).symm.trans H; with_reducible exact H2_) | with_reducible exact H | (rw [hy261]; exact H) | exact H
           have Ny261 := Aside0.mk hy261
           clear hy261
           simp only [Option.some.injEq, Prod.mk.injEq] at H
           obtain ⟨rfl, rfl⟩ := H
           go_wp2_with (first | ((with_reducible refine gate_callee (f := 137) rfl ?_); refine goesL_ (some 36) rfl rfl Try.func137 (by kernel_rfl) rfl #[.slice A2 l2.length c2, .int .i64 a3] rfl (by (try simp only [List.map_toArray, List.map_cons, List.map_nil]); first | done | rfl | (simp only [List.length_drop, List.length_take]; rfl)) ?_; (with_reducible refine (impl_wireOf.calls kj8 _ _ l2 a3 t252 _ ?side1 ?side2 A15.out).mono ?_); (case side1 => repeat (first | exact (Kd.C_below HR2.out HB.out) | (with_reducible refine Kd.C_alloc ?_ _) | (with_reducible refine Kd.C_drewN ?_ _) | (with_reducible refine Kd.C_drew ?_))); (case side2 => exact HC2.out); rintro e w26 ⟨rfl, hb⟩; refine ⟨_, rfl, ?_⟩; have n0_ := Aside0.mk (below_step (by repeat (first | (with_reducible first | exact HB.out | apply below_alloc | apply pw_below_drewN | apply below_drew1) | exact HB.out)) hb); clear HB; have HB := n0_; clear n0_; (try clear hb); (try clear hb2); (try clear hk); (try clear hi)) | ((with_reducible refine gate_callee (f := 159) rfl ?_); refine goesL_ (some 42) rfl rfl Try.func159 (by kernel_rfl) rfl #[.slice A2 l2.length c2, .int .i64 a4, .int .i64 a5] rfl (by (try simp only [List.map_toArray, List.map_cons, List.map_nil]); first | done | rfl | (simp only [List.length_drop, List.length_take]; rfl)) ?_; (with_reducible refine (impl_cueAt.calls kj8 _ _ l2 a4 a5 t253 _ ?side1 ?side2 A18.out).mono ?_); (case side1 => repeat (first | exact (Kd.C_below HR2.out HB.out) | (with_reducible refine Kd.C_alloc ?_ _) | (with_reducible refine Kd.C_drewN ?_ _) | (with_reducible refine Kd.C_drew ?_))); (case side2 => exact HC2.out); rintro e w27 ⟨rfl, hb⟩; refine ⟨_, rfl, ?_⟩; have n0_ := Aside0.mk (below_step (by repeat (first | (with_reducible first | exact HB.out | apply below_alloc | apply pw_below_drewN | apply below_drew1) | exact HB.out)) hb); clear HB; have HB := n0_; clear n0_; (try clear hb); (try clear hb2); (try clear hk); (try clear hi)) | ((with_reducible refine gate_dst (N := 50) rfl ?_); refine Kd.R_lit k141 _ 141 ?hg (N := 50) ?hd (xs := ([] : List (S141))) (inner := []) (ok := fun _ => True) (okp := fun _ => True) ?hr ?hp (fun _ hk => hk) trivial (Below.refl _ _) (Nat.le_refl _) (by simp) ?_; (case hd => rfl); (case hg => rfl); (case hr => first | (go_simp; done) | (go_simp; rfl)); (case hp => exact (Reps.none _ _)); intro v255 w28 ho29 hb hg_ hnew_; clear hg_ hnew_; (first | rw [← Ny254.out] at ho29 | (simp only [Int.reduceToNat] at ho29; rw [← Ny254.out] at ho29)); have n0_ := Aside0.mk (Kd.R_lower ho29 (below_size (by repeat (first | (with_reducible first | exact HB.out | apply below_alloc | apply pw_below_drewN | apply below_drew1) | exact HB.out)))); have n1_ := Aside0.mk (below_step (by repeat (first | (with_reducible first | exact HB.out | apply below_alloc | apply pw_below_drewN | apply below_drew1) | exact HB.out)) hb); clear HB; have HO256 := n0_; have HB := n1_; clear n0_ n1_; clear hb ho29) | ((with_reducible refine gate_builtin (b := .append) (xs := #[.tmp 50, .tmp 51]) rfl ?_); at_builtin; refine Kd.R_append_rows k141 (w0 := w) w.heap.size rfl (.tmp 50) (.tmp 51) 62 141 (.agg #[(.int .i64 0), (.int .i64 0), (.int .i64 0)]) 24 rfl Try.underlying62 info141 rfl (by decide) (by omega) v255 y254 l2 _ _ _ (fun _ => True) (fun _ => False) rfl rfl ?aO ?aR (fun _ _ h => h) (fun _ h => h.elim) ?aF ?aB ?aS ?aL ?_; (case aR => repeat (first | exact (Kd.C_below HR2.out HB.out) | (with_reducible refine Kd.C_alloc ?_ _) | (with_reducible refine Kd.C_drewN ?_ _) | (with_reducible refine Kd.C_drew ?_))); (case aB => exact (by repeat (first | (with_reducible first | exact HB.out | apply below_alloc | apply pw_below_drewN | apply below_drew1) | exact HB.out))); (case aF => exact (fun _ _ => trivial)); (case aO => exact (by (with_reducible repeat (first | apply Kd.R_alloc | apply Kd.R_drewN | apply Kd.R_drew)); exact HO256.out)); (case aS => exact (below_size (by repeat (first | (with_reducible first | exact HB.out | apply below_alloc | apply pw_below_drewN | apply below_drew1) | exact HB.out)))); (case aL => have := LMc21.out; omega); intro v258 w30 ho hb hg hat; rw [← Ny257.out] at ho; have n0_ := Aside0.mk (hb); have n1_ := Aside0.mk (ho); clear HB; clear HO256; have HB := n0_; have HO259 := n1_; clear n0_ n1_; clear ho hb hg hat; have p24 : 0 ≤ (t252 : Int) := of_decide_eq_true (by first | (with_reducible assumption) | assumption); have q24 : (t252 : Int) < ((y257.length : Int) : Int) := of_decide_eq_true (by first | (with_reducible assumption) | assumption); obtain ⟨go24, co24, eo24, gb24, gl24, cl24, HG24⟩ := Kd.R_form HO259.out (by omega); (first | cases eo24 | (injection eo24 with ea_ en_ ec_; (first | subst ea_ | (injection ea_ with ea_; subst ea_)); subst ec_; clear en_)); have GB24 := Aside0.mk gb24; have GG24 := Aside0.mk HG24; clear gb24 gl24 HG24; obtain ⟨ce24, hcl24, hM24, hcc24, hfr24⟩ := Kd.R_elem HO259.out z141 (t252 : Int) p24 q24; obtain rfl := k141_openM hM24; have hx24_0 : w30.cell? ⟨go24, (t252 : Int).toNat * 3, none⟩ = some (.int .i64 ((rd_T141 y257 t252).f0)) := hcc24 0 _ rfl; have hx24_1 : w30.cell? ⟨go24, (t252 : Int).toNat * 3 + 1, none⟩ = some (.int .i64 ((rd_T141 y257 t252).f1)) := hcc24 1 _ rfl; have hx24_2 : w30.cell? ⟨go24, (t252 : Int).toNat * 3 + 2, none⟩ = some (.int .i64 ((rd_T141 y257 t252).f2)) := hcc24 2 _ rfl; have hf24_0 : w30.frozen? ⟨go24, (t252 : Int).toNat * 3, none⟩ = false := hfr24 0; have hf24_1 : w30.frozen? ⟨go24, (t252 : Int).toNat * 3 + 1, none⟩ = false := hfr24 1; have hf24_2 : w30.frozen? ⟨go24, (t252 : Int).toNat * 3 + 2, none⟩ = false := hfr24 2; clear hcl24 hcc24 hfr24 hM24; replace p24 := eq_true p24; replace q24 := eq_true q24; have HX31 := Aside0.mk (show Kd.R k141 141 w30 w.heap.size (fun _ => True) (.slice (some ⟨go24, 0, none⟩) y257.length co24) y257 from (by (with_reducible repeat (first | apply Kd.R_alloc | apply Kd.R_drewN | apply Kd.R_drew)); exact HO259.out)); obtain ⟨ce31, hcl31, hM31, hcc31, hfr31⟩ := Kd.R_elem HX31.out z141 (t252 : Int) (of_decide_eq_true (by first | (with_reducible assumption) | assumption)) (by have h_ : (t252 : Int) < ((y257.length : Int) : Int) := of_decide_eq_true (by first | (with_reducible assumption) | assumption); first | exact h_ | (have e_ := (Kd.R_reads' HO259.out).1; omega) | simpa using h_); obtain rfl := k141_openM hM31; have HP31 := Kd.R_seg HX31.out (t252 : Int) (of_decide_eq_true (by first | (with_reducible assumption) | assumption)) (by have h_ : (t252 : Int) < ((y257.length : Int) : Int) := of_decide_eq_true (by first | (with_reducible assumption) | assumption); first | exact h_ | (have e_ := (Kd.R_reads' HO259.out).1; omega) | simpa using h_) (seg := [.int .i64 a4]) (j := 1) hcl31 hcc31 (show 2 ≤ 3 from by decide) (x' := (⟨(rd_T141 y257 t252).f0, a4, (rd_T141 y257 t252).f2⟩ : S141)) (k141_mkM _ _ _ (⟨(rd_T141 y257 t252).f0, a4, (rd_T141 y257 t252).f2⟩ : S141) ) (fun _ hk => hk); have hx31_1 := hcc31 1 _ rfl; (try simp only [show (k141).sz = 3 from rfl, Nat.mul_one, Nat.add_zero] at hx31_1); have hf31_1 := hfr31 1; (try simp only [show (k141).sz = 3 from rfl, Nat.mul_one, Nat.add_zero] at hf31_1); clear hcl31 hcc31 hfr31 hM31) | ((with_reducible refine gate_store (t := 2) (p := 60) rfl ?_); refine store_event (t := 2) (p := 60) (v := ?vo_w32) (w1 := (w30.setCell ⟨go24, (t252 : Int).toNat * 3 + 1, none⟩ (.int .i64 a4))) ?hg ?ho ?hn ?hr ?_; (case ho => rfl); (case hg => rfl); (case hn => rfl); (case hr => first | (go_simp; done) | (go_simp; rfl)); intro w32 hw; have hg : w30.grownBy w32 (some go24) := (by rw [hw]; exact HP31.2); have hp_ : Kd.R k141 141 w32 w.heap.size (fun _ => True) (.slice (some ⟨go24, 0, none⟩) y257.length co24) y260 := (by rw [hw, Ny260.out]; exact HP31.1); clear HP31; have n0_ := Aside0.mk (hp_); have n1_ := Aside0.mk ((by rw [hw]; exact below_set (HB.out) GB24.out : Below w.heap.size w w32)); clear HO259; clear HB; have HO259 := n0_; have HB := n1_; clear n0_ n1_; clear hg hw hp_; have p25 : 0 ≤ (t252 : Int) := of_decide_eq_true (by first | (with_reducible assumption) | assumption); have q25 : (t252 : Int) < ((y257.length : Int) : Int) := of_decide_eq_true (by first | (with_reducible assumption) | assumption); obtain ⟨ce25, hcl25, hM25, hcc25, hfr25⟩ := Kd.R_elem HO259.out z141 (t252 : Int) p25 q25; obtain rfl := k141_openM hM25; have hx25_0 : w32.cell? ⟨go24, (t252 : Int).toNat * 3, none⟩ = some (.int .i64 ((rd_T141 y260 t252).f0)) := hcc25 0 _ rfl; have hx25_1 : w32.cell? ⟨go24, (t252 : Int).toNat * 3 + 1, none⟩ = some (.int .i64 ((rd_T141 y260 t252).f1)) := hcc25 1 _ rfl; have hx25_2 : w32.cell? ⟨go24, (t252 : Int).toNat * 3 + 2, none⟩ = some (.int .i64 ((rd_T141 y260 t252).f2)) := hcc25 2 _ rfl; have hf25_0 : w32.frozen? ⟨go24, (t252 : Int).toNat * 3, none⟩ = false := hfr25 0; have hf25_1 : w32.frozen? ⟨go24, (t252 : Int).toNat * 3 + 1, none⟩ = false := hfr25 1; have hf25_2 : w32.frozen? ⟨go24, (t252 : Int).toNat * 3 + 2, none⟩ = false := hfr25 2; clear hcl25 hcc25 hfr25 hM25; replace p25 := eq_true p25; replace q25 := eq_true q25; have HX33 := Aside0.mk (show Kd.R k141 141 w32 w.heap.size (fun _ => True) (.slice (some ⟨go24, 0, none⟩) y257.length co24) y260 from (by (with_reducible repeat (first | apply Kd.R_alloc | apply Kd.R_drewN | apply Kd.R_drew)); exact HO259.out)); obtain ⟨ce33, hcl33, hM33, hcc33, hfr33⟩ := Kd.R_elem HX33.out z141 (t252 : Int) (of_decide_eq_true (by first | (with_reducible assumption) | assumption)) (by have h_ : (t252 : Int) < ((y257.length : Int) : Int) := of_decide_eq_true (by first | (with_reducible assumption) | assumption); first | exact h_ | (have e_ := (Kd.R_reads' HO259.out).1; omega) | simpa using h_); obtain rfl := k141_openM hM33; have HP33 := Kd.R_seg HX33.out (t252 : Int) (of_decide_eq_true (by first | (with_reducible assumption) | assumption)) (by have h_ : (t252 : Int) < ((y257.length : Int) : Int) := of_decide_eq_true (by first | (with_reducible assumption) | assumption); first | exact h_ | (have e_ := (Kd.R_reads' HO259.out).1; omega) | simpa using h_) (seg := [.int .i64 a5]) (j := 2) hcl33 hcc33 (show 3 ≤ 3 from by decide) (x' := (⟨(rd_T141 y260 t252).f0, (rd_T141 y260 t252).f1, a5⟩ : S141)) (k141_mkM _ _ _ (⟨(rd_T141 y260 t252).f0, (rd_T141 y260 t252).f1, a5⟩ : S141) ) (fun _ hk => hk); have hx33_2 := hcc33 2 _ rfl; (try simp only [show (k141).sz = 3 from rfl, Nat.mul_one, Nat.add_zero] at hx33_2); have hf33_2 := hfr33 2; (try simp only [show (k141).sz = 3 from rfl, Nat.mul_one, Nat.add_zero] at hf33_2); clear hcl33 hcc33 hfr33 hM33) | ((with_reducible refine gate_store (t := 2) (p := 62) rfl ?_); refine store_event (t := 2) (p := 62) (v := ?vo_w34) (w1 := (w32.setCell ⟨go24, (t252 : Int).toNat * 3 + 2, none⟩ (.int .i64 a5))) ?hg ?ho ?hn ?hr ?_; (case ho => rfl); (case hg => rfl); (case hn => rfl); (case hr => first | (go_simp; done) | (go_simp; rfl)); intro w34 hw; have hg : w32.grownBy w34 (some go24) := (by rw [hw]; exact HP33.2); have hp_ : Kd.R k141 141 w34 w.heap.size (fun _ => True) (.slice (some ⟨go24, 0, none⟩) y257.length co24) y261 := (by rw [hw, Ny261.out]; exact HP33.1); clear HP33; have n0_ := Aside0.mk (hp_); have n1_ := Aside0.mk ((by rw [hw]; exact below_set (HB.out) GB24.out : Below w.heap.size w w34)); clear HO259; clear HB; have HO259 := n0_; have HB := n1_; clear n0_ n1_; clear hg hw hp_))
           go_ret2
           exact ⟨_, by first | rfl | (simp [errW_none, errW_some] <;> rfl) | (simp [*, errW_none, errW_some] <;> rfl), by (with_reducible repeat (first | apply Kd.R_alloc | apply Kd.R_drewN | apply Kd.R_drew)); exact HO259.out, by repeat (first | (with_reducible first | exact HB.out | apply below_alloc | apply pw_below_drewN | apply below_drew1) | exact HB.out)⟩
          ·rw [if_neg c23] at H
           exact absurd H (by simp)
         ·rw [if_neg c22] at H
          exact absurd H (by simp)
        ·rw [if_neg c21] at H
         exact absurd H (by simp)
       ·rw [if_neg c20] at H
        have c20b0 : (t253 == a3) = false := beq_eq_false_iff_ne.mpr c20
        have c20b1 : (t253 != a3) = true := bne_iff_ne.mpr c20
        simp only [Option.some.injEq, Prod.mk.injEq] at H
        obtain ⟨rfl, rfl⟩ := H
        go_wp2_with (first | ((with_reducible refine gate_callee (f := 137) rfl ?_); refine goesL_ (some 36) rfl rfl Try.func137 (by kernel_rfl) rfl #[.slice A2 l2.length c2, .int .i64 a3] rfl (by (try simp only [List.map_toArray, List.map_cons, List.map_nil]); first | done | rfl | (simp only [List.length_drop, List.length_take]; rfl)) ?_; (with_reducible refine (impl_wireOf.calls kj8 _ _ l2 a3 t252 _ ?side1 ?side2 A15.out).mono ?_); (case side1 => repeat (first | exact (Kd.C_below HR2.out HB.out) | (with_reducible refine Kd.C_alloc ?_ _) | (with_reducible refine Kd.C_drewN ?_ _) | (with_reducible refine Kd.C_drew ?_))); (case side2 => exact HC2.out); rintro e w35 ⟨rfl, hb⟩; refine ⟨_, rfl, ?_⟩; have n0_ := Aside0.mk (below_step (by repeat (first | (with_reducible first | exact HB.out | apply below_alloc | apply pw_below_drewN | apply below_drew1) | exact HB.out)) hb); clear HB; have HB := n0_; clear n0_; (try clear hb); (try clear hb2); (try clear hk); (try clear hi)) | ((with_reducible refine gate_callee (f := 159) rfl ?_); refine goesL_ (some 42) rfl rfl Try.func159 (by kernel_rfl) rfl #[.slice A2 l2.length c2, .int .i64 a4, .int .i64 a5] rfl (by (try simp only [List.map_toArray, List.map_cons, List.map_nil]); first | done | rfl | (simp only [List.length_drop, List.length_take]; rfl)) ?_; (with_reducible refine (impl_cueAt.calls kj8 _ _ l2 a4 a5 t253 _ ?side1 ?side2 A18.out).mono ?_); (case side1 => repeat (first | exact (Kd.C_below HR2.out HB.out) | (with_reducible refine Kd.C_alloc ?_ _) | (with_reducible refine Kd.C_drewN ?_ _) | (with_reducible refine Kd.C_drew ?_))); (case side2 => exact HC2.out); rintro e w36 ⟨rfl, hb⟩; refine ⟨_, rfl, ?_⟩; have n0_ := Aside0.mk (below_step (by repeat (first | (with_reducible first | exact HB.out | apply below_alloc | apply pw_below_drewN | apply below_drew1) | exact HB.out)) hb); clear HB; have HB := n0_; clear n0_; (try clear hb); (try clear hb2); (try clear hk); (try clear hi)))
        go_ret2
        exact ⟨_, by first | rfl | (simp [errW_none, errW_some] <;> rfl) | (simp [*, errW_none, errW_some] <;> rfl), by first | exact Kd.R_nil _ _ _ _ _ | exact Kd.N_nil _ _ _ _ _ | exact Kd.V_nil _ _ _ _ _ | exact Kd.Q_nil _ _ _ _ _ | exact Kd.S_nil _ _ _ _ _, by repeat (first | (with_reducible first | exact HB.out | apply below_alloc | apply pw_below_drewN | apply below_drew1) | exact HB.out)⟩
      ·rw [if_neg c19] at H
       have c19b0 : decide (0 ≤ t253) = false := decide_eq_false c19
       clear c19
       obtain ⟨y262, hy262⟩ : ∃ y_ : List (S141), y_ = (([] : List (S141))) := ⟨_, rfl⟩
       replace H : (if y262.length + l2.length < 5864062014805 then ((some (y262 ++ l2 : List (S141))).bind fun y265 => (if 0 ≤ t252 then (if t252 < (y265.length : Int) then ((some (y265.set (t252 : Int).toNat (⟨(rd_T141 y265 t252).f0, a4, (rd_T141 y265 t252).f2⟩ : S141) : List (S141))).bind fun y268 => (some ((y268.set (t252 : Int).toNat (⟨(rd_T141 y268 t252).f0, (rd_T141 y268 t252).f1, a5⟩ : S141)), 0))) else (none)) else (none))) else (none)) = some (r1, r2) := by first | (rw [hy262]; with_reducible exact H) | (have H2_ := (Option.bind_some _ _).symm.trans H; rw [hy262]; with_reducible exact H2_) | (have H2_ := (Option.bind_some _ _).symm.trans H; with_reducible exact H2_) | with_reducible exact H | (rw [hy262]; exact H) | exact H
       have Ny262 := Aside0.mk hy262
       clear hy262
       by_cases c37 : y262.length + l2.length < 5864062014805
       ·rw [if_pos c37] at H
        have LMc37 := Aside0.mk c37
        clear c37
        obtain ⟨y265, hy265⟩ : ∃ y_ : List (S141), y_ = (y262 ++ l2) := ⟨_, rfl⟩
        replace H : (if 0 ≤ t252 then (if t252 < (y265.length : Int) then ((some (y265.set (t252 : Int).toNat (⟨(rd_T141 y265 t252).f0, a4, (rd_T141 y265 t252).f2⟩ : S141) : List (S141))).bind fun y268 => (some ((y268.set (t252 : Int).toNat (⟨(rd_T141 y268 t252).f0, (rd_T141 y268 t252).f1, a5⟩ : S141)), 0))) else (none)) else (none)) = some (r1, r2) := by first | (rw [hy265]; with_reducible exact H) | (have H2_ := (Option.bind_some _ _).symm.trans H; rw [hy265]; with_reducible exact H2_) | (have H2_ := (Option.bind_some _ _).symm.trans H; with_reducible exact H2_) | with_reducible exact H | (rw [hy265]; exact H) | exact H
        have Ny265 := Aside0.mk hy265
        clear hy265
        by_cases c38 : 0 ≤ t252
        ·rw [if_pos c38] at H
         have c38b0 : decide (0 ≤ t252) = true := decide_eq_true c38
         clear c38
         by_cases c39 : t252 < (y265.length : Int)
         ·rw [if_pos c39] at H
          have c39b0 : decide (t252 < (y265.length : Int)) = true := decide_eq_true c39
          clear c39
          obtain ⟨y268, hy268⟩ : ∃ y_ : List (S141), y_ = (y265.set (t252 : Int).toNat (⟨(rd_T141 y265 t252).f0, a4, (rd_T141 y265 t252).f2⟩ : S141)) := ⟨_, rfl⟩
          replace H : (some ((y268.set (t252 : Int).toNat (⟨(rd_T141 y268 t252).f0, (rd_T141 y268 t252).f1, a5⟩ : S141)), 0)) = some (r1, r2) := by first | (rw [hy268]; with_reducible exact H) | (have H2_ := (Option.bind_some _ _).symm.trans H; rw [hy268]; with_reducible exact H2_) | (have H2_ := (Option.bind_some _ _).symm.trans H; with_reducible exact H2_) | with_reducible exact H | (rw [hy268]; exact H) | exact H
          have Ny268 := Aside0.mk hy268
          clear hy268
          obtain ⟨y269, hy269⟩ : ∃ y_ : List (S141), y_ = (y268.set (t252 : Int).toNat (⟨(rd_T141 y268 t252).f0, (rd_T141 y268 t252).f1, a5⟩ : S141)) := ⟨_, rfl⟩
          replace H : (some (y269, 0)) = some (r1, r2) := by first | (rw [hy269]; with_reducible exact H) | (have H2_ := (Option.bind_some _ _).symm.trans H; rw [hy269]; with_reducible exact H2_) | (have H2_ := (Option.bind_some _ _).symm.trans H; with_reducible exact H2_) | with_reducible exact H | (rw [hy269]; exact H) | exact H
          have Ny269 := Aside0.mk hy269
          clear hy269
          simp only [Option.some.injEq, Prod.mk.injEq] at H
          obtain ⟨rfl, rfl⟩ := H
          go_wp2_with (first | ((with_reducible refine gate_callee (f := 137) rfl ?_); refine goesL_ (some 36) rfl rfl Try.func137 (by kernel_rfl) rfl #[.slice A2 l2.length c2, .int .i64 a3] rfl (by (try simp only [List.map_toArray, List.map_cons, List.map_nil]); first | done | rfl | (simp only [List.length_drop, List.length_take]; rfl)) ?_; (with_reducible refine (impl_wireOf.calls kj8 _ _ l2 a3 t252 _ ?side1 ?side2 A15.out).mono ?_); (case side1 => repeat (first | exact (Kd.C_below HR2.out HB.out) | (with_reducible refine Kd.C_alloc ?_ _) | (with_reducible refine Kd.C_drewN ?_ _) | (with_reducible refine Kd.C_drew ?_))); (case side2 => exact HC2.out); rintro e w42 ⟨rfl, hb⟩; refine ⟨_, rfl, ?_⟩; have n0_ := Aside0.mk (below_step (by repeat (first | (with_reducible first | exact HB.out | apply below_alloc | apply pw_below_drewN | apply below_drew1) | exact HB.out)) hb); clear HB; have HB := n0_; clear n0_; (try clear hb); (try clear hb2); (try clear hk); (try clear hi)) | ((with_reducible refine gate_callee (f := 159) rfl ?_); refine goesL_ (some 42) rfl rfl Try.func159 (by kernel_rfl) rfl #[.slice A2 l2.length c2, .int .i64 a4, .int .i64 a5] rfl (by (try simp only [List.map_toArray, List.map_cons, List.map_nil]); first | done | rfl | (simp only [List.length_drop, List.length_take]; rfl)) ?_; (with_reducible refine (impl_cueAt.calls kj8 _ _ l2 a4 a5 t253 _ ?side1 ?side2 A18.out).mono ?_); (case side1 => repeat (first | exact (Kd.C_below HR2.out HB.out) | (with_reducible refine Kd.C_alloc ?_ _) | (with_reducible refine Kd.C_drewN ?_ _) | (with_reducible refine Kd.C_drew ?_))); (case side2 => exact HC2.out); rintro e w43 ⟨rfl, hb⟩; refine ⟨_, rfl, ?_⟩; have n0_ := Aside0.mk (below_step (by repeat (first | (with_reducible first | exact HB.out | apply below_alloc | apply pw_below_drewN | apply below_drew1) | exact HB.out)) hb); clear HB; have HB := n0_; clear n0_; (try clear hb); (try clear hb2); (try clear hk); (try clear hi)) | ((with_reducible refine gate_dst (N := 50) rfl ?_); refine Kd.R_lit k141 _ 141 ?hg (N := 50) ?hd (xs := ([] : List (S141))) (inner := []) (ok := fun _ => True) (okp := fun _ => True) ?hr ?hp (fun _ hk => hk) trivial (Below.refl _ _) (Nat.le_refl _) (by simp) ?_; (case hd => rfl); (case hg => rfl); (case hr => first | (go_simp; done) | (go_simp; rfl)); (case hp => exact (Reps.none _ _)); intro v263 w44 ho45 hb hg_ hnew_; clear hg_ hnew_; (first | rw [← Ny262.out] at ho45 | (simp only [Int.reduceToNat] at ho45; rw [← Ny262.out] at ho45)); have n0_ := Aside0.mk (Kd.R_lower ho45 (below_size (by repeat (first | (with_reducible first | exact HB.out | apply below_alloc | apply pw_below_drewN | apply below_drew1) | exact HB.out)))); have n1_ := Aside0.mk (below_step (by repeat (first | (with_reducible first | exact HB.out | apply below_alloc | apply pw_below_drewN | apply below_drew1) | exact HB.out)) hb); clear HB; have HO264 := n0_; have HB := n1_; clear n0_ n1_; clear hb ho45) | ((with_reducible refine gate_builtin (b := .append) (xs := #[.tmp 50, .tmp 51]) rfl ?_); at_builtin; refine Kd.R_append_rows k141 (w0 := w) w.heap.size rfl (.tmp 50) (.tmp 51) 62 141 (.agg #[(.int .i64 0), (.int .i64 0), (.int .i64 0)]) 24 rfl Try.underlying62 info141 rfl (by decide) (by omega) v263 y262 l2 _ _ _ (fun _ => True) (fun _ => False) rfl rfl ?aO ?aR (fun _ _ h => h) (fun _ h => h.elim) ?aF ?aB ?aS ?aL ?_; (case aR => repeat (first | exact (Kd.C_below HR2.out HB.out) | (with_reducible refine Kd.C_alloc ?_ _) | (with_reducible refine Kd.C_drewN ?_ _) | (with_reducible refine Kd.C_drew ?_))); (case aB => exact (by repeat (first | (with_reducible first | exact HB.out | apply below_alloc | apply pw_below_drewN | apply below_drew1) | exact HB.out))); (case aF => exact (fun _ _ => trivial)); (case aO => exact (by (with_reducible repeat (first | apply Kd.R_alloc | apply Kd.R_drewN | apply Kd.R_drew)); exact HO264.out)); (case aS => exact (below_size (by repeat (first | (with_reducible first | exact HB.out | apply below_alloc | apply pw_below_drewN | apply below_drew1) | exact HB.out)))); (case aL => have := LMc37.out; omega); intro v266 w46 ho hb hg hat; rw [← Ny265.out] at ho; have n0_ := Aside0.mk (hb); have n1_ := Aside0.mk (ho); clear HB; clear HO264; have HB := n0_; have HO267 := n1_; clear n0_ n1_; clear ho hb hg hat; have p40 : 0 ≤ (t252 : Int) := of_decide_eq_true (by first | (with_reducible assumption) | assumption); have q40 : (t252 : Int) < ((y265.length : Int) : Int) := of_decide_eq_true (by first | (with_reducible assumption) | assumption); obtain ⟨go40, co40, eo40, gb40, gl40, cl40, HG40⟩ := Kd.R_form HO267.out (by omega); (first | cases eo40 | (injection eo40 with ea_ en_ ec_; (first | subst ea_ | (injection ea_ with ea_; subst ea_)); subst ec_; clear en_)); have GB40 := Aside0.mk gb40; have GG40 := Aside0.mk HG40; clear gb40 gl40 HG40; obtain ⟨ce40, hcl40, hM40, hcc40, hfr40⟩ := Kd.R_elem HO267.out z141 (t252 : Int) p40 q40; obtain rfl := k141_openM hM40; have hx40_0 : w46.cell? ⟨go40, (t252 : Int).toNat * 3, none⟩ = some (.int .i64 ((rd_T141 y265 t252).f0)) := hcc40 0 _ rfl; have hx40_1 : w46.cell? ⟨go40, (t252 : Int).toNat * 3 + 1, none⟩ = some (.int .i64 ((rd_T141 y265 t252).f1)) := hcc40 1 _ rfl; have hx40_2 : w46.cell? ⟨go40, (t252 : Int).toNat * 3 + 2, none⟩ = some (.int .i64 ((rd_T141 y265 t252).f2)) := hcc40 2 _ rfl; have hf40_0 : w46.frozen? ⟨go40, (t252 : Int).toNat * 3, none⟩ = false := hfr40 0; have hf40_1 : w46.frozen? ⟨go40, (t252 : Int).toNat * 3 + 1, none⟩ = false := hfr40 1; have hf40_2 : w46.frozen? ⟨go40, (t252 : Int).toNat * 3 + 2, none⟩ = false := hfr40 2; clear hcl40 hcc40 hfr40 hM40; replace p40 := eq_true p40; replace q40 := eq_true q40; have HX47 := Aside0.mk (show Kd.R k141 141 w46 w.heap.size (fun _ => True) (.slice (some ⟨go40, 0, none⟩) y265.length co40) y265 from (by (with_reducible repeat (first | apply Kd.R_alloc | apply Kd.R_drewN | apply Kd.R_drew)); exact HO267.out)); obtain ⟨ce47, hcl47, hM47, hcc47, hfr47⟩ := Kd.R_elem HX47.out z141 (t252 : Int) (of_decide_eq_true (by first | (with_reducible assumption) | assumption)) (by have h_ : (t252 : Int) < ((y265.length : Int) : Int) := of_decide_eq_true (by first | (with_reducible assumption) | assumption); first | exact h_ | (have e_ := (Kd.R_reads' HO267.out).1; omega) | simpa using h_); obtain rfl := k141_openM hM47; have HP47 := Kd.R_seg HX47.out (t252 : Int) (of_decide_eq_true (by first | (with_reducible assumption) | assumption)) (by have h_ : (t252 : Int) < ((y265.length : Int) : Int) := of_decide_eq_true (by first | (with_reducible assumption) | assumption); first | exact h_ | (have e_ := (Kd.R_reads' HO267.out).1; omega) | simpa using h_) (seg := [.int .i64 a4]) (j := 1) hcl47 hcc47 (show 2 ≤ 3 from by decide) (x' := (⟨(rd_T141 y265 t252).f0, a4, (rd_T141 y265 t252).f2⟩ : S141)) (k141_mkM _ _ _ (⟨(rd_T141 y265 t252).f0, a4, (rd_T141 y265 t252).f2⟩ : S141) ) (fun _ hk => hk); have hx47_1 := hcc47 1 _ rfl; (try simp only [show (k141).sz = 3 from rfl, Nat.mul_one, Nat.add_zero] at hx47_1); have hf47_1 := hfr47 1; (try simp only [show (k141).sz = 3 from rfl, Nat.mul_one, Nat.add_zero] at hf47_1); clear hcl47 hcc47 hfr47 hM47) | ((with_reducible refine gate_store (t := 2) (p := 60) rfl ?_); refine store_event (t := 2) (p := 60) (v := ?vo_w48) (w1 := (w46.setCell ⟨go40, (t252 : Int).toNat * 3 + 1, none⟩ (.int .i64 a4))) ?hg ?ho ?hn ?hr ?_; (case ho => rfl); (case hg => rfl); (case hn => rfl); (case hr => first | (go_simp; done) | (go_simp; rfl)); intro w48 hw; have hg : w46.grownBy w48 (some go40) := (by rw [hw]; exact HP47.2); have hp_ : Kd.R k141 141 w48 w.heap.size (fun _ => True) (.slice (some ⟨go40, 0, none⟩) y265.length co40) y268 := (by rw [hw, Ny268.out]; exact HP47.1); clear HP47; have n0_ := Aside0.mk (hp_); have n1_ := Aside0.mk ((by rw [hw]; exact below_set (HB.out) GB40.out : Below w.heap.size w w48)); clear HO267; clear HB; have HO267 := n0_; have HB := n1_; clear n0_ n1_; clear hg hw hp_; have p41 : 0 ≤ (t252 : Int) := of_decide_eq_true (by first | (with_reducible assumption) | assumption); have q41 : (t252 : Int) < ((y265.length : Int) : Int) := of_decide_eq_true (by first | (with_reducible assumption) | assumption); obtain ⟨ce41, hcl41, hM41, hcc41, hfr41⟩ := Kd.R_elem HO267.out z141 (t252 : Int) p41 q41; obtain rfl := k141_openM hM41; have hx41_0 : w48.cell? ⟨go40, (t252 : Int).toNat * 3, none⟩ = some (.int .i64 ((rd_T141 y268 t252).f0)) := hcc41 0 _ rfl; have hx41_1 : w48.cell? ⟨go40, (t252 : Int).toNat * 3 + 1, none⟩ = some (.int .i64 ((rd_T141 y268 t252).f1)) := hcc41 1 _ rfl; have hx41_2 : w48.cell? ⟨go40, (t252 : Int).toNat * 3 + 2, none⟩ = some (.int .i64 ((rd_T141 y268 t252).f2)) := hcc41 2 _ rfl; have hf41_0 : w48.frozen? ⟨go40, (t252 : Int).toNat * 3, none⟩ = false := hfr41 0; have hf41_1 : w48.frozen? ⟨go40, (t252 : Int).toNat * 3 + 1, none⟩ = false := hfr41 1; have hf41_2 : w48.frozen? ⟨go40, (t252 : Int).toNat * 3 + 2, none⟩ = false := hfr41 2; clear hcl41 hcc41 hfr41 hM41; replace p41 := eq_true p41; replace q41 := eq_true q41; have HX49 := Aside0.mk (show Kd.R k141 141 w48 w.heap.size (fun _ => True) (.slice (some ⟨go40, 0, none⟩) y265.length co40) y268 from (by (with_reducible repeat (first | apply Kd.R_alloc | apply Kd.R_drewN | apply Kd.R_drew)); exact HO267.out)); obtain ⟨ce49, hcl49, hM49, hcc49, hfr49⟩ := Kd.R_elem HX49.out z141 (t252 : Int) (of_decide_eq_true (by first | (with_reducible assumption) | assumption)) (by have h_ : (t252 : Int) < ((y265.length : Int) : Int) := of_decide_eq_true (by first | (with_reducible assumption) | assumption); first | exact h_ | (have e_ := (Kd.R_reads' HO267.out).1; omega) | simpa using h_); obtain rfl := k141_openM hM49; have HP49 := Kd.R_seg HX49.out (t252 : Int) (of_decide_eq_true (by first | (with_reducible assumption) | assumption)) (by have h_ : (t252 : Int) < ((y265.length : Int) : Int) := of_decide_eq_true (by first | (with_reducible assumption) | assumption); first | exact h_ | (have e_ := (Kd.R_reads' HO267.out).1; omega) | simpa using h_) (seg := [.int .i64 a5]) (j := 2) hcl49 hcc49 (show 3 ≤ 3 from by decide) (x' := (⟨(rd_T141 y268 t252).f0, (rd_T141 y268 t252).f1, a5⟩ : S141)) (k141_mkM _ _ _ (⟨(rd_T141 y268 t252).f0, (rd_T141 y268 t252).f1, a5⟩ : S141) ) (fun _ hk => hk); have hx49_2 := hcc49 2 _ rfl; (try simp only [show (k141).sz = 3 from rfl, Nat.mul_one, Nat.add_zero] at hx49_2); have hf49_2 := hfr49 2; (try simp only [show (k141).sz = 3 from rfl, Nat.mul_one, Nat.add_zero] at hf49_2); clear hcl49 hcc49 hfr49 hM49) | ((with_reducible refine gate_store (t := 2) (p := 62) rfl ?_); refine store_event (t := 2) (p := 62) (v := ?vo_w50) (w1 := (w48.setCell ⟨go40, (t252 : Int).toNat * 3 + 2, none⟩ (.int .i64 a5))) ?hg ?ho ?hn ?hr ?_; (case ho => rfl); (case hg => rfl); (case hn => rfl); (case hr => first | (go_simp; done) | (go_simp; rfl)); intro w50 hw; have hg : w48.grownBy w50 (some go40) := (by rw [hw]; exact HP49.2); have hp_ : Kd.R k141 141 w50 w.heap.size (fun _ => True) (.slice (some ⟨go40, 0, none⟩) y265.length co40) y269 := (by rw [hw, Ny269.out]; exact HP49.1); clear HP49; have n0_ := Aside0.mk (hp_); have n1_ := Aside0.mk ((by rw [hw]; exact below_set (HB.out) GB40.out : Below w.heap.size w w50)); clear HO267; clear HB; have HO267 := n0_; have HB := n1_; clear n0_ n1_; clear hg hw hp_))
          go_ret2
          exact ⟨_, by first | rfl | (simp [errW_none, errW_some] <;> rfl) | (simp [*, errW_none, errW_some] <;> rfl), by (with_reducible repeat (first | apply Kd.R_alloc | apply Kd.R_drewN | apply Kd.R_drew)); exact HO267.out, by repeat (first | (with_reducible first | exact HB.out | apply below_alloc | apply pw_below_drewN | apply below_drew1) | exact HB.out)⟩
         ·rw [if_neg c39] at H
          exact absurd H (by simp)
        ·rw [if_neg c38] at H
         exact absurd H (by simp)
       ·rw [if_neg c37] at H
        exact absurd H (by simp)
 ·replace c8 := Bool.eq_false_iff.mpr c8
  subst c8
  have H1 : (some (([] : List (S141)), 1)) = some (r1, r2) := by rw [if_neg (show ¬ (false = true) by decide)] at H; exact H
  clear H
  have H := H1
  clear H1
  simp only [Option.some.injEq, Prod.mk.injEq] at H
  obtain ⟨rfl, rfl⟩ := H
  go_enter Try.func83, Try.ntmps83
  go_wp2_with (first | ((with_reducible refine gate_callee (f := 131) rfl ?_); refine goesL_ (some 20) rfl rfl Try.func131 (by kernel_rfl) rfl #[.slice A0 l0.length c0, .int .i64 a1, .slice A2 l2.length c2] rfl (by (try simp only [List.map_toArray, List.map_cons, List.map_nil]); first | done | rfl | (simp only [List.length_drop, List.length_take]; rfl)) ?_; (with_reducible refine (impl_AreWires.calls k _ _ l0 a1 _ _ l2 false _ ?side1 ?side2 ?side3 ?side4 A7.out).mono ?_); (case side1 => repeat (first | exact HR0.out | (with_reducible refine Kd.C_alloc ?_ _) | (with_reducible refine Kd.C_drewN ?_ _) | (with_reducible refine Kd.C_drew ?_))); (case side2 => exact HC0.out); (case side3 => repeat (first | exact HR2.out | (with_reducible refine Kd.C_alloc ?_ _) | (with_reducible refine Kd.C_drewN ?_ _) | (with_reducible refine Kd.C_drew ?_))); (case side4 => exact HC2.out); rintro e w51 ⟨rfl, hb⟩; refine ⟨_, rfl, ?_⟩; have n0_ := Aside0.mk (below_step (by repeat (first | (with_reducible first | exact HB.out | apply below_alloc | apply pw_below_drewN | apply below_drew1) | exact HB.out)) hb); clear HB; have HB := n0_; clear n0_; (try clear hb); (try clear hb2); (try clear hk); (try clear hi)))
  go_ret2
  exact ⟨_, by first | rfl | (simp [errW_none, errW_some] <;> rfl) | (simp [*, errW_none, errW_some] <;> rfl), by first | exact Kd.R_nil _ _ _ _ _ | exact Kd.N_nil _ _ _ _ _ | exact Kd.V_nil _ _ _ _ _ | exact Kd.Q_nil _ _ _ _ _ | exact Kd.S_nil _ _ _ _ _, by repeat (first | (with_reducible first | exact HB.out | apply below_alloc | apply pw_below_drewN | apply below_drew1) | exact HB.out)⟩
end Go.Proofs.Ytmahecjbejffoaa.PFnExactMoveWire
