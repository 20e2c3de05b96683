/- QFnExactWireAllg of the law FnExactWireAll: taken over, declaration by declaration, as far as the law leans on it (the words and the printed functions are the kit's own print). No condition but what each says. -/
import Derived.Test.YtalcbcelalbhiaaZFnExactWireAllav
import Derived.Test.YtalcbcelalbhiaaZFnExactWireAllaw
import Derived.Test.YtalcbcelalbhiaaZFnExactWireAllbb
namespace Go.Proofs.Ytalcbcelalbhiaa.PFnExactWireAll
open Go.RowKit Go.Proofs.YtalcbcelalbhiaaW.PrintWords Go.Proofs.YtalcbcelalbhiaaW.PrintLast Go.Proofs.YtalcbcelalbhiaaW.PrintMore
attribute [local go_sem] max2_int min2_int max_two min_two max_three min_three max_four min_four   -- for this text's walks alone
set_option linter.unusedVariables false
set_option linter.unusedSimpArgs false
def impl_freePins.l0 : Nat → List (S98) → List (S103) → Int → List Int → Int → Option (List Int)
 | 0, _, _, _, _, _ => none
 | k + 1, x0, x1, x2, x7, x8 => if 0 ≤ x2 then (if x2 < (x0.length : Int) then (if x8 < ((rd_T98 x0 x2).f1) then ((impl_cueAt.f k x1 x2 x8).bind fun t312 => (if t312 < 0 then (if x7.length < 17592186044416 then (impl_freePins.l0 k x0 x1 x2 (x7 ++ [x8]) (wrap64 (x8 + 1))) else (none)) else (impl_freePins.l0 k x0 x1 x2 x7 (wrap64 (x8 + 1))))) else (some x7)) else (none)) else (none)
def impl_freePins.f (k : Nat) (l0 : List (S98)) (l1 : List (S103)) (a2 : Int) : Option (List Int) := impl_freePins.l0 k l0 l1 a2 ([] : List Int) 0
theorem impl_freePins.mono_l : ∀ k, (∀ y0 y1 y2 y3 y4, LeO (impl_freePins.l0 k y0 y1 y2 y3 y4) (impl_freePins.l0 (k + 1) y0 y1 y2 y3 y4))
 | 0 => fun _ _ _ _ _ r h => by simp [impl_freePins.l0] at h
 | k + 1 => by
  have ih0 := impl_freePins.mono_l k
  ·intro y0 y1 y2 y3 y4
   unfold impl_freePins.l0
   repeat' first
   | (with_reducible exact ih0 _ _ _ _ _)
   | (with_reducible exact impl_cueAt.mono _ _ _ _)
   | (with_reducible exact LeO.refl _)
   | (with_reducible exact LeO.none _)
   | (with_reducible refine LeO.ite ?_ ?_)
   | (with_reducible refine LeO.bind ?_ (fun _ => ?_))
   | exact ih0 _ _ _ _ _
   | exact impl_cueAt.mono _ _ _ _
   | exact LeO.none _
   | refine LeO.ite ?_ ?_
   | refine LeO.bind ?_ (fun _ => ?_)
theorem impl_freePins.mono : ∀ a0 a1 a2 k, LeO (impl_freePins.f k a0 a1 a2) (impl_freePins.f (k + 1) a0 a1 a2) := by
 intro a0 a1 a2 k
 have ih0 := impl_freePins.mono_l k
 unfold impl_freePins.f
 repeat' first
   | (with_reducible exact ih0 _ _ _ _ _)
   | (with_reducible exact impl_cueAt.mono _ _ _ _)
   | (with_reducible exact LeO.refl _)
   | (with_reducible exact LeO.none _)
   | (with_reducible refine LeO.ite ?_ ?_)
   | (with_reducible refine LeO.bind ?_ (fun _ => ?_))
   | exact ih0 _ _ _ _ _
   | exact impl_cueAt.mono _ _ _ _
   | exact LeO.none _
   | refine LeO.ite ?_ ?_
   | refine LeO.bind ?_ (fun _ => ?_)
set_option maxHeartbeats 8000000 in
set_option maxRecDepth 100000 in
theorem impl_freePins.calls (k : Nat) (A0 : Option Addr) (c0 : Nat) (l0 : List (S98)) (A1 : Option Addr) (c1 : Nat) (l1 : List (S103)) (a2 : Int) (r : List Int) (w : World) (hr0 : Kd.C k98 w A0 l0.length l0) (hc0 : l0.length ≤ c0) (hr1 : Kd.C k103 w A1 l1.length l1) (hc1 : l1.length ≤ c1) (h : impl_freePins.f k l0 l1 a2 = some r) :
  Calls Try.prog 128 #[.slice A0 l0.length c0, .slice A1 l1.length c1, .int .i64 a2] w fun e w' => ∃ v0_ : Value, e = .returned (v0_) ∧ Kd.R (Kd.int .i64) 2 w' w.heap.size (fun _ => True) v0_ r ∧ Below w.heap.size w w' := by
 have HR0 := Aside0.mk hr0
 have HC0 := Aside0.mk hc0
 clear hr0 hc0
 have HR1 := Aside0.mk hr1
 have HC1 := Aside0.mk hc1
 clear hr1 hc1
 have HB := Aside0.mk (Below.refl w.heap.size w)
 have H : (impl_freePins.l0 k l0 l1 a2 ([] : List Int) 0) = some r := h
 clear h
 have H' := Aside0.mk H
 clear H
 go_enter Try.func128, Try.ntmps128
 go_wp2
 go_loopg [7, 8] k (fun kq v7 v8 w' => ∃ (x7_1 : List Int) (x8_1 : Int), v8 = .int .i64 x8_1 ∧ Aside0 (impl_freePins.l0 kq l0 l1 a2 x7_1 x8_1 = some r) ∧ Aside0 (kq ≤ k) ∧ Aside0 (Kd.R (Kd.int .i64) 2 w' w.heap.size (fun _ => True) v7 x7_1) ∧ Aside0 (Below w.heap.size w w'))
 case atStart => exact ⟨(([] : List Int)), (0), (by first | rfl | (simp; done) | (simp [*]; done)), H', ⟨Nat.le_refl _⟩, ⟨by first | exact Kd.R_nil _ _ _ _ _ | exact Kd.N_nil _ _ _ _ _ | exact Kd.V_nil _ _ _ _ _ | exact Kd.Q_nil _ _ _ _ _ | exact Kd.S_nil _ _ _ _ _⟩, ⟨bl_ HB.out⟩⟩
 case round =>
  clear H'
  try clear c1
  try clear p2
  obtain ⟨x7_1, x8_1, rfl, HA, HK1, HO_7, HB⟩ := hrel
  cases gk with
  | zero => exact absurd HA.out (by simp [impl_freePins.l0])
  | succ k1 =>
   have H := HA.out
   clear HA
   simp only [impl_freePins.l0] at H
   by_cases c4 : 0 ≤ a2
   case neg =>
    rw [if_neg c4] at H
    exact absurd H (by simp)


   rw [if_pos c4] at H
   have c4b0 : decide (0 ≤ a2) = true := decide_eq_true c4
   clear c4
   by_cases c5 : a2 < (l0.length : Int)
   case neg =>
    rw [if_neg c5] at H
    exact absurd H (by simp)
   rw [if_pos c5] at H
   have c5b0 : decide (a2 < (l0.length : Int)) = true := decide_eq_true c5
   clear c5
   by_cases c6 : x8_1 < ((rd_T98 l0 a2).f1)
   ·rw [if_pos c6] at H
    have c6b0 : decide (x8_1 < ((rd_T98 l0 a2).f1)) = true := decide_eq_true c6
    clear c6
    replace H := Option.bind_eq_some_iff.mp H
    obtain ⟨t312, A70, H⟩ := H
    replace H : (if t312 < 0 then (if x7_1.length < 17592186044416 then (impl_freePins.l0 k1 l0 l1 a2 (x7_1 ++ [x8_1]) (wrap64 (x8_1 + 1))) else (none)) else (impl_freePins.l0 k1 l0 l1 a2 x7_1 (wrap64 (x8_1 + 1)))) = some r := H
    have A7 := Aside0.mk A70
    clear A70
    by_cases c8 : t312 < 0
    ·rw [if_pos c8] at H
     have c8b0 : decide (t312 < 0) = true := decide_eq_true c8
     clear c8
     by_cases c9 : x7_1.length < 17592186044416
     case neg =>
      rw [if_neg c9] at H
      exact absurd H (by simp)
     rw [if_pos c9] at H
     have LMc9 := Aside0.mk c9
     clear c9
     obtain ⟨y313, hy313⟩ : ∃ y_ : List Int, y_ = (x7_1 ++ [x8_1]) := ⟨_, rfl⟩
     replace H : (impl_freePins.l0 k1 l0 l1 a2 y313 (wrap64 (x8_1 + 1))) = some r := by first | (rw [hy313]; with_reducible exact H) | (have H2_ := (Option.bind_some _ _).symm.trans H; rw [hy313]; with_reducible exact H2_) | (have H2_ := (Option.bind_some _ _).symm.trans H; with_reducible exact H2_) | with_reducible exact H | (rw [hy313]; exact H) | exact H
     have Ny313 := Aside0.mk hy313
     clear hy313
     have H' := Aside0.mk H
     clear H
     have p311 : 0 ≤ (a2 : Int) := od_
     have q311 : a2 < (l0.length : Int) := od_
     obtain ⟨ad311, e311, hx311_0, hx311_1⟩ := at_T98 HR0.out a2 p311 q311
     cases e311
     replace hx311_0 := (HB.out.cell (World.block_lt_of_cell? w _ hx311_0)).trans hx311_0
     replace hx311_1 := (HB.out.cell (World.block_lt_of_cell? w _ hx311_1)).trans hx311_1
     replace p311 := eq_true p311
     replace q311 := eq_true q311
     go_wp2_with (first | ((with_reducible refine gate_callee (f := 132) rfl ?_); refine goesL_ (some 21) rfl rfl Try.func132 (by kernel_rfl) rfl #[.slice A1 l1.length c1, .int .i64 a2, .int .i64 x8_1] rfl (by (try simp only [List.map_toArray, List.map_cons, List.map_nil]); first | done | rfl | (simp only [List.length_drop, List.length_take]; rfl)) ?_; (with_reducible refine (impl_cueAt.calls k1 _ _ l1 a2 x8_1 t312 _ ?side1 ?side2 A7.out).mono ?_); (case side1 => repeat (first | exact (Kd.C_below HR1.out HB.out) | (with_reducible refine Kd.C_alloc ?_ _) | (with_reducible refine Kd.C_drewN ?_ _) | (with_reducible refine Kd.C_drew ?_))); (case side2 => exact HC1.out); rintro e w10 ⟨rfl, hb⟩; refine ⟨_, rfl, ?_⟩; have n0_ := Aside0.mk (Kd.R_below (by (with_reducible repeat (first | apply Kd.R_alloc | apply Kd.R_drewN | apply Kd.R_drew)); exact HO_7.out) hb); have n1_ := Aside0.mk (below_step (bl_ HB.out) hb); clear HO_7; clear HB; have HO_7 := n0_; have HB := n1_; clear n0_ n1_; (try clear hb); (try clear hb2); (try clear hk); (try clear hi)) | ((with_reducible refine gate_builtin (b := .append) (xs := #[.tmp 23, .tmp 25]) rfl ?_); at_builtin; refine Kd.R_append (Kd.int .i64) (w0 := w) w.heap.size rfl (.tmp 23) (.tmp 25) 41 2 (.int .i64 0) 8 rfl Try.underlying41 info2 rfl (by decide) (by omega) u7 x7_1 x8_1 [.int .i64 x8_1] (fun _ => True) (fun _ => False) rfl rfl ?aP (fun _ hk => hk.elim) ?aF ?aO ?aB ?aS ?aL ?_; (case aP => exact rfl); (case aB => exact (bl_ HB.out)); (case aF => exact (fun _ _ => trivial)); (case aO => exact (by (with_reducible repeat (first | apply Kd.R_alloc | apply Kd.R_drewN | apply Kd.R_drew)); exact HO_7.out)); (case aS => exact (below_size (bl_ HB.out))); (case aL => have := LMc9.out; omega); intro v314 w11 ho hb hg hat; rw [← Ny313.out] at ho; have n0_ := Aside0.mk (hb); have n1_ := Aside0.mk (ho); clear HB; clear HO_7; have HB := n0_; have HO315 := n1_; clear n0_ n1_; clear ho hb hg hat))
     go_roundg k1
     case measure => have := HK1.out; omega
     case rel => exact ⟨(y313), (wrap64 (x8_1 + 1)), (by first | rfl | (simp; done) | (simp [*]; done)), H', ⟨by have := HK1.out; omega⟩, ⟨by (with_reducible repeat (first | apply Kd.R_alloc | apply Kd.R_drewN | apply Kd.R_drew)); exact HO315.out⟩, ⟨bl_ HB.out⟩⟩
    ·rw [if_neg c8] at H
     have c8b0 : decide (t312 < 0) = false := decide_eq_false c8
     clear c8
     have H' := Aside0.mk H
     clear H
     have p311 : 0 ≤ (a2 : Int) := od_
     have q311 : a2 < (l0.length : Int) := od_
     obtain ⟨ad311, e311, hx311_0, hx311_1⟩ := at_T98 HR0.out a2 p311 q311
     cases e311
     replace hx311_0 := (HB.out.cell (World.block_lt_of_cell? w _ hx311_0)).trans hx311_0
     replace hx311_1 := (HB.out.cell (World.block_lt_of_cell? w _ hx311_1)).trans hx311_1
     replace p311 := eq_true p311
     replace q311 := eq_true q311
     go_wp2_with (first | ((with_reducible refine gate_callee (f := 132) rfl ?_); refine goesL_ (some 21) rfl rfl Try.func132 (by kernel_rfl) rfl #[.slice A1 l1.length c1, .int .i64 a2, .int .i64 x8_1] rfl (by (try simp only [List.map_toArray, List.map_cons, List.map_nil]); first | done | rfl | (simp only [List.length_drop, List.length_take]; rfl)) ?_; (with_reducible refine (impl_cueAt.calls k1 _ _ l1 a2 x8_1 t312 _ ?side1 ?side2 A7.out).mono ?_); (case side1 => repeat (first | exact (Kd.C_below HR1.out HB.out) | (with_reducible refine Kd.C_alloc ?_ _) | (with_reducible refine Kd.C_drewN ?_ _) | (with_reducible refine Kd.C_drew ?_))); (case side2 => exact HC1.out); rintro e w12 ⟨rfl, hb⟩; refine ⟨_, rfl, ?_⟩; have n0_ := Aside0.mk (Kd.R_below (by (with_reducible repeat (first | apply Kd.R_alloc | apply Kd.R_drewN | apply Kd.R_drew)); exact HO_7.out) hb); have n1_ := Aside0.mk (below_step (bl_ HB.out) hb); clear HO_7; clear HB; have HO_7 := n0_; have HB := n1_; clear n0_ n1_; (try clear hb); (try clear hb2); (try clear hk); (try clear hi)))
     go_roundg k1
     case measure => have := HK1.out; omega
     case rel => exact ⟨(x7_1), (wrap64 (x8_1 + 1)), (by first | rfl | (simp; done) | (simp [*]; done)), H', ⟨by have := HK1.out; omega⟩, ⟨by (with_reducible repeat (first | apply Kd.R_alloc | apply Kd.R_drewN | apply Kd.R_drew)); exact HO_7.out⟩, ⟨bl_ HB.out⟩⟩
   ·rw [if_neg c6] at H
    have c6b0 : decide (x8_1 < ((rd_T98 l0 a2).f1)) = false := decide_eq_false c6
    clear c6
    obtain rfl := Option.some.inj H
    have p311 : 0 ≤ (a2 : Int) := od_
    have q311 : a2 < (l0.length : Int) := od_
    obtain ⟨ad311, e311, hx311_0, hx311_1⟩ := at_T98 HR0.out a2 p311 q311
    cases e311
    replace hx311_0 := (HB.out.cell (World.block_lt_of_cell? w _ hx311_0)).trans hx311_0
    replace hx311_1 := (HB.out.cell (World.block_lt_of_cell? w _ hx311_1)).trans hx311_1
    replace p311 := eq_true p311
    replace q311 := eq_true q311
    go_wp2
    go_ret
    exact ⟨_, by first | rfl | (simp [errW_none, errW_some] <;> rfl) | (simp [*, errW_none, errW_some] <;> rfl), by (with_reducible repeat (first | apply Kd.R_alloc | apply Kd.R_drewN | apply Kd.R_drew)); exact HO_7.out, bl_ HB.out⟩
mutual
def impl_putWire.l0 : Nat → List (S98) → List (S103) → Int → Int → Int → Option ((List (S103)) × Bool)
 | 0, _, _, _, _, _ => none
 | k + 1, x0, x1, x2, x13, x14 => if x14 < x13 then ((impl_freePins.f k x0 x1 x14).bind fun t316 => (if (t316.length : Int) = 0 then (impl_putWire.l0 k x0 x1 x2 x13 (wrap64 (x14 + 1))) else ((some (([] : List (S103)) : List (S103))).bind fun y319 => (if y319.length + x1.length < 5864062014805 then ((some (y319 ++ x1 : List (S103))).bind fun y322 => (if 0 < (t316.length : Int) then ((some (([(⟨x2, x14, rd t316 0⟩ : S103)] : List (S103)) : List (S103))).bind fun y326 => (if y322.length + y326.length < 5864062014805 then ((some (y322 ++ y326 : List (S103))).bind fun y329 => (impl_putWire.l1 k y329 (wrap64 ((y329.length : Int) - 1)))) else (none))) else (none))) else (none))))) else (some (([] : List (S103)), false))
def impl_putWire.l1 : Nat → List (S103) → Int → Option ((List (S103)) × Bool)
 | 0, _, _ => none
 | k + 1, x10, x11 => if x11 > 0 then (if 0 ≤ (wrap64 (x11 - 1)) then (if (wrap64 (x11 - 1)) < (x10.length : Int) then (if 0 ≤ x11 then (if x11 < (x10.length : Int) then (if ((rd_T103 x10 (wrap64 (x11 - 1))).f0) > ((rd_T103 x10 x11).f0) then (impl_putWire.l1 k ((x10.set ((wrap64 (x11 - 1)) : Int).toNat (⟨(rd_T103 x10 x11).f0, (rd_T103 x10 x11).f1, (rd_T103 x10 x11).f2⟩ : S103)).set (x11 : Int).toNat (⟨(rd_T103 x10 (wrap64 (x11 - 1))).f0, (rd_T103 x10 (wrap64 (x11 - 1))).f1, (rd_T103 x10 (wrap64 (x11 - 1))).f2⟩ : S103)) (wrap64 (x11 - 1))) else (some (x10, true))) else (none)) else (none)) else (none)) else (none)) else (some (x10, true))
end
def impl_putWire.f (k : Nat) (l0 : List (S98)) (l1 : List (S103)) (a2 : Int) : Option ((List (S103)) × Bool) := impl_putWire.l0 k l0 l1 a2 (l0.length : Int) 0
theorem impl_putWire.mono_l : ∀ k, (∀ y0 y1 y2 y3 y4, LeO (impl_putWire.l0 k y0 y1 y2 y3 y4) (impl_putWire.l0 (k + 1) y0 y1 y2 y3 y4)) ∧ (∀ y0 y1, LeO (impl_putWire.l1 k y0 y1) (impl_putWire.l1 (k + 1) y0 y1))
 | 0 => ⟨fun _ _ _ _ _ r h => by simp [impl_putWire.l0] at h, fun _ _ r h => by simp [impl_putWire.l1] at h⟩
 | k + 1 => by
  obtain ⟨ih0, ih1⟩ := impl_putWire.mono_l k
  refine ⟨?_, ?_⟩
  ·intro y0 y1 y2 y3 y4
   unfold impl_putWire.l0
   repeat' first
   | (with_reducible exact ih0 _ _ _ _ _)
   | (with_reducible exact ih1 _ _)
   | (with_reducible exact impl_freePins.mono _ _ _ _)
   | (with_reducible exact LeO.refl _)
   | (with_reducible exact LeO.none _)
   | (with_reducible refine LeO.ite ?_ ?_)
   | (with_reducible refine LeO.bind ?_ (fun _ => ?_))
   | exact ih0 _ _ _ _ _
   | exact ih1 _ _
   | exact impl_freePins.mono _ _ _ _
   | exact LeO.none _
   | refine LeO.ite ?_ ?_
   | refine LeO.bind ?_ (fun _ => ?_)
  ·intro y0 y1
   unfold impl_putWire.l1
   repeat' first
   | (with_reducible exact ih0 _ _ _ _ _)
   | (with_reducible exact ih1 _ _)
   | (with_reducible exact impl_freePins.mono _ _ _ _)
   | (with_reducible exact LeO.refl _)
   | (with_reducible exact LeO.none _)
   | (with_reducible refine LeO.ite ?_ ?_)
   | (with_reducible refine LeO.bind ?_ (fun _ => ?_))
   | exact ih0 _ _ _ _ _
   | exact ih1 _ _
   | exact impl_freePins.mono _ _ _ _
   | exact LeO.none _
   | refine LeO.ite ?_ ?_
   | refine LeO.bind ?_ (fun _ => ?_)
theorem impl_putWire.mono : ∀ a0 a1 a2 k, LeO (impl_putWire.f k a0 a1 a2) (impl_putWire.f (k + 1) a0 a1 a2) := by
 intro a0 a1 a2 k
 obtain ⟨ih0, ih1⟩ := impl_putWire.mono_l k
 unfold impl_putWire.f
 repeat' first
   | (with_reducible exact ih0 _ _ _ _ _)
   | (with_reducible exact ih1 _ _)
   | (with_reducible exact impl_freePins.mono _ _ _ _)
   | (with_reducible exact LeO.refl _)
   | (with_reducible exact LeO.none _)
   | (with_reducible refine LeO.ite ?_ ?_)
   | (with_reducible refine LeO.bind ?_ (fun _ => ?_))
   | exact ih0 _ _ _ _ _
   | exact ih1 _ _
   | exact impl_freePins.mono _ _ _ _
   | exact LeO.none _
   | refine LeO.ite ?_ ?_
   | refine LeO.bind ?_ (fun _ => ?_)
def impl_putWire.T6 : Bool × List (List Nat × List Nat) := (true, [([], []), ([], []), ([0, 1], [0, 1]), ([], []), ([], []), ([], []), ([5], [5]), ([6], [6]), ([3, 4, 7], [3, 4, 7]), ([8], [8]), ([2, 9, 2], [2, 9]), ([10, 10, 0, 1, 2, 3, 4, 5, 6, 7, 8, 9, 10], [10])])
def impl_putWire.B6 : List Nat := [0, 0, 3, 0, 0, 0, 32, 96, 248, 504, 1023, 2047]
theorem impl_putWire.tab6 : rtab .any (opsOf Try.f80 6) = impl_putWire.T6 := by kernel_rfl
theorem impl_putWire.bits6 : waitsOk impl_putWire.T6.2 impl_putWire.B6 = true := by kernel_rfl
def impl_putWire.T8 : Bool × List (List Nat × List Nat) := (true, [([], []), ([0], [0]), ([1], [1]), ([2], [2]), ([2], [2]), ([4, 2], [2, 4]), ([3, 5, 2], [2, 3, 5]), ([6, 2], [2, 6]), ([7, 2], [2, 7]), ([2], [2]), ([2], [2]), ([9, 10, 2], [2, 9, 10]), ([11, 2], [2, 11]), ([12, 2], [2, 12]), ([8, 13, 2], [2, 8, 13]), ([2, 14], [2, 14])])
def impl_putWire.B8 : List Nat := [0, 1, 3, 7, 7, 23, 63, 127, 255, 7, 7, 1543, 3591, 7687, 16383, 32767]
theorem impl_putWire.tab8 : rtab .any (opsOf Try.f80 8) = impl_putWire.T8 := by kernel_rfl
theorem impl_putWire.bits8 : waitsOk impl_putWire.T8.2 impl_putWire.B8 = true := by kernel_rfl
def impl_putWire.T10 : Bool × List (List Nat × List Nat) := (true, [([], []), ([], []), ([1], [1]), ([], []), ([], []), ([], []), ([], []), ([5, 6], [5, 6]), ([7], [7]), ([], []), ([], []), ([10], [10]), ([9, 11], [9, 11]), ([12], [12]), ([0, 2, 0, 1, 2, 5, 6, 7, 8, 13], [0, 2]), ([14, 8, 0, 1, 2, 5, 6, 7, 8, 13], [8, 14]), ([3, 4, 0, 1, 2, 3, 4, 5, 6, 7, 8, 9, 10, 11, 12, 13, 14, 15], [3, 4]), ([16, 13, 15, 0, 1, 2, 3, 4, 5, 6, 7, 8, 9, 10, 11, 12, 13, 14, 15], [13, 16])])
def impl_putWire.B10 : List Nat := [0, 0, 2, 0, 0, 0, 0, 96, 224, 0, 0, 1024, 3584, 7680, 16359, 32743, 65535, 131071]
theorem impl_putWire.tab10 : rtab .any (opsOf Try.f80 10) = impl_putWire.T10 := by kernel_rfl
theorem impl_putWire.bits10 : waitsOk impl_putWire.T10.2 impl_putWire.B10 = true := by kernel_rfl
set_option maxHeartbeats 8000000 in
set_option maxRecDepth 100000 in
theorem impl_putWire.calls (k : Nat) (A0 : Option Addr) (c0 : Nat) (l0 : List (S98)) (A1 : Option Addr) (c1 : Nat) (l1 : List (S103)) (a2 : Int) (r1 : List (S103)) (r2 : Bool) (w : World) (hr0 : Kd.C k98 w A0 l0.length l0) (hc0 : l0.length ≤ c0) (hr1 : Kd.C k103 w A1 l1.length l1) (hc1 : l1.length ≤ c1) (h : impl_putWire.f k l0 l1 a2 = some (r1, r2)) :
  Calls Try.prog 80 #[.slice A0 l0.length c0, .slice A1 l1.length c1, .int .i64 a2] w fun e w' => ∃ v0_ : Value, e = .returned (.tuple #[v0_, .bool r2]) ∧ Kd.R k103 103 w' w.heap.size (fun _ => True) v0_ r1 ∧ Below w.heap.size w w' := by
 have hu103 := Try.underlying103
 have HR0 := Aside0.mk hr0
 have HC0 := Aside0.mk hc0
 clear hr0 hc0
 have HR1 := Aside0.mk hr1
 have HC1 := Aside0.mk hc1
 clear hr1 hc1
 have HB := Aside0.mk (Below.refl w.heap.size w)
 have H : (impl_putWire.l0 k l0 l1 a2 (l0.length : Int) 0) = some (r1, r2) := h
 clear h
 have H' := Aside0.mk H
 clear H
 go_enter Try.func80, Try.ntmps80
 go_wp2
 go_loopg [14] k (fun kq v14 w' => ∃ (x14_1 : Int), v14 = .int .i64 x14_1 ∧ Aside0 (impl_putWire.l0 kq l0 l1 a2 (l0.length : Int) x14_1 = some (r1, r2)) ∧ Aside0 (kq ≤ k) ∧ Aside0 (Below w.heap.size w w'))
 case atStart => exact ⟨(0), (by first | rfl | (simp; done) | (simp [*]; done)), H', ⟨Nat.le_refl _⟩, ⟨bl_ HB.out⟩⟩
 case round =>
  clear H'
  try clear c1
  try clear p2
  obtain ⟨x14_1, rfl, HA, HK1, HB⟩ := hrel
  cases gk with
  | zero => exact absurd HA.out (by simp [impl_putWire.l0])
  | succ k1 =>
   have H := HA.out
   clear HA
   simp only [impl_putWire.l0] at H
   by_cases c4 : x14_1 < (l0.length : Int)
   ·rw [if_pos c4] at H
    have c4b0 : decide (x14_1 < (l0.length : Int)) = true := decide_eq_true c4
    clear c4
    replace H := Option.bind_eq_some_iff.mp H
    obtain ⟨t316, A50, H⟩ := H
    replace H : (if (t316.length : Int) = 0 then (impl_putWire.l0 k1 l0 l1 a2 (l0.length : Int) (wrap64 (x14_1 + 1))) else ((some (([] : List (S103)) : List (S103))).bind fun y319 => (if y319.length + l1.length < 5864062014805 then ((some (y319 ++ l1 : List (S103))).bind fun y322 => (if 0 < (t316.length : Int) then ((some (([(⟨a2, x14_1, rd t316 0⟩ : S103)] : List (S103)) : List (S103))).bind fun y326 => (if y322.length + y326.length < 5864062014805 then ((some (y322 ++ y326 : List (S103))).bind fun y329 => (impl_putWire.l1 k1 y329 (wrap64 ((y329.length : Int) - 1)))) else (none))) else (none))) else (none)))) = some (r1, r2) := H
    have A5 := Aside0.mk A50
    clear A50
    by_cases c6 : (t316.length : Int) = 0
    ·rw [if_pos c6] at H
     have c6b0 : ((t316.length : Int) == 0) = true := beq_iff_eq.mpr c6
     have c6b1 : ((t316.length : Int) != 0) = false := bne_eq_false_iff_eq.mpr c6
     clear c6
     have H' := Aside0.mk H
     clear H
     go_wp2_with (first | ((with_reducible refine gate_callee (f := 128) rfl ?_); refine goesL_ (some 20) rfl rfl Try.func128 (by kernel_rfl) rfl #[.slice A0 l0.length c0, .slice A1 l1.length c1, .int .i64 x14_1] rfl (by (try simp only [List.map_toArray, List.map_cons, List.map_nil]); first | done | rfl | (simp only [List.length_drop, List.length_take]; rfl)) ?_; (with_reducible refine (impl_freePins.calls k1 _ _ l0 _ _ l1 x14_1 t316 _ ?side1 ?side2 ?side3 ?side4 A5.out).mono ?_); (case side1 => repeat (first | exact (Kd.C_below HR0.out HB.out) | (with_reducible refine Kd.C_alloc ?_ _) | (with_reducible refine Kd.C_drewN ?_ _) | (with_reducible refine Kd.C_drew ?_))); (case side2 => exact HC0.out); (case side3 => repeat (first | exact (Kd.C_below HR1.out HB.out) | (with_reducible refine Kd.C_alloc ?_ _) | (with_reducible refine Kd.C_drewN ?_ _) | (with_reducible refine Kd.C_drew ?_))); (case side4 => exact HC1.out); rintro e w7 ⟨v317, rfl, ho0, hb⟩; refine ⟨_, rfl, ?_⟩; have n0_ := Aside0.mk (Kd.R_lower ho0 (below_size (bl_ HB.out))); have n1_ := Aside0.mk (below_step (bl_ HB.out) hb); clear HB; have HO318 := n0_; have HB := n1_; clear n0_ n1_; (try clear hb); (try clear hb2); (try clear hk); (try clear hi); (try clear ho0); obtain ⟨Ao8, co8, eo8⟩ := Kd.R_slice HO318.out; subst eo8))
     go_roundg k1
     case measure => have := HK1.out; omega
     case rel => exact ⟨(wrap64 (x14_1 + 1)), (by first | rfl | (simp; done) | (simp [*]; done)), H', ⟨by have := HK1.out; omega⟩, ⟨bl_ HB.out⟩⟩
    ·rw [if_neg c6] at H
     have c6b0 : ((t316.length : Int) == 0) = false := beq_eq_false_iff_ne.mpr c6
     have c6b1 : ((t316.length : Int) != 0) = true := bne_iff_ne.mpr c6
     have c6b2 : ¬ (t316 = []) := fun h_ => c6 (by rw [h_]; rfl)
     obtain ⟨y319, hy319⟩ : ∃ y_ : List (S103), y_ = (([] : List (S103))) := ⟨_, rfl⟩
     replace H : (if y319.length + l1.length < 5864062014805 then ((some (y319 ++ l1 : List (S103))).bind fun y322 => (if 0 < (t316.length : Int) then ((some (([(⟨a2, x14_1, rd t316 0⟩ : S103)] : List (S103)) : List (S103))).bind fun y326 => (if y322.length + y326.length < 5864062014805 then ((some (y322 ++ y326 : List (S103))).bind fun y329 => (impl_putWire.l1 k1 y329 (wrap64 ((y329.length : Int) - 1)))) else (none))) else (none))) else (none)) = some (r1, r2) := by first | (rw [hy319]; with_reducible exact H) | (have H2_ := (Option.bind_some _ _).symm.trans H; rw [hy319]; with_reducible exact H2_) | (have H2_ := (Option.bind_some _ _).symm.trans H; with_reducible exact H2_) | with_reducible exact H | (rw [hy319]; exact H) | exact H
     have Ny319 := Aside0.mk hy319
     clear hy319
     by_cases c9 : y319.length + l1.length < 5864062014805
     case neg =>
      rw [if_neg c9] at H
      exact absurd H (by simp)
     rw [if_pos c9] at H
     have LMc9 := Aside0.mk c9
     clear c9
     obtain ⟨y322, hy322⟩ : ∃ y_ : List (S103), y_ = (y319 ++ l1) := ⟨_, rfl⟩
     replace H : (if 0 < (t316.length : Int) then ((some (([(⟨a2, x14_1, rd t316 0⟩ : S103)] : List (S103)) : List (S103))).bind fun y326 => (if y322.length + y326.length < 5864062014805 then ((some (y322 ++ y326 : List (S103))).bind fun y329 => (impl_putWire.l1 k1 y329 (wrap64 ((y329.length : Int) - 1)))) else (none))) else (none)) = some (r1, r2) := by first | (rw [hy322]; with_reducible exact H) | (have H2_ := (Option.bind_some _ _).symm.trans H; rw [hy322]; with_reducible exact H2_) | (have H2_ := (Option.bind_some _ _).symm.trans H; with_reducible exact H2_) | with_reducible exact H | (rw [hy322]; exact H) | exact H
     have Ny322 := Aside0.mk hy322
     clear hy322
     by_cases c10 : 0 < (t316.length : Int)
     case neg =>
      rw [if_neg c10] at H
      exact absurd H (by simp)
     rw [if_pos c10] at H
     have c10b0 : decide (0 < (t316.length : Int)) = true := decide_eq_true c10
     have c10b1 : decide (0 < t316.length) = true := decide_eq_true (by omega)
     clear c10
     obtain ⟨y326, hy326⟩ : ∃ y_ : List (S103), y_ = (([(⟨a2, x14_1, rd t316 0⟩ : S103)] : List (S103))) := ⟨_, rfl⟩
     replace H : (if y322.length + y326.length < 5864062014805 then ((some (y322 ++ y326 : List (S103))).bind fun y329 => (impl_putWire.l1 k1 y329 (wrap64 ((y329.length : Int) - 1)))) else (none)) = some (r1, r2) := by first | (rw [hy326]; with_reducible exact H) | (have H2_ := (Option.bind_some _ _).symm.trans H; rw [hy326]; with_reducible exact H2_) | (have H2_ := (Option.bind_some _ _).symm.trans H; with_reducible exact H2_) | with_reducible exact H | (rw [hy326]; exact H) | exact H
     have Ny326 := Aside0.mk hy326
     clear hy326
     by_cases c11 : y322.length + y326.length < 5864062014805
     case neg =>
      rw [if_neg c11] at H
      exact absurd H (by simp)
     rw [if_pos c11] at H
     have LMc11 := Aside0.mk c11
     clear c11
     obtain ⟨y329, hy329⟩ : ∃ y_ : List (S103), y_ = (y322 ++ y326) := ⟨_, rfl⟩
     replace H : (impl_putWire.l1 k1 y329 (wrap64 ((y329.length : Int) - 1))) = some (r1, r2) := by first | (rw [hy329]; with_reducible exact H) | (have H2_ := (Option.bind_some _ _).symm.trans H; rw [hy329]; with_reducible exact H2_) | (have H2_ := (Option.bind_some _ _).symm.trans H; with_reducible exact H2_) | with_reducible exact H | (rw [hy329]; exact H) | exact H
     have Ny329 := Aside0.mk hy329
     clear hy329
     have H' := Aside0.mk H
     clear H
     try go_wp2_with (first | ((with_reducible refine gate_callee (f := 128) rfl ?_); refine goesL_ (some 20) rfl rfl Try.func128 (by kernel_rfl) rfl #[.slice A0 l0.length c0, .slice A1 l1.length c1, .int .i64 x14_1] rfl (by (try simp only [List.map_toArray, List.map_cons, List.map_nil]); first | done | rfl | (simp only [List.length_drop, List.length_take]; rfl)) ?_; (with_reducible refine (impl_freePins.calls k1 _ _ l0 _ _ l1 x14_1 t316 _ ?side1 ?side2 ?side3 ?side4 A5.out).mono ?_); (case side1 => repeat (first | exact (Kd.C_below HR0.out HB.out) | (with_reducible refine Kd.C_alloc ?_ _) | (with_reducible refine Kd.C_drewN ?_ _) | (with_reducible refine Kd.C_drew ?_))); (case side2 => exact HC0.out); (case side3 => repeat (first | exact (Kd.C_below HR1.out HB.out) | (with_reducible refine Kd.C_alloc ?_ _) | (with_reducible refine Kd.C_drewN ?_ _) | (with_reducible refine Kd.C_drew ?_))); (case side4 => exact HC1.out); rintro e w12 ⟨v317, rfl, ho0, hb⟩; refine ⟨_, rfl, ?_⟩; have n0_ := Aside0.mk (Kd.R_lower ho0 (below_size (bl_ HB.out))); have n1_ := Aside0.mk (below_step (bl_ HB.out) hb); clear HB; have HO318 := n0_; have HB := n1_; clear n0_ n1_; (try clear hb); (try clear hb2); (try clear hk); (try clear hi); (try clear ho0); obtain ⟨Ao13, co13, eo13⟩ := Kd.R_slice HO318.out; subst eo13))
     have n0_ := Aside0.mk (Kd.R_drew HO318.out)
     have n1_ := Aside0.mk (below_drew1 HB.out)
     clear HO318
     clear HB
     have HO318 := n0_
     have HB := n1_
     clear n0_ n1_
     have p325 : 0 ≤ (0 : Int) := (by omega)
     have q325 : 0 < (t316.length : Int) := od_
     obtain ⟨ad325, e325, hx325_0⟩ := Kd.at_int (Kd.R_reads' HO318.out).2.2 0 p325 q325
     cases e325
     have qi325 : (0 < t316.length) = True := eq_true (by omega)
     (try rw [show ((0 : Int)).toNat = 0 from rfl] at hx325_0)
     (try rw [Addr.add_zero'] at hx325_0)
     replace p325 := eq_true p325
     replace q325 := eq_true q325
     refine start_ (n := 12) (S := fun w' => w'.cell? ad325 = some (.int .i64 (rd t316 0))) (ds := []) #[false, false, false, false, false, false, false, false, false, false, false, false] (by kernel_rfl) rfl rfl (hx325_0) (fun hHeld => ?_); refine with_tabW impl_putWire.tab6 impl_putWire.bits6 (fun HT_ HW_ => ?_)
     generalize w12.drew = w14 at HO318 HB hx325_0 hHeld ⊢
     refine pure_ (i := 1) (N := some 25) (v := ?_) (a' := ?_) #[false, true, false, false, false, false, false, false, false, false, false, false] rfl rfl (any_of HT_.out (by kernel_rfl)) (fun _ _ _ h => h) (Or.inl ⟨by rfl, ?_⟩) ?_ ?_
     rotate_left
     ·intro w'
      go_simp
      with_reducible rfl
     rotate_left
     ·simp only [pz_]
      rfl
     refine pure_ (i := 3) (N := some 27) (v := ?_) (a' := ?_) #[false, true, false, true, false, false, false, false, false, false, false, false] rfl rfl (any_of HT_.out (by kernel_rfl)) (fun _ _ _ h => h) (Or.inl ⟨by rfl, ?_⟩) ?_ ?_
     rotate_left
     ·intro w'
      go_simp
      with_reducible rfl
     rotate_left
     ·simp only [pz_]
      rfl
     refine pure_ (i := 4) (N := some 28) (v := ?_) (a' := ?_) #[false, true, false, true, true, false, false, false, false, false, false, false] rfl rfl (any_of HT_.out (by kernel_rfl)) (fun _ _ _ h => h) (Or.inl ⟨by rfl, ?_⟩) ?_ ?_
     rotate_left
     ·intro w'
      go_simp
      with_reducible rfl
     rotate_left
     ·simp only [pz_]
      rfl
     refine pure_ (i := 5) (N := some 29) (v := ?_) (a' := ?_) #[false, true, false, true, true, true, false, false, false, false, false, false] rfl rfl (any_of HT_.out (by kernel_rfl)) (fun _ _ _ h => h) (Or.inl ⟨by rfl, ?_⟩) ?_ ?_
     rotate_left
     ·intro w'
      go_simp
      with_reducible rfl
     rotate_left
     ·simp only [pz_]
      rfl
     refine pure_ (i := 6) (N := some 30) (v := ?_) (a' := ?_) #[false, true, false, true, true, true, true, false, false, false, false, false] rfl rfl (any_of HT_.out (by kernel_rfl)) (fun _ _ _ h => h) (Or.inl ⟨by rfl, ?_⟩) ?_ ?_
     rotate_left
     ·intro w'
      go_simp
      with_reducible rfl
     rotate_left
     ·simp only [pz_]
      rfl
     refine take_ (i := 7) (N := some 31) (v := ?_) (a' := ?_) #[false, true, false, true, true, true, true, true, false, false, false, false] rfl rfl (take_ofW HT_.out HW_.out (by kernel_rfl)) (fun _ _ _ h => h) (Or.inl ⟨by rfl, ?_⟩) hHeld ?_ ?_
     rotate_left
     ·intro w' s0
      go_simp
      with_reducible rfl
     rotate_left
     ·simp only [pz_]
      rfl
     refine pure_ (i := 8) (N := some 32) (v := ?_) (a' := ?_) #[false, true, false, true, true, true, true, true, true, false, false, false] rfl rfl (any_of HT_.out (by kernel_rfl)) (fun _ _ _ h => h) (Or.inl ⟨by rfl, ?_⟩) ?_ ?_
     rotate_left
     ·intro w'
      go_simp
      with_reducible rfl
     rotate_left
     ·simp only [pz_]
      rfl
     refine join_ (σ := Value × Value × Value) 2 #[true, true, true, true, true, true, true, true, true, true, false, false] (fun s_ => [(24, s_.1), (26, s_.2.1), (33, s_.2.2)]) (fun s_ w' => (w'.cell? ad325 = some (.int .i64 (rd t316 0))) ∧ (Kd.R (Kd.int .i64) 2 w' w.heap.size (fun _ => True) (.slice (some ad325) t316.length co13) t316) ∧ (Kd.R k103 103 w' w.heap.size (fun k_ => some k_ ≠ (s_.2.2 : Value).ownBlock) s_.2.1 y322) ∧ (Kd.R k103 103 w' w.heap.size (fun k_ => some k_ ≠ (s_.2.1 : Value).ownBlock) s_.2.2 y326) ∧ (Below w.heap.size w w')) ?_ ?_
     rotate_left
     ·intro hCont
      refine two_ (i := 0) (j := 9) (Ni := some 24) (Nj := some 33) #[true, true, false, true, true, true, true, true, true, false, false, false] #[false, true, false, true, true, true, true, true, true, true, false, false] rfl rfl rfl rfl (two_of HT_.out (by kernel_rfl)) (by decide) (by decide) (fun K hK => ?_) (fun K hK => ?_)
      ·skip
       refine Kd.R_lit_step k103 _ 103 ?hg (N := 24) ?hd (xs := ([] : List (S103))) (inner := []) (ok := fun _ => True) (okp := fun _ => True) ?hr ?hp (fun _ hk => hk) trivial (Below.refl _ _) (Nat.le_refl _) (by simp) ?_; (case hd => rfl); (case hg => rfl); (case hr => first | (go_simp; done) | (go_simp; rfl)); (case hp => exact (Reps.none _ _))
       intro v320 w15 ho16 hb hg_ hnew_
       have HS0_ := (hb.cell (World.block_lt_of_cell? _ _ (hHeld))).trans (hHeld)
       clear hg_ hnew_
       (first | rw [← Ny319.out] at ho16 | (simp only [Int.reduceToNat] at ho16; rw [← Ny319.out] at ho16))
       have n0_ := Aside0.mk (Kd.R_below (by (with_reducible repeat (first | apply Kd.R_alloc | apply Kd.R_drewN | apply Kd.R_drew)); exact HO318.out) hb)
       have n1_ := Aside0.mk (Kd.R_lower ho16 (below_size (bl_ HB.out)))
       have n2_ := Aside0.mk (below_step (bl_ HB.out) hb)
       clear HO318
       clear HB
       have HO318 := n0_
       have HO321 := n1_
       have HB := n2_
       clear n0_ n1_ n2_
       clear hb ho16
       refine hK.out _ _ (HS0_) (fun hHeld => ?_)
       clear hK K
       refine norm_ (a' := ?_) ?_ ?_
       rotate_left
       ·show Act.put _ (some 24) _ = _
        simp only [pz_]
        rfl
       refine two_ (i := 2) (j := 9) (Ni := some 26) (Nj := some 33) #[true, true, true, true, true, true, true, true, true, false, false, false] #[true, true, false, true, true, true, true, true, true, true, false, false] rfl rfl rfl rfl (two_of HT_.out (by kernel_rfl)) (by decide) (by decide) (fun K hK => ?_) (fun K hK => ?_)
       ·skip
        refine Kd.R_append_rows_step k103 (w0 := w) w.heap.size (by rfl) (.tmp 24) (.tmp 25) 26 103 (.agg #[(.int .i64 0), (.int .i64 0), (.int .i64 0)]) 24 rfl Try.underlying26 info103 rfl (by decide) (by omega) v320 y319 l1 _ _ _ (fun _ => True) (fun _ => False) rfl rfl ?aO ?aR (fun _ _ h => h) (fun _ h => h.elim) ?aF ?aB ?aS ?aL ?_
        (case aR => repeat (first | exact (Kd.C_below HR1.out HB.out) | (with_reducible refine Kd.C_alloc ?_ _) | (with_reducible refine Kd.C_drewN ?_ _) | (with_reducible refine Kd.C_drew ?_)))
        (case aB => exact (bl_ HB.out))
        (case aF => exact (fun _ _ => trivial))
        (case aO => exact (by (with_reducible repeat (first | apply Kd.R_alloc | apply Kd.R_drewN | apply Kd.R_drew)); exact HO321.out))
        (case aS => exact (below_size (bl_ HB.out)))
        (case aL => have := LMc9.out; omega)
        intro v323 w17 ho hb hg hat
        have HS0_ := cell_grown hg (hHeld) (by obtain ⟨cs_, hc_⟩ := Kd.R_typed (HO318.out) _ rfl; exact Kd.R_ne (HO321.out) hc_ (by decide))
        rw [← Ny322.out] at ho
        have n0_ := Aside0.mk (Kd.R_over' (by (with_reducible repeat (first | apply Kd.R_alloc | apply Kd.R_drewN | apply Kd.R_drew)); exact HO318.out) (Kd.R_typed (by (with_reducible repeat (first | apply Kd.R_alloc | apply Kd.R_drewN | apply Kd.R_drew)); exact HO321.out)) (by decide) hg)
        have n1_ := Aside0.mk (hb)
        have n2_ := Aside0.mk (ho)
        clear HO318
        clear HB
        clear HO321
        have HO318 := n0_
        have HB := n1_
        have HO324 := n2_
        clear n0_ n1_ n2_
        clear ho hb hg hat
        refine hK.out _ _ (HS0_) (fun hHeld => ?_)
        clear hK K
        refine norm_ (a' := ?_) ?_ ?_
        rotate_left
        ·show Act.put _ (some 26) _ = _
         simp only [pz_]
         rfl
        refine one_ (i := 9) (N := some 33) #[true, true, true, true, true, true, true, true, true, true, false, false] rfl rfl (one_of HT_.out (by kernel_rfl)) (by decide) (fun K hK => ?_)
        refine Kd.R_lit_step k103 _ 103 ?hg (N := 33) ?hd (xs := ([(⟨a2, x14_1, rd t316 0⟩ : S103)] : List (S103))) (inner := [.int .i64 a2, .int .i64 x14_1, .int .i64 (rd t316 0)]) (ok := fun _ => True) (okp := fun _ => True) ?hr ?hp (fun _ hk => hk) trivial (Below.refl _ _) (Nat.le_refl _) (by simp) ?_; (case hd => rfl); (case hg => rfl); (case hr => first | (go_simp; done) | (go_simp; rfl)); (case hp => exact (Reps.c3 (show Kd.M k103 _ _ _ (⟨a2, x14_1, rd t316 0⟩ : S103) [.int .i64 a2, .int .i64 x14_1, .int .i64 (rd t316 0)] from (k103_mkM _ _ _ (⟨a2, x14_1, rd t316 0⟩ : S103) )) (Reps.none _ _)))
        intro v327 w18 ho19 hb hg_ hnew_
        have HS0_ := (hb.cell (World.block_lt_of_cell? _ _ (hHeld))).trans (hHeld)
        clear hg_ hnew_
        (first | rw [← Ny326.out] at ho19 | (simp only [Int.reduceToNat] at ho19; rw [← Ny326.out] at ho19))
        have n0_ := Aside0.mk (Kd.R_below (by (with_reducible repeat (first | apply Kd.R_alloc | apply Kd.R_drewN | apply Kd.R_drew)); exact HO318.out) hb)
        have n1_ := Aside0.mk (Kd.R_elder' (by (with_reducible repeat (first | apply Kd.R_alloc | apply Kd.R_drewN | apply Kd.R_drew)); exact HO324.out) (Kd.R_base ho19) hb)
        have n2_ := Aside0.mk (Kd.R_lower (Kd.R_new' ho19 (Kd.R_lt (by (with_reducible repeat (first | apply Kd.R_alloc | apply Kd.R_drewN | apply Kd.R_drew)); exact HO324.out))) (below_size (bl_ HB.out)))
        have n3_ := Aside0.mk (below_step (bl_ HB.out) hb)
        clear HO318
        clear HO324
        clear HB
        have HO318 := n0_
        have HO324 := n1_
        have HO328 := n2_
        have HB := n3_
        clear n0_ n1_ n2_ n3_
        clear hb ho19
        refine hK.out _ _ (HS0_) (fun hHeld => ?_)
        clear hK K
        refine norm_ (a' := ?_) ?_ ?_
        rotate_left
        ·show Act.put _ (some 33) _ = _
         simp only [pz_]
         rfl
        exact norm_ (by simp only [putAll, Act.put, List.setIfInBounds_toArray, List.set_cons_zero, List.set_cons_succ]) (hCont (v320, v323, v327) _ ⟨hHeld, (by (with_reducible repeat (first | apply Kd.R_alloc | apply Kd.R_drewN | apply Kd.R_drew)); exact HO318.out), (by (with_reducible repeat (first | apply Kd.R_alloc | apply Kd.R_drewN | apply Kd.R_drew)); exact Kd.R_mono HO324.out (fun _ hk => hk.2)), (by (with_reducible repeat (first | apply Kd.R_alloc | apply Kd.R_drewN | apply Kd.R_drew)); exact Kd.R_mono HO328.out (fun _ hk => hk.2)), (bl_ HB.out)⟩)
       ·skip
        refine Kd.R_lit_step k103 _ 103 ?hg (N := 33) ?hd (xs := ([(⟨a2, x14_1, rd t316 0⟩ : S103)] : List (S103))) (inner := [.int .i64 a2, .int .i64 x14_1, .int .i64 (rd t316 0)]) (ok := fun _ => True) (okp := fun _ => True) ?hr ?hp (fun _ hk => hk) trivial (Below.refl _ _) (Nat.le_refl _) (by simp) ?_; (case hd => rfl); (case hg => rfl); (case hr => first | (go_simp; done) | (go_simp; rfl)); (case hp => exact (Reps.c3 (show Kd.M k103 _ _ _ (⟨a2, x14_1, rd t316 0⟩ : S103) [.int .i64 a2, .int .i64 x14_1, .int .i64 (rd t316 0)] from (k103_mkM _ _ _ (⟨a2, x14_1, rd t316 0⟩ : S103) )) (Reps.none _ _)))
        intro v327 w17 ho18 hb hg_ hnew_
        have HS0_ := (hb.cell (World.block_lt_of_cell? _ _ (hHeld))).trans (hHeld)
        clear hg_ hnew_
        (first | rw [← Ny326.out] at ho18 | (simp only [Int.reduceToNat] at ho18; rw [← Ny326.out] at ho18))
        have n0_ := Aside0.mk (Kd.R_below (by (with_reducible repeat (first | apply Kd.R_alloc | apply Kd.R_drewN | apply Kd.R_drew)); exact HO318.out) hb)
        have n1_ := Aside0.mk (Kd.R_elder' (by (with_reducible repeat (first | apply Kd.R_alloc | apply Kd.R_drewN | apply Kd.R_drew)); exact HO321.out) (Kd.R_base ho18) hb)
        have n2_ := Aside0.mk (Kd.R_lower (Kd.R_new' ho18 (Kd.R_lt (by (with_reducible repeat (first | apply Kd.R_alloc | apply Kd.R_drewN | apply Kd.R_drew)); exact HO321.out))) (below_size (bl_ HB.out)))
        have n3_ := Aside0.mk (below_step (bl_ HB.out) hb)
        clear HO318
        clear HO321
        clear HB
        have HO318 := n0_
        have HO321 := n1_
        have HO328 := n2_
        have HB := n3_
        clear n0_ n1_ n2_ n3_
        clear hb ho18
        refine hK.out _ _ (HS0_) (fun hHeld => ?_)
        clear hK K
        refine norm_ (a' := ?_) ?_ ?_
        rotate_left
        ·show Act.put _ (some 33) _ = _
         simp only [pz_]
         rfl
        refine one_ (i := 2) (N := some 26) #[true, true, true, true, true, true, true, true, true, true, false, false] rfl rfl (one_of HT_.out (by kernel_rfl)) (by decide) (fun K hK => ?_)
        refine Kd.R_append_rows_step k103 (w0 := w) w.heap.size (by rfl) (.tmp 24) (.tmp 25) 26 103 (.agg #[(.int .i64 0), (.int .i64 0), (.int .i64 0)]) 24 rfl Try.underlying26 info103 rfl (by decide) (by omega) v320 y319 l1 _ _ _ (fun k_ => some k_ ≠ (v327 : Value).ownBlock) (fun _ => False) rfl rfl ?aO ?aR (fun _ _ h => h) (fun _ h => h.elim) ?aF ?aB ?aS ?aL ?_
        (case aR => repeat (first | exact (Kd.C_below HR1.out HB.out) | (with_reducible refine Kd.C_alloc ?_ _) | (with_reducible refine Kd.C_drewN ?_ _) | (with_reducible refine Kd.C_drew ?_)))
        (case aB => exact (bl_ HB.out))
        (case aF => exact (fun k_ hk => Kd.fresh' (Kd.R_lt (by (with_reducible repeat (first | apply Kd.R_alloc | apply Kd.R_drewN | apply Kd.R_drew)); exact HO328.out)) k_ hk))
        (case aO => exact (by (with_reducible repeat (first | apply Kd.R_alloc | apply Kd.R_drewN | apply Kd.R_drew)); exact Kd.R_mono HO321.out (fun _ hk => hk.2)))
        (case aS => exact (below_size (bl_ HB.out)))
        (case aL => have := LMc9.out; omega)
        intro v323 w19 ho hb hg hat
        have HS0_ := cell_grown hg (hHeld) (by obtain ⟨cs_, hc_⟩ := Kd.R_typed (HO318.out) _ rfl; exact Kd.R_ne (HO321.out) hc_ (by decide))
        rw [← Ny322.out] at ho
        have n0_ := Aside0.mk (Kd.R_over' (by (with_reducible repeat (first | apply Kd.R_alloc | apply Kd.R_drewN | apply Kd.R_drew)); exact HO318.out) (Kd.R_typed (by (with_reducible repeat (first | apply Kd.R_alloc | apply Kd.R_drewN | apply Kd.R_drew)); exact HO321.out)) (by decide) hg)
        have n1_ := Aside0.mk (Kd.R_after (ok := (fun _ => True)) (by (with_reducible repeat (first | apply Kd.R_alloc | apply Kd.R_drewN | apply Kd.R_drew)); exact HO328.out) hg hat)
        have n2_ := Aside0.mk (hb)
        have n3_ := Aside0.mk (ho)
        clear HO318
        clear HO328
        clear HB
        clear HO321
        have HO318 := n0_
        have HO328 := n1_
        have HB := n2_
        have HO324 := n3_
        clear n0_ n1_ n2_ n3_
        clear ho hb hg hat
        refine hK.out _ _ (HS0_) (fun hHeld => ?_)
        clear hK K
        refine norm_ (a' := ?_) ?_ ?_
        rotate_left
        ·show Act.put _ (some 26) _ = _
         simp only [pz_]
         rfl
        exact norm_ (by simp only [putAll, Act.put, List.setIfInBounds_toArray, List.set_cons_zero, List.set_cons_succ]) (hCont (v320, v323, v327) _ ⟨hHeld, (by (with_reducible repeat (first | apply Kd.R_alloc | apply Kd.R_drewN | apply Kd.R_drew)); exact HO318.out), (by (with_reducible repeat (first | apply Kd.R_alloc | apply Kd.R_drewN | apply Kd.R_drew)); exact HO324.out), (by (with_reducible repeat (first | apply Kd.R_alloc | apply Kd.R_drewN | apply Kd.R_drew)); exact Kd.R_mono HO328.out (fun _ hk => hk.2)), (bl_ HB.out)⟩)
      ·skip
       refine Kd.R_lit_step k103 _ 103 ?hg (N := 33) ?hd (xs := ([(⟨a2, x14_1, rd t316 0⟩ : S103)] : List (S103))) (inner := [.int .i64 a2, .int .i64 x14_1, .int .i64 (rd t316 0)]) (ok := fun _ => True) (okp := fun _ => True) ?hr ?hp (fun _ hk => hk) trivial (Below.refl _ _) (Nat.le_refl _) (by simp) ?_; (case hd => rfl); (case hg => rfl); (case hr => first | (go_simp; done) | (go_simp; rfl)); (case hp => exact (Reps.c3 (show Kd.M k103 _ _ _ (⟨a2, x14_1, rd t316 0⟩ : S103) [.int .i64 a2, .int .i64 x14_1, .int .i64 (rd t316 0)] from (k103_mkM _ _ _ (⟨a2, x14_1, rd t316 0⟩ : S103) )) (Reps.none _ _)))
       intro v327 w15 ho16 hb hg_ hnew_
       have HS0_ := (hb.cell (World.block_lt_of_cell? _ _ (hHeld))).trans (hHeld)
       clear hg_ hnew_
       (first | rw [← Ny326.out] at ho16 | (simp only [Int.reduceToNat] at ho16; rw [← Ny326.out] at ho16))
       have n0_ := Aside0.mk (Kd.R_below (by (with_reducible repeat (first | apply Kd.R_alloc | apply Kd.R_drewN | apply Kd.R_drew)); exact HO318.out) hb)
       have n1_ := Aside0.mk (Kd.R_lower ho16 (below_size (bl_ HB.out)))
       have n2_ := Aside0.mk (below_step (bl_ HB.out) hb)
       clear HO318
       clear HB
       have HO318 := n0_
       have HO328 := n1_
       have HB := n2_
       clear n0_ n1_ n2_
       clear hb ho16
       refine hK.out _ _ (HS0_) (fun hHeld => ?_)
       clear hK K
       refine norm_ (a' := ?_) ?_ ?_
       rotate_left
       ·show Act.put _ (some 33) _ = _
        simp only [pz_]
        rfl
       refine one_ (i := 0) (N := some 24) #[true, true, false, true, true, true, true, true, true, true, false, false] rfl rfl (one_of HT_.out (by kernel_rfl)) (by decide) (fun K hK => ?_)
       refine Kd.R_lit_step k103 _ 103 ?hg (N := 24) ?hd (xs := ([] : List (S103))) (inner := []) (ok := fun _ => True) (okp := fun _ => True) ?hr ?hp (fun _ hk => hk) trivial (Below.refl _ _) (Nat.le_refl _) (by simp) ?_; (case hd => rfl); (case hg => rfl); (case hr => first | (go_simp; done) | (go_simp; rfl)); (case hp => exact (Reps.none _ _))
       intro v320 w17 ho18 hb hg_ hnew_
       have HS0_ := (hb.cell (World.block_lt_of_cell? _ _ (hHeld))).trans (hHeld)
       clear hg_ hnew_
       (first | rw [← Ny319.out] at ho18 | (simp only [Int.reduceToNat] at ho18; rw [← Ny319.out] at ho18))
       have n0_ := Aside0.mk (Kd.R_below (by (with_reducible repeat (first | apply Kd.R_alloc | apply Kd.R_drewN | apply Kd.R_drew)); exact HO318.out) hb)
       have n1_ := Aside0.mk (Kd.R_elder' (by (with_reducible repeat (first | apply Kd.R_alloc | apply Kd.R_drewN | apply Kd.R_drew)); exact HO328.out) (Kd.R_base ho18) hb)
       have n2_ := Aside0.mk (Kd.R_lower (Kd.R_new' ho18 (Kd.R_lt (by (with_reducible repeat (first | apply Kd.R_alloc | apply Kd.R_drewN | apply Kd.R_drew)); exact HO328.out))) (below_size (bl_ HB.out)))
       have n3_ := Aside0.mk (below_step (bl_ HB.out) hb)
       clear HO318
       clear HO328
       clear HB
       have HO318 := n0_
       have HO328 := n1_
       have HO321 := n2_
       have HB := n3_
       clear n0_ n1_ n2_ n3_
       clear hb ho18
       refine hK.out _ _ (HS0_) (fun hHeld => ?_)
       clear hK K
       refine norm_ (a' := ?_) ?_ ?_
       rotate_left
       ·show Act.put _ (some 24) _ = _
        simp only [pz_]
        rfl
       refine one_ (i := 2) (N := some 26) #[true, true, true, true, true, true, true, true, true, true, false, false] rfl rfl (one_of HT_.out (by kernel_rfl)) (by decide) (fun K hK => ?_)
       refine Kd.R_append_rows_step k103 (w0 := w) w.heap.size (by rfl) (.tmp 24) (.tmp 25) 26 103 (.agg #[(.int .i64 0), (.int .i64 0), (.int .i64 0)]) 24 rfl Try.underlying26 info103 rfl (by decide) (by omega) v320 y319 l1 _ _ _ (fun k_ => some k_ ≠ (v327 : Value).ownBlock) (fun _ => False) rfl rfl ?aO ?aR (fun _ _ h => h) (fun _ h => h.elim) ?aF ?aB ?aS ?aL ?_
       (case aR => repeat (first | exact (Kd.C_below HR1.out HB.out) | (with_reducible refine Kd.C_alloc ?_ _) | (with_reducible refine Kd.C_drewN ?_ _) | (with_reducible refine Kd.C_drew ?_)))
       (case aB => exact (bl_ HB.out))
       (case aF => exact (fun k_ hk => Kd.fresh' (Kd.R_lt (by (with_reducible repeat (first | apply Kd.R_alloc | apply Kd.R_drewN | apply Kd.R_drew)); exact HO328.out)) k_ hk))
       (case aO => exact (by (with_reducible repeat (first | apply Kd.R_alloc | apply Kd.R_drewN | apply Kd.R_drew)); exact Kd.R_mono HO321.out (fun _ hk => hk.2)))
       (case aS => exact (below_size (bl_ HB.out)))
       (case aL => have := LMc9.out; omega)
       intro v323 w19 ho hb hg hat
       have HS0_ := cell_grown hg (hHeld) (by obtain ⟨cs_, hc_⟩ := Kd.R_typed (HO318.out) _ rfl; exact Kd.R_ne (HO321.out) hc_ (by decide))
       rw [← Ny322.out] at ho
       have n0_ := Aside0.mk (Kd.R_over' (by (with_reducible repeat (first | apply Kd.R_alloc | apply Kd.R_drewN | apply Kd.R_drew)); exact HO318.out) (Kd.R_typed (by (with_reducible repeat (first | apply Kd.R_alloc | apply Kd.R_drewN | apply Kd.R_drew)); exact HO321.out)) (by decide) hg)
       have n1_ := Aside0.mk (Kd.R_after (ok := (fun _ => True)) (by (with_reducible repeat (first | apply Kd.R_alloc | apply Kd.R_drewN | apply Kd.R_drew)); exact HO328.out) hg hat)
       have n2_ := Aside0.mk (hb)
       have n3_ := Aside0.mk (ho)
       clear HO318
       clear HO328
       clear HB
       clear HO321
       have HO318 := n0_
       have HO328 := n1_
       have HB := n2_
       have HO324 := n3_
       clear n0_ n1_ n2_ n3_
       clear ho hb hg hat
       refine hK.out _ _ (HS0_) (fun hHeld => ?_)
       clear hK K
       refine norm_ (a' := ?_) ?_ ?_
       rotate_left
       ·show Act.put _ (some 26) _ = _
        simp only [pz_]
        rfl
       exact norm_ (by simp only [putAll, Act.put, List.setIfInBounds_toArray, List.set_cons_zero, List.set_cons_succ]) (hCont (v320, v323, v327) _ ⟨hHeld, (by (with_reducible repeat (first | apply Kd.R_alloc | apply Kd.R_drewN | apply Kd.R_drew)); exact HO318.out), (by (with_reducible repeat (first | apply Kd.R_alloc | apply Kd.R_drewN | apply Kd.R_drew)); exact HO324.out), (by (with_reducible repeat (first | apply Kd.R_alloc | apply Kd.R_drewN | apply Kd.R_drew)); exact Kd.R_mono HO328.out (fun _ hk => hk.2)), (bl_ HB.out)⟩)
     rintro ⟨v320, v323, v327⟩ w20 ⟨hS_, h0_, h1_, h2_, h3_⟩
     have n0_ : Aside0 (Kd.R (Kd.int .i64) 2 w20 w.heap.size (fun _ => True) (.slice (some ad325) t316.length co13) t316) := ⟨h0_⟩
     have n1_ : Aside0 (Kd.R k103 103 w20 w.heap.size (fun k_ => some k_ ≠ (v327 : Value).ownBlock) v323 y322) := ⟨h1_⟩
     have n2_ : Aside0 (Kd.R k103 103 w20 w.heap.size (fun k_ => some k_ ≠ (v323 : Value).ownBlock) v327 y326) := ⟨h2_⟩
     have n3_ : Aside0 (Below w.heap.size w w20) := ⟨h3_⟩
     clear HO318
     clear HB
     clear h0_ h1_ h2_ h3_
     have HO318 := n0_
     have HO324 := n1_
     have HO328 := n2_
     have HB := n3_
     clear n0_ n1_ n2_ n3_
     have hHeld : w20.cell? ad325 = some (.int .i64 (rd t316 0)) := hS_
     obtain ⟨Ao22, co22, eo22⟩ := Kd.R_slice HO328.out
     (first | subst eo22 | (injection eo22 with f1_ f2_ f3_; have f4_ := f1_.symm; have f5_ := f3_.symm; clear f1_ f2_ f3_; subst f4_; subst f5_))
     refine norm_ (a' := ?_) ?_ ?_
     rotate_left
     ·simp only [putAll, Act.put, List.setIfInBounds_toArray, List.set_cons_zero, List.set_cons_succ]
      rfl
     refine one_ (i := 10) (N := some 34) #[true, true, true, true, true, true, true, true, true, true, true, false] rfl rfl (one_of HT_.out (by kernel_rfl)) (by decide) (fun K hK => ?_)
     refine Kd.R_append_rows_step k103 (w0 := w) w.heap.size (by rfl) (.tmp 26) (.tmp 33) 26 103 (.agg #[(.int .i64 0), (.int .i64 0), (.int .i64 0)]) 24 rfl Try.underlying26 info103 rfl (by decide) (by omega) v323 y322 y326 _ _ _ (fun k_ => some k_ ≠ (.slice Ao22 y326.length co22 : Value).ownBlock) (fun _ => False) rfl rfl ?aO ?aR (fun _ _ h => h) (fun _ h => h.elim) ?aF ?aB ?aS ?aL ?_
     (case aR => repeat (first | exact (Kd.R_reads' HO328.out).2.2 | (with_reducible refine Kd.C_alloc ?_ _) | (with_reducible refine Kd.C_drewN ?_ _) | (with_reducible refine Kd.C_drew ?_)))
     (case aB => exact (bl_ HB.out))
     (case aF => exact (fun k_ hk => Kd.fresh' (Kd.R_lt (by (with_reducible repeat (first | apply Kd.R_alloc | apply Kd.R_drewN | apply Kd.R_drew)); exact HO328.out)) k_ hk))
     (case aO => exact (by (with_reducible repeat (first | apply Kd.R_alloc | apply Kd.R_drewN | apply Kd.R_drew)); exact HO324.out))
     (case aS => exact (below_size (bl_ HB.out)))
     (case aL => have := LMc11.out; omega)
     intro v330 w21 ho hb hg hat
     have HS0_ := cell_grown hg (hHeld) (by obtain ⟨cs_, hc_⟩ := Kd.R_typed (HO318.out) _ rfl; exact Kd.R_ne (HO324.out) hc_ (by decide))
     rw [← Ny329.out] at ho
     have n0_ := Aside0.mk (Kd.R_over' (by (with_reducible repeat (first | apply Kd.R_alloc | apply Kd.R_drewN | apply Kd.R_drew)); exact HO318.out) (Kd.R_typed (by (with_reducible repeat (first | apply Kd.R_alloc | apply Kd.R_drewN | apply Kd.R_drew)); exact HO324.out)) (by decide) hg)
     have n1_ := Aside0.mk (Kd.R_after (ok := (fun _ => True)) (by (with_reducible repeat (first | apply Kd.R_alloc | apply Kd.R_drewN | apply Kd.R_drew)); exact Kd.R_mono HO328.out (fun _ hk => ⟨trivial, hk⟩)) hg hat)
     have n2_ := Aside0.mk (hb)
     have n3_ := Aside0.mk (ho)
     clear HO318
     clear HO328
     clear HB
     clear HO324
     have HO318 := n0_
     have HO328 := n1_
     have HB := n2_
     have HO331 := n3_
     clear n0_ n1_ n2_ n3_
     clear ho hb hg hat
     refine hK.out _ _ (HS0_) (fun hHeld => ?_)
     clear hK K
     refine norm_ (a' := ?_) ?_ ?_
     rotate_left
     ·show Act.put _ (some 34) _ = _
      simp only [pz_]
      rfl
     refine pure_ (i := 11) (N := some 10) (v := ?_) (a' := ?_) #[true, true, true, true, true, true, true, true, true, true, true, true] rfl rfl (any_of HT_.out (by kernel_rfl)) (fun _ _ _ h => h) (Or.inl ⟨by rfl, ?_⟩) ?_ ?_
     rotate_left
     ·intro w'
      go_simp
      with_reducible rfl
     rotate_left
     ·simp only [pz_]
      rfl
     refine done_ (done_of HT_.out (by kernel_rfl)) ?_
     obtain ⟨Ao23, co23, eo23⟩ := Kd.R_slice HO331.out
     subst eo23
     try go_wp2
     go_loopg [11] k1 (fun kq v11 w' => ∃ (x10_2 : List (S103)) (x11_2 : Int), v11 = .int .i64 x11_2 ∧ Aside0 (impl_putWire.l1 kq x10_2 x11_2 = some (r1, r2)) ∧ Aside0 (kq ≤ k1) ∧ Aside0 (Kd.R k103 103 w' w.heap.size (fun _ => True) (.slice Ao23 y329.length co23) x10_2) ∧ Aside0 (Below w.heap.size w w'))
     case atStart => exact ⟨(y329), (wrap64 ((y329.length : Int) - 1)), (by first | rfl | (simp; done) | (simp [*]; done)), H', ⟨Nat.le_refl _⟩, ⟨by (with_reducible repeat (first | apply Kd.R_alloc | apply Kd.R_drewN | apply Kd.R_drew)); exact Kd.R_mono HO331.out (fun _ hk => trivial)⟩, ⟨bl_ HB.out⟩⟩
     case round =>
      clear H'
      try clear c1
      try clear p2
      try clear c3
      try clear p3
      try clear q3
      try clear hx3
      try clear qi3
      try clear c4
      try clear c4b0
      try clear c6
      try clear c6b0
      try clear c6b1
      try clear c6b2
      try clear p6
      try clear c8
      try clear c9
      try clear c10
      try clear c10b0
      try clear c10b1
      try clear c11
      try clear c12
      try clear hx325_0
      try clear p2
      try clear p325
      try clear q325
      obtain ⟨x10_2, x11_2, rfl, HA, HK2, HO_10, HB⟩ := hrel
      have hl10_2 := (Kd.R_reads' HO_10.out).1
      rw [hl10_2] at HO_10
      (try simp only [hl10_2])
      cases gk with
      | zero => exact absurd HA.out (by simp [impl_putWire.l1])
      | succ k2 =>
       have H := HA.out
       clear HA
       simp only [impl_putWire.l1] at H
       by_cases c24 : x11_2 > 0
       ·rw [if_pos c24] at H
        have c24b0 : decide (0 < x11_2) = true := decide_eq_true c24
        clear c24
        obtain ⟨ji25, hji25⟩ : ∃ j_ : Int, (wrap64 (x11_2 - 1)) = j_ := ⟨_, rfl⟩
        replace H : (if 0 ≤ (ji25) then (if (ji25) < (x10_2.length : Int) then (if 0 ≤ x11_2 then (if x11_2 < (x10_2.length : Int) then (if ((rd_T103 x10_2 (ji25)).f0) > ((rd_T103 x10_2 x11_2).f0) then (impl_putWire.l1 k2 ((x10_2.set ((ji25) : Int).toNat (⟨(rd_T103 x10_2 x11_2).f0, (rd_T103 x10_2 x11_2).f1, (rd_T103 x10_2 x11_2).f2⟩ : S103)).set (x11_2 : Int).toNat (⟨(rd_T103 x10_2 (ji25)).f0, (rd_T103 x10_2 (ji25)).f1, (rd_T103 x10_2 (ji25)).f2⟩ : S103)) ji25) else (some (x10_2, true))) else (none)) else (none)) else (none)) else (none)) = some (r1, r2) := by first | (rw [hji25] at H; exact H) | (simp only [hji25] at H ⊢; exact H)
        have hji25w : (IntKind.i64.wrap (x11_2 - 1)) = ji25 := (i64_w _).trans hji25
        by_cases c26 : 0 ≤ (ji25)
        case neg =>
         rw [if_neg c26] at H
         exact absurd H (by simp)
        rw [if_pos c26] at H
        have c26b0 : decide (0 ≤ (ji25)) = true := decide_eq_true c26
        clear c26
        by_cases c27 : (ji25) < (x10_2.length : Int)
        case neg =>
         rw [if_neg c27] at H
         exact absurd H (by simp)
        rw [if_pos c27] at H
        have c27b0 : decide ((ji25) < (x10_2.length : Int)) = true := decide_eq_true c27
        clear c27
        by_cases c28 : 0 ≤ x11_2
        case neg =>
         rw [if_neg c28] at H
         exact absurd H (by simp)
        rw [if_pos c28] at H
        have c28b0 : decide (0 ≤ x11_2) = true := decide_eq_true c28
        clear c28
        by_cases c29 : x11_2 < (x10_2.length : Int)
        case neg =>
         rw [if_neg c29] at H
         exact absurd H (by simp)
        rw [if_pos c29] at H
        have c29b0 : decide (x11_2 < (x10_2.length : Int)) = true := decide_eq_true c29
        clear c29
        by_cases c30 : ((rd_T103 x10_2 (ji25)).f0) > ((rd_T103 x10_2 x11_2).f0)
        ·rw [if_pos c30] at H
         have c30b0 : decide (((rd_T103 x10_2 x11_2).f0) < ((rd_T103 x10_2 (ji25)).f0)) = true := decide_eq_true c30
         clear c30
         obtain ⟨y336, hy336⟩ : ∃ y_ : List (S103), y_ = (x10_2.set ((ji25) : Int).toNat (⟨(rd_T103 x10_2 x11_2).f0, (rd_T103 x10_2 x11_2).f1, (rd_T103 x10_2 x11_2).f2⟩ : S103)) := ⟨_, rfl⟩
         replace H : (impl_putWire.l1 k2 (y336.set (x11_2 : Int).toNat (⟨(rd_T103 x10_2 (ji25)).f0, (rd_T103 x10_2 (ji25)).f1, (rd_T103 x10_2 (ji25)).f2⟩ : S103)) ji25) = some (r1, r2) := by first | (rw [hy336]; with_reducible exact H) | (have H2_ := (Option.bind_some _ _).symm.trans H; rw [hy336]; with_reducible exact H2_) | (have H2_ := (Option.bind_some _ _).symm.trans H; with_reducible exact H2_) | with_reducible exact H | (rw [hy336]; exact H) | exact H
         have Ny336 := Aside0.mk hy336
         clear hy336
         obtain ⟨y337, hy337⟩ : ∃ y_ : List (S103), y_ = (y336.set (x11_2 : Int).toNat (⟨(rd_T103 x10_2 (ji25)).f0, (rd_T103 x10_2 (ji25)).f1, (rd_T103 x10_2 (ji25)).f2⟩ : S103)) := ⟨_, rfl⟩
         replace H : (impl_putWire.l1 k2 y337 ji25) = some (r1, r2) := by first | (rw [hy337]; with_reducible exact H) | (have H2_ := (Option.bind_some _ _).symm.trans H; rw [hy337]; with_reducible exact H2_) | (have H2_ := (Option.bind_some _ _).symm.trans H; with_reducible exact H2_) | with_reducible exact H | (rw [hy337]; exact H) | exact H
         have Ny337 := Aside0.mk hy337
         clear hy337
         have H' := Aside0.mk H
         clear H
         try go_wp2
         have n0_ := Aside0.mk (Kd.R_drew HO_10.out)
         have n1_ := Aside0.mk (below_drew1 HB.out)
         clear HO_10
         clear HB
         have HO_10 := n0_
         have HB := n1_
         clear n0_ n1_
         have p332 : 0 ≤ ((ji25) : Int) := od_
         have q332 : (ji25) < (x10_2.length : Int) := od_
         obtain ⟨ad332, e332, hx332_0, hx332_1, hx332_2⟩ := at_T103 (Kd.R_reads' HO_10.out).2.2 (ji25) p332 q332
         cases e332
         replace p332 := eq_true p332
         replace q332 := eq_true q332
         have p333 : 0 ≤ (x11_2 : Int) := od_
         have q333 : x11_2 < (x10_2.length : Int) := od_
         obtain ⟨ad333, e333, hx333_0, hx333_1, hx333_2⟩ := at_T103 (Kd.R_reads' HO_10.out).2.2 x11_2 p333 q333
         obtain rfl : ad332 = ad333 := (by injection e333)
         replace p333 := eq_true p333
         replace q333 := eq_true q333
         refine start_ (n := 16) (S := fun w' => w'.cell? (ad332.add (((ji25)).toNat * 3)) = some (.int .i64 ((rd_T103 x10_2 (ji25)).f0)) ∧ w'.cell? ⟨(ad332.add (((ji25)).toNat * 3)).block, (ad332.add (((ji25)).toNat * 3)).off + 1, none⟩ = some (.int .i64 ((rd_T103 x10_2 (ji25)).f1)) ∧ w'.cell? ⟨(ad332.add (((ji25)).toNat * 3)).block, (ad332.add (((ji25)).toNat * 3)).off + 2, none⟩ = some (.int .i64 ((rd_T103 x10_2 (ji25)).f2)) ∧ w'.cell? (ad332.add ((x11_2).toNat * 3)) = some (.int .i64 ((rd_T103 x10_2 x11_2).f0)) ∧ w'.cell? ⟨(ad332.add ((x11_2).toNat * 3)).block, (ad332.add ((x11_2).toNat * 3)).off + 1, none⟩ = some (.int .i64 ((rd_T103 x10_2 x11_2).f1)) ∧ w'.cell? ⟨(ad332.add ((x11_2).toNat * 3)).block, (ad332.add ((x11_2).toNat * 3)).off + 2, none⟩ = some (.int .i64 ((rd_T103 x10_2 x11_2).f2))) (ds := []) #[false, false, false, false, false, false, false, false, false, false, false, false, false, false, false, false] (by kernel_rfl) rfl rfl ⟨hx332_0, hx332_1, hx332_2, hx333_0, hx333_1, hx333_2⟩ (fun hHeld => ?_); refine with_tabW impl_putWire.tab8 impl_putWire.bits8 (fun HT_ HW_ => ?_)
         generalize wr.drew = w33 at HO_10 HB hx332_0 hx332_1 hx332_2 hx333_0 hx333_1 hx333_2 hHeld ⊢
         refine pure_ (i := 0) (N := some 38) (v := ?_) (a' := ?_) #[true, false, false, false, false, false, false, false, false, false, false, false, false, false, false, false] rfl rfl (any_of HT_.out (by kernel_rfl)) (fun _ _ _ h => h) (Or.inl ⟨by rfl, ?_⟩) ?_ ?_
         rotate_left
         ·intro w'
          go_simp
          with_reducible rfl
         rotate_left
         ·simp only [pz_]
          rfl
         refine pure_ (i := 1) (N := some 39) (v := ?_) (a' := ?_) #[true, true, false, false, false, false, false, false, false, false, false, false, false, false, false, false] rfl rfl (any_of HT_.out (by kernel_rfl)) (fun _ _ _ h => h) (Or.inl ⟨by rfl, ?_⟩) ?_ ?_
         rotate_left
         ·intro w'
          go_simp
          with_reducible rfl
         rotate_left
         ·simp only [pz_]
          rfl
         refine pure_ (i := 2) (N := some 40) (v := ?_) (a' := ?_) #[true, true, true, false, false, false, false, false, false, false, false, false, false, false, false, false] rfl rfl (any_of HT_.out (by kernel_rfl)) (fun _ _ _ h => h) (Or.inl ⟨by rfl, ?_⟩) ?_ ?_
         rotate_left
         ·intro w'
          go_simp
          with_reducible rfl
         rotate_left
         ·simp only [pz_]
          rfl
         refine pure_ (i := 3) (N := some 41) (v := ?_) (a' := ?_) #[true, true, true, true, false, false, false, false, false, false, false, false, false, false, false, false] rfl rfl (any_of HT_.out (by kernel_rfl)) (fun _ _ _ h => h) (Or.inl ⟨by rfl, ?_⟩) ?_ ?_
         rotate_left
         ·intro w'
          go_simp
          with_reducible rfl
         rotate_left
         ·simp only [pz_]
          rfl
         refine pure_ (i := 4) (N := some 42) (v := ?_) (a' := ?_) #[true, true, true, true, true, false, false, false, false, false, false, false, false, false, false, false] rfl rfl (any_of HT_.out (by kernel_rfl)) (fun _ _ _ h => h) (Or.inl ⟨by rfl, ?_⟩) ?_ ?_
         rotate_left
         ·intro w'
          go_simp
          with_reducible rfl
         rotate_left
         ·simp only [pz_]
          rfl
         refine pure_ (i := 5) (N := some 43) (v := ?_) (a' := ?_) #[true, true, true, true, true, true, false, false, false, false, false, false, false, false, false, false] rfl rfl (any_of HT_.out (by kernel_rfl)) (fun _ _ _ h => h) (Or.inl ⟨by rfl, ?_⟩) ?_ ?_
         rotate_left
         ·intro w'
          go_simp
          with_reducible rfl
         rotate_left
         ·simp only [pz_]
          rfl
         refine pure_ (i := 6) (N := some 44) (v := ?_) (a' := ?_) #[true, true, true, true, true, true, true, false, false, false, false, false, false, false, false, false] rfl rfl (any_of HT_.out (by kernel_rfl)) (fun _ _ _ h => h) (Or.inl ⟨by rfl, ?_⟩) ?_ ?_
         rotate_left
         ·intro w'
          go_simp
          with_reducible rfl
         rotate_left
         ·simp only [pz_]
          rfl
         refine pure_ (i := 7) (N := some 45) (v := ?_) (a' := ?_) #[true, true, true, true, true, true, true, true, false, false, false, false, false, false, false, false] rfl rfl (any_of HT_.out (by kernel_rfl)) (fun _ _ _ h => h) (Or.inl ⟨by rfl, ?_⟩) ?_ ?_
         rotate_left
         ·intro w'
          go_simp
          with_reducible rfl
         rotate_left
         ·simp only [pz_]
          rfl
         refine pure_ (i := 9) (N := some 47) (v := ?_) (a' := ?_) #[true, true, true, true, true, true, true, true, false, true, false, false, false, false, false, false] rfl rfl (any_of HT_.out (by kernel_rfl)) (fun _ _ _ h => h) (Or.inl ⟨by rfl, ?_⟩) ?_ ?_
         rotate_left
         ·intro w'
          go_simp
          with_reducible rfl
         rotate_left
         ·simp only [pz_]
          rfl
         refine pure_ (i := 10) (N := some 48) (v := ?_) (a' := ?_) #[true, true, true, true, true, true, true, true, false, true, true, false, false, false, false, false] rfl rfl (any_of HT_.out (by kernel_rfl)) (fun _ _ _ h => h) (Or.inl ⟨by rfl, ?_⟩) ?_ ?_
         rotate_left
         ·intro w'
          go_simp
          with_reducible rfl
         rotate_left
         ·simp only [pz_]
          rfl
         refine pure_ (i := 11) (N := some 49) (v := ?_) (a' := ?_) #[true, true, true, true, true, true, true, true, false, true, true, true, false, false, false, false] rfl rfl (any_of HT_.out (by kernel_rfl)) (fun _ _ _ h => h) (Or.inl ⟨by rfl, ?_⟩) ?_ ?_
         rotate_left
         ·intro w'
          go_simp
          with_reducible rfl
         rotate_left
         ·simp only [pz_]
          rfl
         refine pure_ (i := 12) (N := some 50) (v := ?_) (a' := ?_) #[true, true, true, true, true, true, true, true, false, true, true, true, true, false, false, false] rfl rfl (any_of HT_.out (by kernel_rfl)) (fun _ _ _ h => h) (Or.inl ⟨by rfl, ?_⟩) ?_ ?_
         rotate_left
         ·intro w'
          go_simp
          with_reducible rfl
         rotate_left
         ·simp only [pz_]
          rfl
         refine take_ (i := 8) (N := some 46) (v := ?_) (a' := ?_) #[true, true, true, true, true, true, true, true, true, true, true, true, true, false, false, false] rfl rfl (take_ofW HT_.out HW_.out (by kernel_rfl)) (fun _ _ _ h => h) (Or.inl ⟨by rfl, ?_⟩) hHeld ?_ ?_
         rotate_left
         ·rintro w' ⟨s0, s1, s2, s3, s4, s5⟩
          go_simp
          with_reducible rfl
         rotate_left
         ·simp only [pz_]
          rfl
         refine take_ (i := 13) (N := some 51) (v := ?_) (a' := ?_) #[true, true, true, true, true, true, true, true, true, true, true, true, true, true, false, false] rfl rfl (take_ofW HT_.out HW_.out (by kernel_rfl)) (fun _ _ _ h => h) (Or.inl ⟨by rfl, ?_⟩) hHeld ?_ ?_
         rotate_left
         ·rintro w' ⟨s0, s1, s2, s3, s4, s5⟩
          go_simp
          with_reducible rfl
         rotate_left
         ·simp only [pz_]
          rfl
         refine pure_ (i := 14) (N := some 52) (v := ?_) (a' := ?_) #[true, true, true, true, true, true, true, true, true, true, true, true, true, true, true, false] rfl rfl (any_of HT_.out (by kernel_rfl)) (fun _ _ _ h => h) (Or.inl ⟨by rfl, ?_⟩) ?_ ?_
         rotate_left
         ·intro w'
          go_simp
          with_reducible rfl
         rotate_left
         ·simp only [pz_]
          rfl
         refine pure_ (i := 15) (N := some 53) (v := ?_) (a' := ?_) #[true, true, true, true, true, true, true, true, true, true, true, true, true, true, true, true] rfl rfl (any_of HT_.out (by kernel_rfl)) (fun _ _ _ h => h) (Or.inl ⟨by rfl, ?_⟩) ?_ ?_
         rotate_left
         ·intro w'
          go_simp
          with_reducible rfl
         rotate_left
         ·simp only [pz_]
          rfl
         refine done_ (done_of HT_.out (by kernel_rfl)) ?_
         try go_wp2
         have n0_ := Aside0.mk (Kd.R_drew HO_10.out)
         have n1_ := Aside0.mk (below_drew1 HB.out)
         clear HO_10
         clear HB
         have HO_10 := n0_
         have HB := n1_
         clear n0_ n1_
         have p334 : 0 ≤ (x11_2 : Int) := od_
         have q334 : x11_2 < (x10_2.length : Int) := od_
         obtain ⟨ad334, e334, hx334_0, hx334_1, hx334_2⟩ := at_T103 (Kd.R_reads' HO_10.out).2.2 x11_2 p334 q334
         obtain rfl : ad332 = ad334 := (by injection e334)
         replace p334 := eq_true p334
         replace q334 := eq_true q334
         have p335 : 0 ≤ ((ji25) : Int) := od_
         have q335 : (ji25) < (x10_2.length : Int) := od_
         obtain ⟨ad335, e335, hx335_0, hx335_1, hx335_2⟩ := at_T103 (Kd.R_reads' HO_10.out).2.2 (ji25) p335 q335
         obtain rfl : ad332 = ad335 := (by injection e335)
         replace p335 := eq_true p335
         replace q335 := eq_true q335
         have p31 : 0 ≤ ((ji25) : Int) := od_
         have q31 : ((ji25) : Int) < ((x10_2.length : Int) : Int) := od_
         obtain ⟨go31, co31, eo31, gb31, gl31, cl31, HG31⟩ := Kd.R_form HO_10.out (by omega)
         (first | cases eo31 | (injection eo31 with ea_ en_ ec_; (first | subst ea_ | (injection ea_ with ea_; subst ea_)); subst ec_; clear en_))
         have GB31 := Aside0.mk gb31
         have GG31 := Aside0.mk HG31
         clear gb31 gl31 HG31
         (first | simp only [add_plain] at hx332_0 | skip)
         (first | simp only [add_plain] at hx332_1 | skip)
         (first | simp only [add_plain] at hx332_2 | skip)
         (first | simp only [add_plain] at hx333_0 | skip)
         (first | simp only [add_plain] at hx333_1 | skip)
         (first | simp only [add_plain] at hx333_2 | skip)
         (first | simp only [add_plain] at hx334_0 | skip)
         (first | simp only [add_plain] at hx334_1 | skip)
         (first | simp only [add_plain] at hx334_2 | skip)
         (first | simp only [add_plain] at hx335_0 | skip)
         (first | simp only [add_plain] at hx335_1 | skip)
         (first | simp only [add_plain] at hx335_2 | skip)
         obtain ⟨ce31, hcl31, hM31, hcc31, hfr31⟩ := Kd.R_elem HO_10.out z103 ((ji25) : Int) p31 q31
         obtain rfl := k103_openM hM31
         have hx31_0 : World.cell? _ ⟨go31, ((ji25) : Int).toNat * 3, none⟩ = some (.int .i64 ((rd_T103 x10_2 (ji25)).f0)) := hcc31 0 _ rfl
         have hx31_1 : World.cell? _ ⟨go31, ((ji25) : Int).toNat * 3 + 1, none⟩ = some (.int .i64 ((rd_T103 x10_2 (ji25)).f1)) := hcc31 1 _ rfl
         have hx31_2 : World.cell? _ ⟨go31, ((ji25) : Int).toNat * 3 + 2, none⟩ = some (.int .i64 ((rd_T103 x10_2 (ji25)).f2)) := hcc31 2 _ rfl
         have hf31_0 : World.frozen? _ ⟨go31, ((ji25) : Int).toNat * 3, none⟩ = false := hfr31 0
         have hf31_1 : World.frozen? _ ⟨go31, ((ji25) : Int).toNat * 3 + 1, none⟩ = false := hfr31 1
         have hf31_2 : World.frozen? _ ⟨go31, ((ji25) : Int).toNat * 3 + 2, none⟩ = false := hfr31 2
         clear hcl31 hcc31 hfr31 hM31
         replace p31 := eq_true p31
         replace q31 := eq_true q31
         obtain ⟨ce35, hcl35, hM35, hcc35, hfr35⟩ := Kd.R_elem HO_10.out z103 ((ji25) : Int) od_ (by have h_ : ((ji25) : Int) < ((x10_2.length : Int) : Int) := od_; first | exact h_ | (have e_ := (Kd.R_reads' HO_10.out).1; omega) | simpa using h_)
         obtain rfl := k103_openM hM35
         have HP35 := (Kd.R_seg HO_10.out ((ji25) : Int) od_ (by have h_ : ((ji25) : Int) < ((x10_2.length : Int) : Int) := od_; first | exact h_ | (have e_ := (Kd.R_reads' HO_10.out).1; omega) | simpa using h_) (seg := [.int .i64 ((rd_T103 x10_2 x11_2).f0), .int .i64 ((rd_T103 x10_2 x11_2).f1), .int .i64 ((rd_T103 x10_2 x11_2).f2)]) (j := 0) hcl35 hcc35 (show 3 ≤ 3 from by decide) (x' := (⟨(rd_T103 x10_2 x11_2).f0, (rd_T103 x10_2 x11_2).f1, (rd_T103 x10_2 x11_2).f2⟩ : S103)) (k103_mkM _ _ _ (⟨(rd_T103 x10_2 x11_2).f0, (rd_T103 x10_2 x11_2).f1, (rd_T103 x10_2 x11_2).f2⟩ : S103) ) (fun _ hk => hk)).1
         rw [← Ny336.out] at HP35
         have HQ35 := Aside0.mk HP35
         clear hcl35 hcc35 hfr35 hM35 HP35
         have p32 : 0 ≤ (x11_2 : Int) := od_
         have q32 : (x11_2 : Int) < ((x10_2.length : Int) : Int) := od_
         obtain ⟨ce32, hcl32, hM32, hcc32, hfr32⟩ := Kd.R_elem HQ35.out z103 (x11_2 : Int) p32 q32
         obtain rfl := k103_openM hM32
         have hx32_0 : World.cell? _ ⟨go31, (x11_2 : Int).toNat * 3, none⟩ = some (.int .i64 ((rd_T103 y336 x11_2).f0)) := hcc32 0 _ rfl
         have hx32_1 : World.cell? _ ⟨go31, (x11_2 : Int).toNat * 3 + 1, none⟩ = some (.int .i64 ((rd_T103 y336 x11_2).f1)) := hcc32 1 _ rfl
         have hx32_2 : World.cell? _ ⟨go31, (x11_2 : Int).toNat * 3 + 2, none⟩ = some (.int .i64 ((rd_T103 y336 x11_2).f2)) := hcc32 2 _ rfl
         have hf32_0 : World.frozen? _ ⟨go31, (x11_2 : Int).toNat * 3, none⟩ = false := hfr32 0
         have hf32_1 : World.frozen? _ ⟨go31, (x11_2 : Int).toNat * 3 + 1, none⟩ = false := hfr32 1
         have hf32_2 : World.frozen? _ ⟨go31, (x11_2 : Int).toNat * 3 + 2, none⟩ = false := hfr32 2
         clear hcl32 hcc32 hfr32 hM32
         replace p32 := eq_true p32
         replace q32 := eq_true q32
         obtain ⟨ce36, hcl36, hM36, hcc36, hfr36⟩ := Kd.R_elem HQ35.out z103 (x11_2 : Int) od_ (by have h_ : (x11_2 : Int) < ((x10_2.length : Int) : Int) := od_; first | exact h_ | (have e_ := (Kd.R_reads' HO_10.out).1; omega) | simpa using h_)
         obtain rfl := k103_openM hM36
         have HP36 := (Kd.R_seg HQ35.out (x11_2 : Int) od_ (by have h_ : (x11_2 : Int) < ((x10_2.length : Int) : Int) := od_; first | exact h_ | (have e_ := (Kd.R_reads' HO_10.out).1; omega) | simpa using h_) (seg := [.int .i64 ((rd_T103 x10_2 (ji25)).f0), .int .i64 ((rd_T103 x10_2 (ji25)).f1), .int .i64 ((rd_T103 x10_2 (ji25)).f2)]) (j := 0) hcl36 hcc36 (show 3 ≤ 3 from by decide) (x' := (⟨(rd_T103 x10_2 (ji25)).f0, (rd_T103 x10_2 (ji25)).f1, (rd_T103 x10_2 (ji25)).f2⟩ : S103)) (k103_mkM _ _ _ (⟨(rd_T103 x10_2 (ji25)).f0, (rd_T103 x10_2 (ji25)).f1, (rd_T103 x10_2 (ji25)).f2⟩ : S103) ) (fun _ hk => hk)).1
         rw [← Ny337.out] at HP36
         have HQ36 := Aside0.mk HP36
         clear hcl36 hcc36 hfr36 hM36 HP36
         refine start_ (n := 18) (S := fun w' => w'.cell? ⟨go31, ((x11_2).toNat * 3), none⟩ = some (.int .i64 ((rd_T103 x10_2 x11_2).f0)) ∧ w'.cell? ⟨go31, ((x11_2).toNat * 3) + 1, none⟩ = some (.int .i64 ((rd_T103 x10_2 x11_2).f1)) ∧ w'.cell? ⟨go31, ((x11_2).toNat * 3) + 2, none⟩ = some (.int .i64 ((rd_T103 x10_2 x11_2).f2)) ∧ w'.cell? ⟨go31, (((ji25)).toNat * 3), none⟩ = some (.int .i64 ((rd_T103 x10_2 (ji25)).f0)) ∧ w'.cell? ⟨go31, (((ji25)).toNat * 3) + 1, none⟩ = some (.int .i64 ((rd_T103 x10_2 (ji25)).f1)) ∧ w'.cell? ⟨go31, (((ji25)).toNat * 3) + 2, none⟩ = some (.int .i64 ((rd_T103 x10_2 (ji25)).f2))) (ds := [15, 17]) #[false, false, false, false, false, false, false, false, false, false, false, false, false, false, false, false, false, false] (by kernel_rfl) rfl rfl ⟨hx334_0, hx334_1, hx334_2, hx335_0, hx335_1, hx335_2⟩ (fun hHeld => ?_); refine with_tabW impl_putWire.tab10 impl_putWire.bits10 (fun HT_ HW_ => ?_)
         generalize w33.drew = w34 at HO_10 HB GG31 HQ35 HQ36 hf31_0 hf31_1 hf31_2 hf32_0 hf32_1 hf32_2 hx31_0 hx31_1 hx31_2 hx32_0 hx32_1 hx32_2 hx332_0 hx332_1 hx332_2 hx333_0 hx333_1 hx333_2 hx334_0 hx334_1 hx334_2 hx335_0 hx335_1 hx335_2 hHeld ⊢
         refine pure_ (i := 0) (N := some 56) (v := ?_) (a' := ?_) #[true, false, false, false, false, false, false, false, false, false, false, false, false, false, false, false, false, false] rfl rfl (any_of HT_.out (by kernel_rfl)) (fun _ _ _ h => h) (Or.inl ⟨by rfl, ?_⟩) ?_ ?_
         rotate_left
         ·intro w'
          go_simp
          with_reducible rfl
         rotate_left
         ·simp only [pz_]
          rfl
         refine pure_ (i := 1) (N := some 57) (v := ?_) (a' := ?_) #[true, true, false, false, false, false, false, false, false, false, false, false, false, false, false, false, false, false] rfl rfl (any_of HT_.out (by kernel_rfl)) (fun _ _ _ h => h) (Or.inl ⟨by rfl, ?_⟩) ?_ ?_
         rotate_left
         ·intro w'
          go_simp
          with_reducible rfl
         rotate_left
         ·simp only [pz_]
          rfl
         refine pure_ (i := 2) (N := some 58) (v := ?_) (a' := ?_) #[true, true, true, false, false, false, false, false, false, false, false, false, false, false, false, false, false, false] rfl rfl (any_of HT_.out (by kernel_rfl)) (fun _ _ _ h => h) (Or.inl ⟨by rfl, ?_⟩) ?_ ?_
         rotate_left
         ·intro w'
          go_simp
          with_reducible rfl
         rotate_left
         ·simp only [pz_]
          rfl
         refine pure_ (i := 3) (N := some 59) (v := ?_) (a' := ?_) #[true, true, true, true, false, false, false, false, false, false, false, false, false, false, false, false, false, false] rfl rfl (any_of HT_.out (by kernel_rfl)) (fun _ _ _ h => h) (Or.inl ⟨by rfl, ?_⟩) ?_ ?_
         rotate_left
         ·intro w'
          go_simp
          with_reducible rfl
         rotate_left
         ·simp only [pz_]
          rfl
         refine pure_ (i := 4) (N := some 60) (v := ?_) (a' := ?_) #[true, true, true, true, true, false, false, false, false, false, false, false, false, false, false, false, false, false] rfl rfl (any_of HT_.out (by kernel_rfl)) (fun _ _ _ h => h) (Or.inl ⟨by rfl, ?_⟩) ?_ ?_
         rotate_left
         ·intro w'
          go_simp
          with_reducible rfl
         rotate_left
         ·simp only [pz_]
          rfl
         refine pure_ (i := 5) (N := some 61) (v := ?_) (a' := ?_) #[true, true, true, true, true, true, false, false, false, false, false, false, false, false, false, false, false, false] rfl rfl (any_of HT_.out (by kernel_rfl)) (fun _ _ _ h => h) (Or.inl ⟨by rfl, ?_⟩) ?_ ?_
         rotate_left
         ·intro w'
          go_simp
          with_reducible rfl
         rotate_left
         ·simp only [pz_]
          rfl
         refine pure_ (i := 6) (N := some 62) (v := ?_) (a' := ?_) #[true, true, true, true, true, true, true, false, false, false, false, false, false, false, false, false, false, false] rfl rfl (any_of HT_.out (by kernel_rfl)) (fun _ _ _ h => h) (Or.inl ⟨by rfl, ?_⟩) ?_ ?_
         rotate_left
         ·intro w'
          go_simp
          with_reducible rfl
         rotate_left
         ·simp only [pz_]
          rfl
         refine pure_ (i := 7) (N := some 63) (v := ?_) (a' := ?_) #[true, true, true, true, true, true, true, true, false, false, false, false, false, false, false, false, false, false] rfl rfl (any_of HT_.out (by kernel_rfl)) (fun _ _ _ h => h) (Or.inl ⟨by rfl, ?_⟩) ?_ ?_
         rotate_left
         ·intro w'
          go_simp
          with_reducible rfl
         rotate_left
         ·simp only [pz_]
          rfl
         refine pure_ (i := 9) (N := some 65) (v := ?_) (a' := ?_) #[true, true, true, true, true, true, true, true, false, true, false, false, false, false, false, false, false, false] rfl rfl (any_of HT_.out (by kernel_rfl)) (fun _ _ _ h => h) (Or.inl ⟨by rfl, ?_⟩) ?_ ?_
         rotate_left
         ·intro w'
          go_simp
          with_reducible rfl
         rotate_left
         ·simp only [pz_]
          rfl
         refine pure_ (i := 10) (N := some 66) (v := ?_) (a' := ?_) #[true, true, true, true, true, true, true, true, false, true, true, false, false, false, false, false, false, false] rfl rfl (any_of HT_.out (by kernel_rfl)) (fun _ _ _ h => h) (Or.inl ⟨by rfl, ?_⟩) ?_ ?_
         rotate_left
         ·intro w'
          go_simp
          with_reducible rfl
         rotate_left
         ·simp only [pz_]
          rfl
         refine pure_ (i := 11) (N := some 67) (v := ?_) (a' := ?_) #[true, true, true, true, true, true, true, true, false, true, true, true, false, false, false, false, false, false] rfl rfl (any_of HT_.out (by kernel_rfl)) (fun _ _ _ h => h) (Or.inl ⟨by rfl, ?_⟩) ?_ ?_
         rotate_left
         ·intro w'
          go_simp
          with_reducible rfl
         rotate_left
         ·simp only [pz_]
          rfl
         refine pure_ (i := 12) (N := some 68) (v := ?_) (a' := ?_) #[true, true, true, true, true, true, true, true, false, true, true, true, true, false, false, false, false, false] rfl rfl (any_of HT_.out (by kernel_rfl)) (fun _ _ _ h => h) (Or.inl ⟨by rfl, ?_⟩) ?_ ?_
         rotate_left
         ·intro w'
          go_simp
          with_reducible rfl
         rotate_left
         ·simp only [pz_]
          rfl
         refine take_ (i := 8) (N := some 64) (v := ?_) (a' := ?_) #[true, true, true, true, true, true, true, true, true, true, true, true, true, false, false, false, false, false] rfl rfl (take_ofW HT_.out HW_.out (by kernel_rfl)) (fun _ _ _ h => h) (Or.inl ⟨by rfl, ?_⟩) hHeld ?_ ?_
         rotate_left
         ·rintro w' ⟨s0, s1, s2, s3, s4, s5⟩
          go_simp
          with_reducible rfl
         rotate_left
         ·simp only [pz_]
          rfl
         refine take_ (i := 13) (N := some 69) (v := ?_) (a' := ?_) #[true, true, true, true, true, true, true, true, true, true, true, true, true, true, false, false, false, false] rfl rfl (take_ofW HT_.out HW_.out (by kernel_rfl)) (fun _ _ _ h => h) (Or.inl ⟨by rfl, ?_⟩) hHeld ?_ ?_
         rotate_left
         ·rintro w' ⟨s0, s1, s2, s3, s4, s5⟩
          go_simp
          with_reducible rfl
         rotate_left
         ·simp only [pz_]
          rfl
         refine pure_ (i := 14) (N := some 70) (v := ?_) (a' := ?_) #[true, true, true, true, true, true, true, true, true, true, true, true, true, true, true, false, false, false] rfl rfl (any_of HT_.out (by kernel_rfl)) (fun _ _ _ h => h) (Or.inl ⟨by rfl, ?_⟩) ?_ ?_
         rotate_left
         ·intro w'
          go_simp
          with_reducible rfl
         rotate_left
         ·simp only [pz_]
          rfl
         refine last_ (i := 15) (N := none) #[true, true, true, true, true, true, true, true, true, true, true, true, true, true, true, true, false, false] rfl rfl (one_of HT_.out (by kernel_rfl)) (by decide) (fun K hK => ?_)
         refine skip_ (w1 := ?_) (by rfl) rfl ?_ ?_
         rotate_left
         ·go_simp
          rfl
         refine hK.out _ _ ?_
         clear hK K
         refine pure_ (i := 16) (N := some 71) (v := ?_) (a' := ?_) #[true, true, true, true, true, true, true, true, true, true, true, true, true, true, true, true, true, false] rfl rfl (any_of HT_.out (by kernel_rfl)) (fun _ _ _ h => h) (Or.inl ⟨by rfl, ?_⟩) ?_ ?_
         rotate_left
         ·intro w'
          go_simp
          with_reducible rfl
         rotate_left
         ·simp only [pz_]
          rfl
         have hnz_ : ((ji25) : Int).toNat * 3 ≠ (x11_2 : Int).toNat * 3 := by have h1_ : (0 : Int) ≤ ji25 := of_eq_true p31; have h2_ : (0 : Int) ≤ x11_2 := of_eq_true p32; have h3_ := hji25; unfold wrap64 at h3_; omega
         have hz0_ : World.cell? (w34.setCell ⟨go31, ((ji25) : Int).toNat * 3, none⟩ (.int .i64 ((rd_T103 x10_2 x11_2).f0))) ⟨go31, (x11_2 : Int).toNat * 3, none⟩ = some (.int .i64 ((rd_T103 x10_2 x11_2).f0)) := (World.cell?_setCell_other _ _ _ _ (fun e_ => by have e2_ := congrArg Addr.off e_; simp only at e2_; omega)).trans hx334_0
         have hg0_ : World.frozen? w34 ⟨go31, (x11_2 : Int).toNat * 3, none⟩ = false := (World.frozen?_setCells _ _ _ _ _).symm.trans hf32_0
         have hz1_ : World.cell? ((w34.setCell ⟨go31, ((ji25) : Int).toNat * 3, none⟩ (.int .i64 ((rd_T103 x10_2 x11_2).f0))).setCell ⟨go31, ((ji25) : Int).toNat * 3 + 1, none⟩ (.int .i64 ((rd_T103 x10_2 x11_2).f1))) ⟨go31, (x11_2 : Int).toNat * 3 + 1, none⟩ = some (.int .i64 ((rd_T103 x10_2 x11_2).f1)) := ((World.cell?_setCell_other _ _ _ _ (fun e_ => by have e2_ := congrArg Addr.off e_; simp only at e2_; omega)).trans (World.cell?_setCell_other _ _ _ _ (fun e_ => by have e2_ := congrArg Addr.off e_; simp only at e2_; omega))).trans hx334_1
         have hg1_ : World.frozen? w34 ⟨go31, (x11_2 : Int).toNat * 3 + 1, none⟩ = false := (World.frozen?_setCells _ _ _ _ _).symm.trans hf32_1
         have hz2_ : World.cell? (((w34.setCell ⟨go31, ((ji25) : Int).toNat * 3, none⟩ (.int .i64 ((rd_T103 x10_2 x11_2).f0))).setCell ⟨go31, ((ji25) : Int).toNat * 3 + 1, none⟩ (.int .i64 ((rd_T103 x10_2 x11_2).f1))).setCell ⟨go31, ((ji25) : Int).toNat * 3 + 2, none⟩ (.int .i64 ((rd_T103 x10_2 x11_2).f2))) ⟨go31, (x11_2 : Int).toNat * 3 + 2, none⟩ = some (.int .i64 ((rd_T103 x10_2 x11_2).f2)) := (((World.cell?_setCell_other _ _ _ _ (fun e_ => by have e2_ := congrArg Addr.off e_; simp only at e2_; omega)).trans (World.cell?_setCell_other _ _ _ _ (fun e_ => by have e2_ := congrArg Addr.off e_; simp only at e2_; omega))).trans (World.cell?_setCell_other _ _ _ _ (fun e_ => by have e2_ := congrArg Addr.off e_; simp only at e2_; omega))).trans hx334_2
         have hg2_ : World.frozen? w34 ⟨go31, (x11_2 : Int).toNat * 3 + 2, none⟩ = false := (World.frozen?_setCells _ _ _ _ _).symm.trans hf32_2
         refine last_ (i := 17) (N := none) #[true, true, true, true, true, true, true, true, true, true, true, true, true, true, true, true, true, true] rfl rfl (one_of HT_.out (by kernel_rfl)) (by decide) (fun K hK => ?_)
         refine skip_ (w1 := ?_) (by rfl) rfl ?_ ?_
         rotate_left
         ·go_simp
          rfl
         refine hK.out _ _ ?_
         clear hK K
         refine done_ (done_of HT_.out (by kernel_rfl)) ?_
         try go_wp2
         (try simp only [← hl10_2])
         go_roundg k2
         case measure => have := HK1.out; have := HK2.out; omega
         case rel => exact ⟨(y337), (ji25), (by first | rfl | (simp; done) | (simp only [← hji25] <;> (first | rfl | simp)) | (simp [*]; done)), H', ⟨by have := HK1.out; have := HK2.out; omega⟩, ⟨by (try simp only [hl10_2]); (with_reducible repeat (first | apply Kd.R_alloc | apply Kd.R_drewN | apply Kd.R_drew)); exact HQ36.out⟩, ⟨by repeat (first | (with_reducible first | exact HB.out | apply below_alloc | apply pw_below_drewN | apply below_drew1 | refine below_set ?_ GB31.out | refine below_set ?_ GB31.out | refine below_set ?_ GB31.out | refine below_set ?_ GB31.out | refine below_set ?_ GB31.out | refine below_set ?_ GB31.out) | exact HB.out)⟩⟩
        ·rw [if_neg c30] at H
         have c30b0 : decide (((rd_T103 x10_2 x11_2).f0) < ((rd_T103 x10_2 (ji25)).f0)) = false := decide_eq_false c30
         clear c30
         simp only [Option.some.injEq, Prod.mk.injEq] at H
         obtain ⟨rfl, rfl⟩ := H
         try go_wp2
         have n0_ := Aside0.mk (Kd.R_drew HO_10.out)
         have n1_ := Aside0.mk (below_drew1 HB.out)
         clear HO_10
         clear HB
         have HO_10 := n0_
         have HB := n1_
         clear n0_ n1_
         have p332 : 0 ≤ ((ji25) : Int) := od_
         have q332 : (ji25) < (x10_2.length : Int) := od_
         obtain ⟨ad332, e332, hx332_0, hx332_1, hx332_2⟩ := at_T103 (Kd.R_reads' HO_10.out).2.2 (ji25) p332 q332
         cases e332
         replace p332 := eq_true p332
         replace q332 := eq_true q332
         have p333 : 0 ≤ (x11_2 : Int) := od_
         have q333 : x11_2 < (x10_2.length : Int) := od_
         obtain ⟨ad333, e333, hx333_0, hx333_1, hx333_2⟩ := at_T103 (Kd.R_reads' HO_10.out).2.2 x11_2 p333 q333
         obtain rfl : ad332 = ad333 := (by injection e333)
         replace p333 := eq_true p333
         replace q333 := eq_true q333
         refine start_ (n := 16) (S := fun w' => w'.cell? (ad332.add (((ji25)).toNat * 3)) = some (.int .i64 ((rd_T103 x10_2 (ji25)).f0)) ∧ w'.cell? ⟨(ad332.add (((ji25)).toNat * 3)).block, (ad332.add (((ji25)).toNat * 3)).off + 1, none⟩ = some (.int .i64 ((rd_T103 x10_2 (ji25)).f1)) ∧ w'.cell? ⟨(ad332.add (((ji25)).toNat * 3)).block, (ad332.add (((ji25)).toNat * 3)).off + 2, none⟩ = some (.int .i64 ((rd_T103 x10_2 (ji25)).f2)) ∧ w'.cell? (ad332.add ((x11_2).toNat * 3)) = some (.int .i64 ((rd_T103 x10_2 x11_2).f0)) ∧ w'.cell? ⟨(ad332.add ((x11_2).toNat * 3)).block, (ad332.add ((x11_2).toNat * 3)).off + 1, none⟩ = some (.int .i64 ((rd_T103 x10_2 x11_2).f1)) ∧ w'.cell? ⟨(ad332.add ((x11_2).toNat * 3)).block, (ad332.add ((x11_2).toNat * 3)).off + 2, none⟩ = some (.int .i64 ((rd_T103 x10_2 x11_2).f2))) (ds := []) #[false, false, false, false, false, false, false, false, false, false, false, false, false, false, false, false] (by kernel_rfl) rfl rfl ⟨hx332_0, hx332_1, hx332_2, hx333_0, hx333_1, hx333_2⟩ (fun hHeld => ?_); refine with_tabW impl_putWire.tab8 impl_putWire.bits8 (fun HT_ HW_ => ?_)
         generalize wr.drew = w37 at HO_10 HB hx332_0 hx332_1 hx332_2 hx333_0 hx333_1 hx333_2 hHeld ⊢
         refine pure_ (i := 0) (N := some 38) (v := ?_) (a' := ?_) #[true, false, false, false, false, false, false, false, false, false, false, false, false, false, false, false] rfl rfl (any_of HT_.out (by kernel_rfl)) (fun _ _ _ h => h) (Or.inl ⟨by rfl, ?_⟩) ?_ ?_
         rotate_left
         ·intro w'
          go_simp
          with_reducible rfl
         rotate_left
         ·simp only [pz_]
          rfl
         refine pure_ (i := 1) (N := some 39) (v := ?_) (a' := ?_) #[true, true, false, false, false, false, false, false, false, false, false, false, false, false, false, false] rfl rfl (any_of HT_.out (by kernel_rfl)) (fun _ _ _ h => h) (Or.inl ⟨by rfl, ?_⟩) ?_ ?_
         rotate_left
         ·intro w'
          go_simp
          with_reducible rfl
         rotate_left
         ·simp only [pz_]
          rfl
         refine pure_ (i := 2) (N := some 40) (v := ?_) (a' := ?_) #[true, true, true, false, false, false, false, false, false, false, false, false, false, false, false, false] rfl rfl (any_of HT_.out (by kernel_rfl)) (fun _ _ _ h => h) (Or.inl ⟨by rfl, ?_⟩) ?_ ?_
         rotate_left
         ·intro w'
          go_simp
          with_reducible rfl
         rotate_left
         ·simp only [pz_]
          rfl
         refine pure_ (i := 3) (N := some 41) (v := ?_) (a' := ?_) #[true, true, true, true, false, false, false, false, false, false, false, false, false, false, false, false] rfl rfl (any_of HT_.out (by kernel_rfl)) (fun _ _ _ h => h) (Or.inl ⟨by rfl, ?_⟩) ?_ ?_
         rotate_left
         ·intro w'
          go_simp
          with_reducible rfl
         rotate_left
         ·simp only [pz_]
          rfl
         refine pure_ (i := 4) (N := some 42) (v := ?_) (a' := ?_) #[true, true, true, true, true, false, false, false, false, false, false, false, false, false, false, false] rfl rfl (any_of HT_.out (by kernel_rfl)) (fun _ _ _ h => h) (Or.inl ⟨by rfl, ?_⟩) ?_ ?_
         rotate_left
         ·intro w'
          go_simp
          with_reducible rfl
         rotate_left
         ·simp only [pz_]
          rfl
         refine pure_ (i := 5) (N := some 43) (v := ?_) (a' := ?_) #[true, true, true, true, true, true, false, false, false, false, false, false, false, false, false, false] rfl rfl (any_of HT_.out (by kernel_rfl)) (fun _ _ _ h => h) (Or.inl ⟨by rfl, ?_⟩) ?_ ?_
         rotate_left
         ·intro w'
          go_simp
          with_reducible rfl
         rotate_left
         ·simp only [pz_]
          rfl
         refine pure_ (i := 6) (N := some 44) (v := ?_) (a' := ?_) #[true, true, true, true, true, true, true, false, false, false, false, false, false, false, false, false] rfl rfl (any_of HT_.out (by kernel_rfl)) (fun _ _ _ h => h) (Or.inl ⟨by rfl, ?_⟩) ?_ ?_
         rotate_left
         ·intro w'
          go_simp
          with_reducible rfl
         rotate_left
         ·simp only [pz_]
          rfl
         refine pure_ (i := 7) (N := some 45) (v := ?_) (a' := ?_) #[true, true, true, true, true, true, true, true, false, false, false, false, false, false, false, false] rfl rfl (any_of HT_.out (by kernel_rfl)) (fun _ _ _ h => h) (Or.inl ⟨by rfl, ?_⟩) ?_ ?_
         rotate_left
         ·intro w'
          go_simp
          with_reducible rfl
         rotate_left
         ·simp only [pz_]
          rfl
         refine pure_ (i := 9) (N := some 47) (v := ?_) (a' := ?_) #[true, true, true, true, true, true, true, true, false, true, false, false, false, false, false, false] rfl rfl (any_of HT_.out (by kernel_rfl)) (fun _ _ _ h => h) (Or.inl ⟨by rfl, ?_⟩) ?_ ?_
         rotate_left
         ·intro w'
          go_simp
          with_reducible rfl
         rotate_left
         ·simp only [pz_]
          rfl
         refine pure_ (i := 10) (N := some 48) (v := ?_) (a' := ?_) #[true, true, true, true, true, true, true, true, false, true, true, false, false, false, false, false] rfl rfl (any_of HT_.out (by kernel_rfl)) (fun _ _ _ h => h) (Or.inl ⟨by rfl, ?_⟩) ?_ ?_
         rotate_left
         ·intro w'
          go_simp
          with_reducible rfl
         rotate_left
         ·simp only [pz_]
          rfl
         refine pure_ (i := 11) (N := some 49) (v := ?_) (a' := ?_) #[true, true, true, true, true, true, true, true, false, true, true, true, false, false, false, false] rfl rfl (any_of HT_.out (by kernel_rfl)) (fun _ _ _ h => h) (Or.inl ⟨by rfl, ?_⟩) ?_ ?_
         rotate_left
         ·intro w'
          go_simp
          with_reducible rfl
         rotate_left
         ·simp only [pz_]
          rfl
         refine pure_ (i := 12) (N := some 50) (v := ?_) (a' := ?_) #[true, true, true, true, true, true, true, true, false, true, true, true, true, false, false, false] rfl rfl (any_of HT_.out (by kernel_rfl)) (fun _ _ _ h => h) (Or.inl ⟨by rfl, ?_⟩) ?_ ?_
         rotate_left
         ·intro w'
          go_simp
          with_reducible rfl
         rotate_left
         ·simp only [pz_]
          rfl
         refine take_ (i := 8) (N := some 46) (v := ?_) (a' := ?_) #[true, true, true, true, true, true, true, true, true, true, true, true, true, false, false, false] rfl rfl (take_ofW HT_.out HW_.out (by kernel_rfl)) (fun _ _ _ h => h) (Or.inl ⟨by rfl, ?_⟩) hHeld ?_ ?_
         rotate_left
         ·rintro w' ⟨s0, s1, s2, s3, s4, s5⟩
          go_simp
          with_reducible rfl
         rotate_left
         ·simp only [pz_]
          rfl
         refine take_ (i := 13) (N := some 51) (v := ?_) (a' := ?_) #[true, true, true, true, true, true, true, true, true, true, true, true, true, true, false, false] rfl rfl (take_ofW HT_.out HW_.out (by kernel_rfl)) (fun _ _ _ h => h) (Or.inl ⟨by rfl, ?_⟩) hHeld ?_ ?_
         rotate_left
         ·rintro w' ⟨s0, s1, s2, s3, s4, s5⟩
          go_simp
          with_reducible rfl
         rotate_left
         ·simp only [pz_]
          rfl
         refine pure_ (i := 14) (N := some 52) (v := ?_) (a' := ?_) #[true, true, true, true, true, true, true, true, true, true, true, true, true, true, true, false] rfl rfl (any_of HT_.out (by kernel_rfl)) (fun _ _ _ h => h) (Or.inl ⟨by rfl, ?_⟩) ?_ ?_
         rotate_left
         ·intro w'
          go_simp
          with_reducible rfl
         rotate_left
         ·simp only [pz_]
          rfl
         refine pure_ (i := 15) (N := some 53) (v := ?_) (a' := ?_) #[true, true, true, true, true, true, true, true, true, true, true, true, true, true, true, true] rfl rfl (any_of HT_.out (by kernel_rfl)) (fun _ _ _ h => h) (Or.inl ⟨by rfl, ?_⟩) ?_ ?_
         rotate_left
         ·intro w'
          go_simp
          with_reducible rfl
         rotate_left
         ·simp only [pz_]
          rfl
         refine done_ (done_of HT_.out (by kernel_rfl)) ?_
         try go_wp2
         go_ret2
         exact ⟨_, by first | rfl | (simp [errW_none, errW_some] <;> rfl) | (simp only [← hji25]; first | rfl | (simp [errW_none, errW_some] <;> rfl)) | (simp [*, errW_none, errW_some] <;> rfl), by (with_reducible repeat (first | apply Kd.R_alloc | apply Kd.R_drewN | apply Kd.R_drew)); exact HO_10.out, bl_ HB.out⟩
       ·rw [if_neg c24] at H
        have c24b0 : decide (0 < x11_2) = false := decide_eq_false c24
        clear c24
        simp only [Option.some.injEq, Prod.mk.injEq] at H
        obtain ⟨rfl, rfl⟩ := H
        try go_wp2
        have n0_ := Aside0.mk (Kd.R_drew HO_10.out)
        have n1_ := Aside0.mk (below_drew1 HB.out)
        clear HO_10
        clear HB
        have HO_10 := n0_
        have HB := n1_
        clear n0_ n1_
        refine start_ (n := 16) (S := fun w' => True) (ds := []) #[false, false, false, false, false, false, false, false, false, false, false, false, false, false, false, false] (by kernel_rfl) rfl rfl trivial (fun hHeld => ?_); refine with_tabW impl_putWire.tab8 impl_putWire.bits8 (fun HT_ HW_ => ?_)
        generalize wr.drew = w38 at HO_10 HB hHeld ⊢
        refine pure_ (i := 0) (N := some 38) (v := ?_) (a' := ?_) #[true, false, false, false, false, false, false, false, false, false, false, false, false, false, false, false] rfl rfl (any_of HT_.out (by kernel_rfl)) (fun _ _ _ h => h) (Or.inl ⟨by rfl, ?_⟩) ?_ ?_
        rotate_left
        ·intro w'
         go_simp
         with_reducible rfl
        rotate_left
        ·simp only [pz_]
         rfl
        refine pure_ (i := 1) (N := some 39) (v := ?_) (a' := ?_) #[true, true, false, false, false, false, false, false, false, false, false, false, false, false, false, false] rfl rfl (any_of HT_.out (by kernel_rfl)) (fun _ _ _ h => h) (Or.inl ⟨by rfl, ?_⟩) ?_ ?_
        rotate_left
        ·intro w'
         go_simp
         with_reducible rfl
        rotate_left
        ·simp only [pz_]
         rfl
        refine pure_ (i := 2) (N := some 40) (v := ?_) (a' := ?_) #[true, true, true, false, false, false, false, false, false, false, false, false, false, false, false, false] rfl rfl (any_of HT_.out (by kernel_rfl)) (fun _ _ _ h => h) (Or.inl ⟨by rfl, ?_⟩) ?_ ?_
        rotate_left
        ·intro w'
         go_simp
         with_reducible rfl
        rotate_left
        ·simp only [pz_]
         rfl
        refine pure_ (i := 3) (N := some 41) (v := undef) (a' := ?_) #[true, true, true, true, false, false, false, false, false, false, false, false, false, false, false, false] rfl rfl (any_of HT_.out (by kernel_rfl)) (fun _ _ _ h => h) (Or.inr ⟨by rfl, rfl⟩) ?_ ?_
        rotate_left
        ·simp only [pz_]
         rfl
        refine pure_ (i := 4) (N := some 42) (v := undef) (a' := ?_) #[true, true, true, true, true, false, false, false, false, false, false, false, false, false, false, false] rfl rfl (any_of HT_.out (by kernel_rfl)) (fun _ _ _ h => h) (Or.inr ⟨by rfl, rfl⟩) ?_ ?_
        rotate_left
        ·simp only [pz_]
         rfl
        refine pure_ (i := 5) (N := some 43) (v := undef) (a' := ?_) #[true, true, true, true, true, true, false, false, false, false, false, false, false, false, false, false] rfl rfl (any_of HT_.out (by kernel_rfl)) (fun _ _ _ h => h) (Or.inr ⟨by rfl, rfl⟩) ?_ ?_
        rotate_left
        ·simp only [pz_]
         rfl
        refine pure_ (i := 6) (N := some 44) (v := undef) (a' := ?_) #[true, true, true, true, true, true, true, false, false, false, false, false, false, false, false, false] rfl rfl (any_of HT_.out (by kernel_rfl)) (fun _ _ _ h => h) (Or.inr ⟨by rfl, rfl⟩) ?_ ?_
        rotate_left
        ·simp only [pz_]
         rfl
        refine pure_ (i := 7) (N := some 45) (v := undef) (a' := ?_) #[true, true, true, true, true, true, true, true, false, false, false, false, false, false, false, false] rfl rfl (any_of HT_.out (by kernel_rfl)) (fun _ _ _ h => h) (Or.inr ⟨by rfl, rfl⟩) ?_ ?_
        rotate_left
        ·simp only [pz_]
         rfl
        refine pure_ (i := 8) (N := some 46) (v := undef) (a' := ?_) #[true, true, true, true, true, true, true, true, true, false, false, false, false, false, false, false] rfl rfl (any_of HT_.out (by kernel_rfl)) (fun _ _ _ h => h) (Or.inr ⟨by rfl, rfl⟩) ?_ ?_
        rotate_left
        ·simp only [pz_]
         rfl
        refine pure_ (i := 9) (N := some 47) (v := undef) (a' := ?_) #[true, true, true, true, true, true, true, true, true, true, false, false, false, false, false, false] rfl rfl (any_of HT_.out (by kernel_rfl)) (fun _ _ _ h => h) (Or.inr ⟨by rfl, rfl⟩) ?_ ?_
        rotate_left
        ·simp only [pz_]
         rfl
        refine pure_ (i := 10) (N := some 48) (v := undef) (a' := ?_) #[true, true, true, true, true, true, true, true, true, true, true, false, false, false, false, false] rfl rfl (any_of HT_.out (by kernel_rfl)) (fun _ _ _ h => h) (Or.inr ⟨by rfl, rfl⟩) ?_ ?_
        rotate_left
        ·simp only [pz_]
         rfl
        refine pure_ (i := 11) (N := some 49) (v := undef) (a' := ?_) #[true, true, true, true, true, true, true, true, true, true, true, true, false, false, false, false] rfl rfl (any_of HT_.out (by kernel_rfl)) (fun _ _ _ h => h) (Or.inr ⟨by rfl, rfl⟩) ?_ ?_
        rotate_left
        ·simp only [pz_]
         rfl
        refine pure_ (i := 12) (N := some 50) (v := undef) (a' := ?_) #[true, true, true, true, true, true, true, true, true, true, true, true, true, false, false, false] rfl rfl (any_of HT_.out (by kernel_rfl)) (fun _ _ _ h => h) (Or.inr ⟨by rfl, rfl⟩) ?_ ?_
        rotate_left
        ·simp only [pz_]
         rfl
        refine pure_ (i := 13) (N := some 51) (v := undef) (a' := ?_) #[true, true, true, true, true, true, true, true, true, true, true, true, true, true, false, false] rfl rfl (any_of HT_.out (by kernel_rfl)) (fun _ _ _ h => h) (Or.inr ⟨by rfl, rfl⟩) ?_ ?_
        rotate_left
        ·simp only [pz_]
         rfl
        refine pure_ (i := 14) (N := some 52) (v := undef) (a' := ?_) #[true, true, true, true, true, true, true, true, true, true, true, true, true, true, true, false] rfl rfl (any_of HT_.out (by kernel_rfl)) (fun _ _ _ h => h) (Or.inr ⟨by rfl, rfl⟩) ?_ ?_
        rotate_left
        ·simp only [pz_]
         rfl
        refine pure_ (i := 15) (N := some 53) (v := ?_) (a' := ?_) #[true, true, true, true, true, true, true, true, true, true, true, true, true, true, true, true] rfl rfl (any_of HT_.out (by kernel_rfl)) (fun _ _ _ h => h) (Or.inl ⟨by rfl, ?_⟩) ?_ ?_
        rotate_left
        ·intro w'
         go_simp
         with_reducible rfl
        rotate_left
        ·simp only [pz_]
         rfl
        refine done_ (done_of HT_.out (by kernel_rfl)) ?_
        try go_wp2
        go_ret2
        exact ⟨_, by first | rfl | (simp [errW_none, errW_some] <;> rfl) | (simp [*, errW_none, errW_some] <;> rfl), by (with_reducible repeat (first | apply Kd.R_alloc | apply Kd.R_drewN | apply Kd.R_drew)); exact HO_10.out, bl_ HB.out⟩
   ·rw [if_neg c4] at H
    have c4b0 : decide (x14_1 < (l0.length : Int)) = false := decide_eq_false c4
    clear c4
    simp only [Option.some.injEq, Prod.mk.injEq] at H
    obtain ⟨rfl, rfl⟩ := H
    go_wp2
    go_ret2
    exact ⟨_, by first | rfl | (simp [errW_none, errW_some] <;> rfl) | (simp [*, errW_none, errW_some] <;> rfl), by first | exact Kd.R_nil _ _ _ _ _ | exact Kd.N_nil _ _ _ _ _ | exact Kd.V_nil _ _ _ _ _ | exact Kd.Q_nil _ _ _ _ _ | exact Kd.S_nil _ _ _ _ _, bl_ HB.out⟩
end Go.Proofs.Ytalcbcelalbhiaa.PFnExactWireAll
