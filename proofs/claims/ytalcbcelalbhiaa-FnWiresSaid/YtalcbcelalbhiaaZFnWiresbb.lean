/- QFnWirese of the law FnWires: taken over, declaration by declaration, as far as the law leans on it (the words and the printed functions are the kit's own print). No condition but what each says. -/
import Derived.Test.YtalcbcelalbhiaaZFnWiresav
import Derived.Test.YtalcbcelalbhiaaZFnWiresaw
import Derived.Test.YtalcbcelalbhiaaZFnWiresaz
import Derived.Test.YtalcbcelalbhiaaZFnWiresba
namespace Go.Proofs.Ytalcbcelalbhiaa.PFnWires
open Go.RowKit Go.Proofs.YtalcbcelalbhiaaW.PrintWords Go.Proofs.YtalcbcelalbhiaaW.PrintLast Go.Proofs.YtalcbcelalbhiaaW.PrintMore
attribute [local go_sem] max2_int min2_int max_two min_two max_three min_three max_four min_four   -- for this text's walks alone
set_option linter.unusedVariables false
set_option linter.unusedSimpArgs false
open Bool renaming true → t_, false → f_
mutual
def impl_putWire.l0 : Nat → List (S98) → List (S103) → Int → Int → Int → Option ((List (S103)) × Bool)
 | 0, _, _, _, _, _ => none
 | k + 1, x0, x1, x2, x13, x14 => if x14 < x13 then ((impl_freePins.f k x0 x1 x14).bind fun t227 => (if (t227.length : Int) = 0 then (impl_putWire.l0 k x0 x1 x2 x13 (wrap64 (x14 + 1))) else ((some (([] : List (S103)) : List (S103))).bind fun y230 => (if y230.length + x1.length < 5864062014805 then ((some (y230 ++ x1 : List (S103))).bind fun y233 => (if 0 < (t227.length : Int) then ((some (([(⟨x2, x14, rd t227 0⟩ : S103)] : List (S103)) : List (S103))).bind fun y237 => (if y233.length + y237.length < 5864062014805 then ((some (y233 ++ y237 : List (S103))).bind fun y240 => (impl_putWire.l1 k y240 (wrap64 ((y240.length : Int) - 1)))) else (none))) else (none))) else (none))))) else (some (([] : List (S103)), false))
def impl_putWire.l1 : Nat → List (S103) → Int → Option ((List (S103)) × Bool)
 | 0, _, _ => none
 | k + 1, x10, x11 => if x11 > 0 then (if 0 ≤ (wrap64 (x11 - 1)) then (if (wrap64 (x11 - 1)) < (x10.length : Int) then (if 0 ≤ x11 then (if x11 < (x10.length : Int) then (if ((rd_T103 x10 (wrap64 (x11 - 1))).f0) > ((rd_T103 x10 x11).f0) then (impl_putWire.l1 k ((x10.set ((wrap64 (x11 - 1)) : Int).toNat (⟨(rd_T103 x10 x11).f0, (rd_T103 x10 x11).f1, (rd_T103 x10 x11).f2⟩ : S103)).set (x11 : Int).toNat (⟨(rd_T103 x10 (wrap64 (x11 - 1))).f0, (rd_T103 x10 (wrap64 (x11 - 1))).f1, (rd_T103 x10 (wrap64 (x11 - 1))).f2⟩ : S103)) (wrap64 (x11 - 1))) else (some (x10, true))) else (none)) else (none)) else (none)) else (none)) else (some (x10, true))
end
def impl_putWire.f (k : Nat) (l0 : List (S98)) (l1 : List (S103)) (a2 : Int) : Option ((List (S103)) × Bool) := impl_putWire.l0 k l0 l1 a2 (l0.length : Int) 0
theorem impl_putWire.mono_l : ∀ k, (∀ y0 y1 y2 y3 y4, LeO (impl_putWire.l0 k y0 y1 y2 y3 y4) (impl_putWire.l0 (k + 1) y0 y1 y2 y3 y4)) ∧ (∀ y0 y1, LeO (impl_putWire.l1 k y0 y1) (impl_putWire.l1 (k + 1) y0 y1))
 | 0 => ⟨fun _ _ _ _ _ r h => by simp [impl_putWire.l0] at h, fun _ _ r h => by simp [impl_putWire.l1] at h⟩
 | k + 1 => by
  obtain ⟨ih0, ih1⟩ := impl_putWire.mono_l k
  refine ⟨?_, ?_⟩
  ·intro y0 y1 y2 y3 y4
   unfold impl_putWire.l0
   repeat' first
   | (with_reducible exact ih0 _ _ _ _ _)
   | (with_reducible exact ih1 _ _)
   | (with_reducible exact impl_freePins.mono _ _ _ _)
   | (with_reducible exact LeO.refl _)
   | (with_reducible exact LeO.none _)
   | (with_reducible refine LeO.ite ?_ ?_)
   | (with_reducible refine LeO.bind ?_ (fun _ => ?_))
   | exact ih0 _ _ _ _ _
   | exact ih1 _ _
   | exact impl_freePins.mono _ _ _ _
   | exact LeO.none _
   | refine LeO.ite ?_ ?_
   | refine LeO.bind ?_ (fun _ => ?_)
  ·intro y0 y1
   unfold impl_putWire.l1
   repeat' first
   | (with_reducible exact ih0 _ _ _ _ _)
   | (with_reducible exact ih1 _ _)
   | (with_reducible exact impl_freePins.mono _ _ _ _)
   | (with_reducible exact LeO.refl _)
   | (with_reducible exact LeO.none _)
   | (with_reducible refine LeO.ite ?_ ?_)
   | (with_reducible refine LeO.bind ?_ (fun _ => ?_))
   | exact ih0 _ _ _ _ _
   | exact ih1 _ _
   | exact impl_freePins.mono _ _ _ _
   | exact LeO.none _
   | refine LeO.ite ?_ ?_
   | refine LeO.bind ?_ (fun _ => ?_)
theorem impl_putWire.mono : ∀ a0 a1 a2 k, LeO (impl_putWire.f k a0 a1 a2) (impl_putWire.f (k + 1) a0 a1 a2) := by
 intro a0 a1 a2 k
 obtain ⟨ih0, ih1⟩ := impl_putWire.mono_l k
 unfold impl_putWire.f
 repeat' first
   | (with_reducible exact ih0 _ _ _ _ _)
   | (with_reducible exact ih1 _ _)
   | (with_reducible exact impl_freePins.mono _ _ _ _)
   | (with_reducible exact LeO.refl _)
   | (with_reducible exact LeO.none _)
   | (with_reducible refine LeO.ite ?_ ?_)
   | (with_reducible refine LeO.bind ?_ (fun _ => ?_))
   | exact ih0 _ _ _ _ _
   | exact ih1 _ _
   | exact impl_freePins.mono _ _ _ _
   | exact LeO.none _
   | refine LeO.ite ?_ ?_
   | refine LeO.bind ?_ (fun _ => ?_)
def impl_putWire.T6 : Bool × List (List Nat × List Nat) := (true, [([], []), ([], []), ([0, 1], [0, 1]), ([], []), ([], []), ([], []), ([5], [5]), ([6], [6]), ([3, 4, 7], [3, 4, 7]), ([8], [8]), ([2, 9, 2], [2, 9]), ([10, 10, 0, 1, 2, 3, 4, 5, 6, 7, 8, 9, 10], [10])])
def impl_putWire.B6 : List Nat := [0, 0, 3, 0, 0, 0, 32, 96, 248, 504, 1023, 2047]
theorem impl_putWire.tab6 : rtab .any (opsOf Try.f80 6) = impl_putWire.T6 := by kernel_rfl
theorem impl_putWire.bits6 : waitsOk impl_putWire.T6.2 impl_putWire.B6 = true := by kernel_rfl
def impl_putWire.T8 : Bool × List (List Nat × List Nat) := (true, [([], []), ([0], [0]), ([1], [1]), ([2], [2]), ([2], [2]), ([4, 2], [2, 4]), ([3, 5, 2], [2, 3, 5]), ([6, 2], [2, 6]), ([7, 2], [2, 7]), ([2], [2]), ([2], [2]), ([9, 10, 2], [2, 9, 10]), ([11, 2], [2, 11]), ([12, 2], [2, 12]), ([8, 13, 2], [2, 8, 13]), ([2, 14], [2, 14])])
def impl_putWire.B8 : List Nat := [0, 1, 3, 7, 7, 23, 63, 127, 255, 7, 7, 1543, 3591, 7687, 16383, 32767]
theorem impl_putWire.tab8 : rtab .any (opsOf Try.f80 8) = impl_putWire.T8 := by kernel_rfl
theorem impl_putWire.bits8 : waitsOk impl_putWire.T8.2 impl_putWire.B8 = true := by kernel_rfl
def impl_putWire.T10 : Bool × List (List Nat × List Nat) := (true, [([], []), ([], []), ([1], [1]), ([], []), ([], []), ([], []), ([], []), ([5, 6], [5, 6]), ([7], [7]), ([], []), ([], []), ([10], [10]), ([9, 11], [9, 11]), ([12], [12]), ([0, 2, 0, 1, 2, 5, 6, 7, 8, 13], [0, 2]), ([14, 8, 0, 1, 2, 5, 6, 7, 8, 13], [8, 14]), ([3, 4, 0, 1, 2, 3, 4, 5, 6, 7, 8, 9, 10, 11, 12, 13, 14, 15], [3, 4]), ([16, 13, 15, 0, 1, 2, 3, 4, 5, 6, 7, 8, 9, 10, 11, 12, 13, 14, 15], [13, 16])])
def impl_putWire.B10 : List Nat := [0, 0, 2, 0, 0, 0, 0, 96, 224, 0, 0, 1024, 3584, 7680, 16359, 32743, 65535, 131071]
theorem impl_putWire.tab10 : rtab .any (opsOf Try.f80 10) = impl_putWire.T10 := by kernel_rfl
theorem impl_putWire.bits10 : waitsOk impl_putWire.T10.2 impl_putWire.B10 = true := by kernel_rfl
set_option maxHeartbeats 8000000 in
set_option maxRecDepth 100000 in
theorem impl_putWire.calls (k : Nat) (A0 : Option Addr) (c0 : Nat) (l0 : List (S98)) (A1 : Option Addr) (c1 : Nat) (l1 : List (S103)) (a2 : Int) (r1 : List (S103)) (r2 : Bool) (w : World) (hr0 : Kd.C k98 w A0 l0.length l0) (hc0 : l0.length ≤ c0) (hr1 : Kd.C k103 w A1 l1.length l1) (hc1 : l1.length ≤ c1) (h : impl_putWire.f k l0 l1 a2 = some (r1, r2)) :
  Calls Try.prog 80 #[.slice A0 l0.length c0, .slice A1 l1.length c1, .int .i64 a2] w fun e w' => ∃ v0_ : Value, e = .returned (.tuple #[v0_, .bool r2]) ∧ Kd.R k103 103 w' w.heap.size (fun _ => True) v0_ r1 ∧ Below w.heap.size w w' := by
 have hu103 := Try.underlying103
 have HR0 := Aside0.mk hr0
 have HC0 := Aside0.mk hc0
 clear hr0 hc0
 have HR1 := Aside0.mk hr1
 have HC1 := Aside0.mk hc1
 clear hr1 hc1
 have HB := Aside0.mk (Below.refl w.heap.size w)
 have H : (impl_putWire.l0 k l0 l1 a2 (l0.length : Int) 0) = some (r1, r2) := h
 clear h
 have H' := Aside0.mk H
 clear H
 go_enter Try.func80, Try.ntmps80
 go_wp2
 go_loopg [14] k (fun kq v14 w' => ∃ (x14_1 : Int), v14 = .int .i64 x14_1 ∧ Aside0 (impl_putWire.l0 kq l0 l1 a2 (l0.length : Int) x14_1 = some (r1, r2)) ∧ Aside0 (kq ≤ k) ∧ Aside0 (Below w.heap.size w w'))
 case atStart => exact ⟨(0), (by first | rfl | (simp; done) | (simp [*]; done)), H', ⟨Nat.le_refl _⟩, ⟨bl_ HB.out⟩⟩
 case round =>
  clear H'
  try clear c1
  try clear p2
  obtain ⟨x14_1, rfl, HA, HK1, HB⟩ := hrel
  cases gk with
  | zero => exact absurd HA.out (by simp [impl_putWire.l0])
  | succ k1 =>
   have H := HA.out
   clear HA
   simp only [impl_putWire.l0] at H
   by_cases c4 : x14_1 < (l0.length : Int)
   ·rw [if_pos c4] at H
    have c4b0 : decide (x14_1 < (l0.length : Int)) = true := decide_eq_true c4
    clear c4
    replace H := Option.bind_eq_some_iff.mp H
    obtain ⟨t227, A50, H⟩ := H
    replace H : (if (t227.length : Int) = 0 then (impl_putWire.l0 k1 l0 l1 a2 (l0.length : Int) (wrap64 (x14_1 + 1))) else ((some (([] : List (S103)) : List (S103))).bind fun y230 => (if y230.length + l1.length < 5864062014805 then ((some (y230 ++ l1 : List (S103))).bind fun y233 => (if 0 < (t227.length : Int) then ((some (([(⟨a2, x14_1, rd t227 0⟩ : S103)] : List (S103)) : List (S103))).bind fun y237 => (if y233.length + y237.length < 5864062014805 then ((some (y233 ++ y237 : List (S103))).bind fun y240 => (impl_putWire.l1 k1 y240 (wrap64 ((y240.length : Int) - 1)))) else (none))) else (none))) else (none)))) = some (r1, r2) := H
    have A5 := Aside0.mk A50
    clear A50
    by_cases c6 : (t227.length : Int) = 0
    ·rw [if_pos c6] at H
     have c6b0 : ((t227.length : Int) == 0) = true := beq_iff_eq.mpr c6
     have c6b1 : ((t227.length : Int) != 0) = false := bne_eq_false_iff_eq.mpr c6
     clear c6
     have H' := Aside0.mk H
     clear H
     go_wp2_with (first | ((with_reducible refine gate_callee (f := 128) rfl ?_); refine goesL_ (some 20) rfl rfl Try.func128 (by kernel_rfl) rfl #[.slice A0 l0.length c0, .slice A1 l1.length c1, .int .i64 x14_1] rfl ag_ ?_; (with_reducible refine (impl_freePins.calls k1 _ _ l0 _ _ l1 x14_1 t227 _ ?side1 ?side2 ?side3 ?side4 A5.out).mono ?_); (case side1 => exact r9_ HR0.out HB.out); (case side2 => exact HC0.out); (case side3 => exact r9_ HR1.out HB.out); (case side4 => exact HC1.out); rintro e w7 ⟨v228, rfl, ho0, hb⟩; refine ⟨_, rfl, ?_⟩; have n0_ := Aside0.mk (Kd.R_lower ho0 (below_size (bl_ HB.out))); have n1_ := Aside0.mk (below_step (bl_ HB.out) hb); clear HB; have HO229 := n0_; have HB := n1_; clear n0_ n1_; (try clear hb); (try clear hb2); (try clear hk); (try clear hi); (try clear ho0); obtain ⟨Ao8, co8, eo8⟩ := Kd.R_slice HO229.out; subst eo8))
     go_roundg k1
     case measure => have := HK1.out; omega
     case rel => exact ⟨(wrap64 (x14_1 + 1)), (by first | rfl | (simp; done) | (simp [*]; done)), H', ⟨by have := HK1.out; omega⟩, ⟨bl_ HB.out⟩⟩
    ·rw [if_neg c6] at H
     have c6b0 : ((t227.length : Int) == 0) = false := beq_eq_false_iff_ne.mpr c6
     have c6b1 : ((t227.length : Int) != 0) = true := bne_iff_ne.mpr c6
     have c6b2 : ¬ (t227 = []) := fun h_ => c6 (by rw [h_]; rfl)
     obtain ⟨y230, hy230⟩ : ∃ y_ : List (S103), y_ = (([] : List (S103))) := ⟨_, rfl⟩
     replace H : (if y230.length + l1.length < 5864062014805 then ((some (y230 ++ l1 : List (S103))).bind fun y233 => (if 0 < (t227.length : Int) then ((some (([(⟨a2, x14_1, rd t227 0⟩ : S103)] : List (S103)) : List (S103))).bind fun y237 => (if y233.length + y237.length < 5864062014805 then ((some (y233 ++ y237 : List (S103))).bind fun y240 => (impl_putWire.l1 k1 y240 (wrap64 ((y240.length : Int) - 1)))) else (none))) else (none))) else (none)) = some (r1, r2) := by first | (rw [hy230]; with_reducible exact H) | (have H2_ := (Option.bind_some _ _).symm.trans H; rw [hy230]; with_reducible exact H2_) | (have H2_ := (Option.bind_some _ _).symm.trans H; with_reducible exact H2_) | with_reducible exact H | (rw [hy230]; exact H) | exact H
     have Ny230 := Aside0.mk hy230
     clear hy230
     by_cases c9 : y230.length + l1.length < 5864062014805
     case neg =>
      rw [if_neg c9] at H
      exact absurd H (by simp)
     rw [if_pos c9] at H
     have LMc9 := Aside0.mk c9
     clear c9
     obtain ⟨y233, hy233⟩ : ∃ y_ : List (S103), y_ = (y230 ++ l1) := ⟨_, rfl⟩
     replace H : (if 0 < (t227.length : Int) then ((some (([(⟨a2, x14_1, rd t227 0⟩ : S103)] : List (S103)) : List (S103))).bind fun y237 => (if y233.length + y237.length < 5864062014805 then ((some (y233 ++ y237 : List (S103))).bind fun y240 => (impl_putWire.l1 k1 y240 (wrap64 ((y240.length : Int) - 1)))) else (none))) else (none)) = some (r1, r2) := by first | (rw [hy233]; with_reducible exact H) | (have H2_ := (Option.bind_some _ _).symm.trans H; rw [hy233]; with_reducible exact H2_) | (have H2_ := (Option.bind_some _ _).symm.trans H; with_reducible exact H2_) | with_reducible exact H | (rw [hy233]; exact H) | exact H
     have Ny233 := Aside0.mk hy233
     clear hy233
     by_cases c10 : 0 < (t227.length : Int)
     case neg =>
      rw [if_neg c10] at H
      exact absurd H (by simp)
     rw [if_pos c10] at H
     have c10b0 : decide (0 < (t227.length : Int)) = true := decide_eq_true c10
     have c10b1 : decide (0 < t227.length) = true := decide_eq_true (by omega)
     clear c10
     obtain ⟨y237, hy237⟩ : ∃ y_ : List (S103), y_ = (([(⟨a2, x14_1, rd t227 0⟩ : S103)] : List (S103))) := ⟨_, rfl⟩
     replace H : (if y233.length + y237.length < 5864062014805 then ((some (y233 ++ y237 : List (S103))).bind fun y240 => (impl_putWire.l1 k1 y240 (wrap64 ((y240.length : Int) - 1)))) else (none)) = some (r1, r2) := by first | (rw [hy237]; with_reducible exact H) | (have H2_ := (Option.bind_some _ _).symm.trans H; rw [hy237]; with_reducible exact H2_) | (have H2_ := (Option.bind_some _ _).symm.trans H; with_reducible exact H2_) | with_reducible exact H | (rw [hy237]; exact H) | exact H
     have Ny237 := Aside0.mk hy237
     clear hy237
     by_cases c11 : y233.length + y237.length < 5864062014805
     case neg =>
      rw [if_neg c11] at H
      exact absurd H (by simp)
     rw [if_pos c11] at H
     have LMc11 := Aside0.mk c11
     clear c11
     obtain ⟨y240, hy240⟩ : ∃ y_ : List (S103), y_ = (y233 ++ y237) := ⟨_, rfl⟩
     replace H : (impl_putWire.l1 k1 y240 (wrap64 ((y240.length : Int) - 1))) = some (r1, r2) := by first | (rw [hy240]; with_reducible exact H) | (have H2_ := (Option.bind_some _ _).symm.trans H; rw [hy240]; with_reducible exact H2_) | (have H2_ := (Option.bind_some _ _).symm.trans H; with_reducible exact H2_) | with_reducible exact H | (rw [hy240]; exact H) | exact H
     have Ny240 := Aside0.mk hy240
     clear hy240
     have H' := Aside0.mk H
     clear H
     try go_wp2_with (first | ((with_reducible refine gate_callee (f := 128) rfl ?_); refine goesL_ (some 20) rfl rfl Try.func128 (by kernel_rfl) rfl #[.slice A0 l0.length c0, .slice A1 l1.length c1, .int .i64 x14_1] rfl ag_ ?_; (with_reducible refine (impl_freePins.calls k1 _ _ l0 _ _ l1 x14_1 t227 _ ?side1 ?side2 ?side3 ?side4 A5.out).mono ?_); (case side1 => exact r9_ HR0.out HB.out); (case side2 => exact HC0.out); (case side3 => exact r9_ HR1.out HB.out); (case side4 => exact HC1.out); rintro e w12 ⟨v228, rfl, ho0, hb⟩; refine ⟨_, rfl, ?_⟩; have n0_ := Aside0.mk (Kd.R_lower ho0 (below_size (bl_ HB.out))); have n1_ := Aside0.mk (below_step (bl_ HB.out) hb); clear HB; have HO229 := n0_; have HB := n1_; clear n0_ n1_; (try clear hb); (try clear hb2); (try clear hk); (try clear hi); (try clear ho0); obtain ⟨Ao13, co13, eo13⟩ := Kd.R_slice HO229.out; subst eo13))
     have n0_ := Aside0.mk (Kd.R_drew HO229.out)
     have n1_ := Aside0.mk (below_drew1 HB.out)
     clear HO229
     clear HB
     have HO229 := n0_
     have HB := n1_
     clear n0_ n1_
     have p236 : 0 ≤ (0 : Int) := (by omega)
     have q236 : 0 < (t227.length : Int) := od_
     obtain ⟨ad236, e236, hx236_0⟩ := Kd.at_int (Kd.R_reads' HO229.out).2.2 0 p236 q236
     cases e236
     have qi236 : (0 < t227.length) = True := eq_true (by omega)
     (try rw [show ((0 : Int)).toNat = 0 from rfl] at hx236_0)
     (try rw [Addr.add_zero'] at hx236_0)
     replace p236 := eq_true p236
     replace q236 := eq_true q236
     refine start_ (n := 12) (S := fun w' => w'.cell? ad236 = some (.int .i64 (rd t227 0))) (ds := []) #[f_,f_,f_,f_,f_,f_,f_,f_,f_,f_,f_,f_] (by kernel_rfl) rfl rfl (hx236_0) (fun hHeld => ?_); refine with_tabW impl_putWire.tab6 impl_putWire.bits6 (fun HT_ HW_ => ?_)
     generalize w12.drew = w14 at HO229 HB hx236_0 hHeld ⊢
     refine pu_ 1 25 #[f_,t_,f_,f_,f_,f_,f_,f_,f_,f_,f_,f_] HT_.out ?_
     refine pu_ 3 27 #[f_,t_,f_,t_,f_,f_,f_,f_,f_,f_,f_,f_] HT_.out ?_
     refine pu_ 4 28 #[f_,t_,f_,t_,t_,f_,f_,f_,f_,f_,f_,f_] HT_.out ?_
     refine pu_ 5 29 #[f_,t_,f_,t_,t_,t_,f_,f_,f_,f_,f_,f_] HT_.out ?_
     refine pu_ 6 30 #[f_,t_,f_,t_,t_,t_,t_,f_,f_,f_,f_,f_] HT_.out ?_
     refine take_ (i := 7) (N := some 31) (v := ?_) (a' := ?_) #[f_,t_,f_,t_,t_,t_,t_,t_,f_,f_,f_,f_] rfl rfl (take_ofW HT_.out HW_.out (by kernel_rfl)) (fun _ _ _ h => h) (Or.inl ⟨by rfl, ?_⟩) hHeld ?_ ?_
     rotate_left
     ·intro w' s0
      go_simp
      with_reducible rfl
     rotate_left
     ·simp only [pz_]
      rfl
     refine pu_ 8 32 #[f_,t_,f_,t_,t_,t_,t_,t_,t_,f_,f_,f_] HT_.out ?_
     refine join_ (σ := Value × Value × Value) 2 #[t_,t_,t_,t_,t_,t_,t_,t_,t_,t_,f_,f_] (fun s_ => [(24, s_.1), (26, s_.2.1), (33, s_.2.2)]) (fun s_ w' => (w'.cell? ad236 = some (.int .i64 (rd t227 0))) ∧ (Kd.R (Kd.int .i64) 2 w' w.heap.size (fun _ => True) (.slice (some ad236) t227.length co13) t227) ∧ (Kd.R k103 103 w' w.heap.size (fun k_ => some k_ ≠ (s_.2.2 : Value).ownBlock) s_.2.1 y233) ∧ (Kd.R k103 103 w' w.heap.size (fun k_ => some k_ ≠ (s_.2.1 : Value).ownBlock) s_.2.2 y237) ∧ (Below w.heap.size w w')) ?_ ?_
     rotate_left
     ·intro hCont
      refine two_ (i := 0) (j := 9) (Ni := some 24) (Nj := some 33) #[t_,t_,f_,t_,t_,t_,t_,t_,t_,f_,f_,f_] #[f_,t_,f_,t_,t_,t_,t_,t_,t_,t_,f_,f_] rfl rfl rfl rfl (two_of HT_.out (by kernel_rfl)) (by decide) (by decide) (fun K hK => ?_) (fun K hK => ?_)
      ·skip
       refine Kd.R_lit_step k103 _ 103 ?hg (N := 24) ?hd (xs := ([] : List (S103))) (inner := []) (ok := fun _ => True) (okp := fun _ => True) ?hr ?hp (fun _ hk => hk) trivial (Below.refl _ _) (Nat.le_refl _) (by simp) ?_; (case hd => rfl); (case hg => rfl); (case hr => first | (go_simp; done) | (go_simp; rfl)); (case hp => exact (Reps.none _ _))
       intro v231 w15 ho16 hb hg_ hnew_
       have HS0_ := (hb.cell (World.block_lt_of_cell? _ _ (hHeld))).trans (hHeld)
       clear hg_ hnew_
       (first | rw [← Ny230.out] at ho16 | (simp only [Int.reduceToNat] at ho16; rw [← Ny230.out] at ho16))
       have n0_ := Aside0.mk (Kd.R_below (rk_ HO229.out) hb)
       have n1_ := Aside0.mk (Kd.R_lower ho16 (below_size (bl_ HB.out)))
       have n2_ := Aside0.mk (below_step (bl_ HB.out) hb)
       clear HO229
       clear HB
       have HO229 := n0_
       have HO232 := n1_
       have HB := n2_
       clear n0_ n1_ n2_
       clear hb ho16
       refine hK.out _ _ (HS0_) (fun hHeld => ?_)
       clear hK K
       refine norm_ (a' := ?_) ?_ ?_
       rotate_left
       ·show Act.put _ (some 24) _ = _
        simp only [pz_]
        rfl
       refine two_ (i := 2) (j := 9) (Ni := some 26) (Nj := some 33) #[t_,t_,t_,t_,t_,t_,t_,t_,t_,f_,f_,f_] #[t_,t_,f_,t_,t_,t_,t_,t_,t_,t_,f_,f_] rfl rfl rfl rfl (two_of HT_.out (by kernel_rfl)) (by decide) (by decide) (fun K hK => ?_) (fun K hK => ?_)
       ·skip
        refine Kd.R_append_rows_step k103 (w0 := w) w.heap.size (by rfl) (.tmp 24) (.tmp 25) 26 103 (.agg #[(.int .i64 0), (.int .i64 0), (.int .i64 0)]) 24 rfl Try.underlying26 info103 rfl (by decide) (by omega) v231 y230 l1 _ _ _ (fun _ => True) (fun _ => False) rfl rfl ?aO ?aR (fun _ _ h => h) (fun _ h => h.elim) ?aF ?aB ?aS ?aL ?_
        (case aR => exact r9_ HR1.out HB.out)
        (case aB => exact (bl_ HB.out))
        (case aF => exact (fun _ _ => trivial))
        (case aO => exact (rk_ HO232.out))
        (case aS => exact (below_size (bl_ HB.out)))
        (case aL => have := LMc9.out; omega)
        intro v234 w17 ho hb hg hat
        have HS0_ := cell_grown hg (hHeld) (by obtain ⟨cs_, hc_⟩ := Kd.R_typed (HO229.out) _ rfl; exact Kd.R_ne (HO232.out) hc_ (by decide))
        rw [← Ny233.out] at ho
        have n0_ := Aside0.mk (Kd.R_over' (rk_ HO229.out) (Kd.R_typed (rk_ HO232.out)) (by decide) hg)
        have n1_ := Aside0.mk (hb)
        have n2_ := Aside0.mk (ho)
        clear HO229
        clear HB
        clear HO232
        have HO229 := n0_
        have HB := n1_
        have HO235 := n2_
        clear n0_ n1_ n2_
        clear ho hb hg hat
        refine hK.out _ _ (HS0_) (fun hHeld => ?_)
        clear hK K
        refine norm_ (a' := ?_) ?_ ?_
        rotate_left
        ·show Act.put _ (some 26) _ = _
         simp only [pz_]
         rfl
        refine one_ (i := 9) (N := some 33) #[t_,t_,t_,t_,t_,t_,t_,t_,t_,t_,f_,f_] rfl rfl (one_of HT_.out (by kernel_rfl)) (by decide) (fun K hK => ?_)
        refine Kd.R_lit_step k103 _ 103 ?hg (N := 33) ?hd (xs := ([(⟨a2, x14_1, rd t227 0⟩ : S103)] : List (S103))) (inner := [.int .i64 a2, .int .i64 x14_1, .int .i64 (rd t227 0)]) (ok := fun _ => True) (okp := fun _ => True) ?hr ?hp (fun _ hk => hk) trivial (Below.refl _ _) (Nat.le_refl _) (by simp) ?_; (case hd => rfl); (case hg => rfl); (case hr => first | (go_simp; done) | (go_simp; rfl)); (case hp => exact (Reps.c3 (show Kd.M k103 _ _ _ (⟨a2, x14_1, rd t227 0⟩ : S103) [.int .i64 a2, .int .i64 x14_1, .int .i64 (rd t227 0)] from (k103_mkM _ _ _ (⟨a2, x14_1, rd t227 0⟩ : S103) )) (Reps.none _ _)))
        intro v238 w18 ho19 hb hg_ hnew_
        have HS0_ := (hb.cell (World.block_lt_of_cell? _ _ (hHeld))).trans (hHeld)
        clear hg_ hnew_
        (first | rw [← Ny237.out] at ho19 | (simp only [Int.reduceToNat] at ho19; rw [← Ny237.out] at ho19))
        have n0_ := Aside0.mk (Kd.R_below (rk_ HO229.out) hb)
        have n1_ := Aside0.mk (Kd.R_elder' (rk_ HO235.out) (Kd.R_base ho19) hb)
        have n2_ := Aside0.mk (Kd.R_lower (Kd.R_new' ho19 (Kd.R_lt (rk_ HO235.out))) (below_size (bl_ HB.out)))
        have n3_ := Aside0.mk (below_step (bl_ HB.out) hb)
        clear HO229
        clear HO235
        clear HB
        have HO229 := n0_
        have HO235 := n1_
        have HO239 := n2_
        have HB := n3_
        clear n0_ n1_ n2_ n3_
        clear hb ho19
        refine hK.out _ _ (HS0_) (fun hHeld => ?_)
        clear hK K
        refine norm_ (a' := ?_) ?_ ?_
        rotate_left
        ·show Act.put _ (some 33) _ = _
         simp only [pz_]
         rfl
        exact norm_ (by simp only [putAll, Act.put, List.setIfInBounds_toArray, List.set_cons_zero, List.set_cons_succ]) (hCont (v231, v234, v238) _ ⟨hHeld, (rk_ HO229.out), (rk_ (Kd.R_mono HO235.out (fun _ hk => hk.2))), (rk_ (Kd.R_mono HO239.out (fun _ hk => hk.2))), (bl_ HB.out)⟩)
       ·skip
        refine Kd.R_lit_step k103 _ 103 ?hg (N := 33) ?hd (xs := ([(⟨a2, x14_1, rd t227 0⟩ : S103)] : List (S103))) (inner := [.int .i64 a2, .int .i64 x14_1, .int .i64 (rd t227 0)]) (ok := fun _ => True) (okp := fun _ => True) ?hr ?hp (fun _ hk => hk) trivial (Below.refl _ _) (Nat.le_refl _) (by simp) ?_; (case hd => rfl); (case hg => rfl); (case hr => first | (go_simp; done) | (go_simp; rfl)); (case hp => exact (Reps.c3 (show Kd.M k103 _ _ _ (⟨a2, x14_1, rd t227 0⟩ : S103) [.int .i64 a2, .int .i64 x14_1, .int .i64 (rd t227 0)] from (k103_mkM _ _ _ (⟨a2, x14_1, rd t227 0⟩ : S103) )) (Reps.none _ _)))
        intro v238 w17 ho18 hb hg_ hnew_
        have HS0_ := (hb.cell (World.block_lt_of_cell? _ _ (hHeld))).trans (hHeld)
        clear hg_ hnew_
        (first | rw [← Ny237.out] at ho18 | (simp only [Int.reduceToNat] at ho18; rw [← Ny237.out] at ho18))
        have n0_ := Aside0.mk (Kd.R_below (rk_ HO229.out) hb)
        have n1_ := Aside0.mk (Kd.R_elder' (rk_ HO232.out) (Kd.R_base ho18) hb)
        have n2_ := Aside0.mk (Kd.R_lower (Kd.R_new' ho18 (Kd.R_lt (rk_ HO232.out))) (below_size (bl_ HB.out)))
        have n3_ := Aside0.mk (below_step (bl_ HB.out) hb)
        clear HO229
        clear HO232
        clear HB
        have HO229 := n0_
        have HO232 := n1_
        have HO239 := n2_
        have HB := n3_
        clear n0_ n1_ n2_ n3_
        clear hb ho18
        refine hK.out _ _ (HS0_) (fun hHeld => ?_)
        clear hK K
        refine norm_ (a' := ?_) ?_ ?_
        rotate_left
        ·show Act.put _ (some 33) _ = _
         simp only [pz_]
         rfl
        refine one_ (i := 2) (N := some 26) #[t_,t_,t_,t_,t_,t_,t_,t_,t_,t_,f_,f_] rfl rfl (one_of HT_.out (by kernel_rfl)) (by decide) (fun K hK => ?_)
        refine Kd.R_append_rows_step k103 (w0 := w) w.heap.size (by rfl) (.tmp 24) (.tmp 25) 26 103 (.agg #[(.int .i64 0), (.int .i64 0), (.int .i64 0)]) 24 rfl Try.underlying26 info103 rfl (by decide) (by omega) v231 y230 l1 _ _ _ (fun k_ => some k_ ≠ (v238 : Value).ownBlock) (fun _ => False) rfl rfl ?aO ?aR (fun _ _ h => h) (fun _ h => h.elim) ?aF ?aB ?aS ?aL ?_
        (case aR => exact r9_ HR1.out HB.out)
        (case aB => exact (bl_ HB.out))
        (case aF => exact (fun k_ hk => Kd.fresh' (Kd.R_lt (rk_ HO239.out)) k_ hk))
        (case aO => exact (rk_ (Kd.R_mono HO232.out (fun _ hk => hk.2))))
        (case aS => exact (below_size (bl_ HB.out)))
        (case aL => have := LMc9.out; omega)
        intro v234 w19 ho hb hg hat
        have HS0_ := cell_grown hg (hHeld) (by obtain ⟨cs_, hc_⟩ := Kd.R_typed (HO229.out) _ rfl; exact Kd.R_ne (HO232.out) hc_ (by decide))
        rw [← Ny233.out] at ho
        have n0_ := Aside0.mk (Kd.R_over' (rk_ HO229.out) (Kd.R_typed (rk_ HO232.out)) (by decide) hg)
        have n1_ := Aside0.mk (Kd.R_after (ok := (fun _ => True)) (rk_ HO239.out) hg hat)
        have n2_ := Aside0.mk (hb)
        have n3_ := Aside0.mk (ho)
        clear HO229
        clear HO239
        clear HB
        clear HO232
        have HO229 := n0_
        have HO239 := n1_
        have HB := n2_
        have HO235 := n3_
        clear n0_ n1_ n2_ n3_
        clear ho hb hg hat
        refine hK.out _ _ (HS0_) (fun hHeld => ?_)
        clear hK K
        refine norm_ (a' := ?_) ?_ ?_
        rotate_left
        ·show Act.put _ (some 26) _ = _
         simp only [pz_]
         rfl
        exact norm_ (by simp only [putAll, Act.put, List.setIfInBounds_toArray, List.set_cons_zero, List.set_cons_succ]) (hCont (v231, v234, v238) _ ⟨hHeld, (rk_ HO229.out), (rk_ HO235.out), (rk_ (Kd.R_mono HO239.out (fun _ hk => hk.2))), (bl_ HB.out)⟩)
      ·skip
       refine Kd.R_lit_step k103 _ 103 ?hg (N := 33) ?hd (xs := ([(⟨a2, x14_1, rd t227 0⟩ : S103)] : List (S103))) (inner := [.int .i64 a2, .int .i64 x14_1, .int .i64 (rd t227 0)]) (ok := fun _ => True) (okp := fun _ => True) ?hr ?hp (fun _ hk => hk) trivial (Below.refl _ _) (Nat.le_refl _) (by simp) ?_; (case hd => rfl); (case hg => rfl); (case hr => first | (go_simp; done) | (go_simp; rfl)); (case hp => exact (Reps.c3 (show Kd.M k103 _ _ _ (⟨a2, x14_1, rd t227 0⟩ : S103) [.int .i64 a2, .int .i64 x14_1, .int .i64 (rd t227 0)] from (k103_mkM _ _ _ (⟨a2, x14_1, rd t227 0⟩ : S103) )) (Reps.none _ _)))
       intro v238 w15 ho16 hb hg_ hnew_
       have HS0_ := (hb.cell (World.block_lt_of_cell? _ _ (hHeld))).trans (hHeld)
       clear hg_ hnew_
       (first | rw [← Ny237.out] at ho16 | (simp only [Int.reduceToNat] at ho16; rw [← Ny237.out] at ho16))
       have n0_ := Aside0.mk (Kd.R_below (rk_ HO229.out) hb)
       have n1_ := Aside0.mk (Kd.R_lower ho16 (below_size (bl_ HB.out)))
       have n2_ := Aside0.mk (below_step (bl_ HB.out) hb)
       clear HO229
       clear HB
       have HO229 := n0_
       have HO239 := n1_
       have HB := n2_
       clear n0_ n1_ n2_
       clear hb ho16
       refine hK.out _ _ (HS0_) (fun hHeld => ?_)
       clear hK K
       refine norm_ (a' := ?_) ?_ ?_
       rotate_left
       ·show Act.put _ (some 33) _ = _
        simp only [pz_]
        rfl
       refine one_ (i := 0) (N := some 24) #[t_,t_,f_,t_,t_,t_,t_,t_,t_,t_,f_,f_] rfl rfl (one_of HT_.out (by kernel_rfl)) (by decide) (fun K hK => ?_)
       refine Kd.R_lit_step k103 _ 103 ?hg (N := 24) ?hd (xs := ([] : List (S103))) (inner := []) (ok := fun _ => True) (okp := fun _ => True) ?hr ?hp (fun _ hk => hk) trivial (Below.refl _ _) (Nat.le_refl _) (by simp) ?_; (case hd => rfl); (case hg => rfl); (case hr => first | (go_simp; done) | (go_simp; rfl)); (case hp => exact (Reps.none _ _))
       intro v231 w17 ho18 hb hg_ hnew_
       have HS0_ := (hb.cell (World.block_lt_of_cell? _ _ (hHeld))).trans (hHeld)
       clear hg_ hnew_
       (first | rw [← Ny230.out] at ho18 | (simp only [Int.reduceToNat] at ho18; rw [← Ny230.out] at ho18))
       have n0_ := Aside0.mk (Kd.R_below (rk_ HO229.out) hb)
       have n1_ := Aside0.mk (Kd.R_elder' (rk_ HO239.out) (Kd.R_base ho18) hb)
       have n2_ := Aside0.mk (Kd.R_lower (Kd.R_new' ho18 (Kd.R_lt (rk_ HO239.out))) (below_size (bl_ HB.out)))
       have n3_ := Aside0.mk (below_step (bl_ HB.out) hb)
       clear HO229
       clear HO239
       clear HB
       have HO229 := n0_
       have HO239 := n1_
       have HO232 := n2_
       have HB := n3_
       clear n0_ n1_ n2_ n3_
       clear hb ho18
       refine hK.out _ _ (HS0_) (fun hHeld => ?_)
       clear hK K
       refine norm_ (a' := ?_) ?_ ?_
       rotate_left
       ·show Act.put _ (some 24) _ = _
        simp only [pz_]
        rfl
       refine one_ (i := 2) (N := some 26) #[t_,t_,t_,t_,t_,t_,t_,t_,t_,t_,f_,f_] rfl rfl (one_of HT_.out (by kernel_rfl)) (by decide) (fun K hK => ?_)
       refine Kd.R_append_rows_step k103 (w0 := w) w.heap.size (by rfl) (.tmp 24) (.tmp 25) 26 103 (.agg #[(.int .i64 0), (.int .i64 0), (.int .i64 0)]) 24 rfl Try.underlying26 info103 rfl (by decide) (by omega) v231 y230 l1 _ _ _ (fun k_ => some k_ ≠ (v238 : Value).ownBlock) (fun _ => False) rfl rfl ?aO ?aR (fun _ _ h => h) (fun _ h => h.elim) ?aF ?aB ?aS ?aL ?_
       (case aR => exact r9_ HR1.out HB.out)
       (case aB => exact (bl_ HB.out))
       (case aF => exact (fun k_ hk => Kd.fresh' (Kd.R_lt (rk_ HO239.out)) k_ hk))
       (case aO => exact (rk_ (Kd.R_mono HO232.out (fun _ hk => hk.2))))
       (case aS => exact (below_size (bl_ HB.out)))
       (case aL => have := LMc9.out; omega)
       intro v234 w19 ho hb hg hat
       have HS0_ := cell_grown hg (hHeld) (by obtain ⟨cs_, hc_⟩ := Kd.R_typed (HO229.out) _ rfl; exact Kd.R_ne (HO232.out) hc_ (by decide))
       rw [← Ny233.out] at ho
       have n0_ := Aside0.mk (Kd.R_over' (rk_ HO229.out) (Kd.R_typed (rk_ HO232.out)) (by decide) hg)
       have n1_ := Aside0.mk (Kd.R_after (ok := (fun _ => True)) (rk_ HO239.out) hg hat)
       have n2_ := Aside0.mk (hb)
       have n3_ := Aside0.mk (ho)
       clear HO229
       clear HO239
       clear HB
       clear HO232
       have HO229 := n0_
       have HO239 := n1_
       have HB := n2_
       have HO235 := n3_
       clear n0_ n1_ n2_ n3_
       clear ho hb hg hat
       refine hK.out _ _ (HS0_) (fun hHeld => ?_)
       clear hK K
       refine norm_ (a' := ?_) ?_ ?_
       rotate_left
       ·show Act.put _ (some 26) _ = _
        simp only [pz_]
        rfl
       exact norm_ (by simp only [putAll, Act.put, List.setIfInBounds_toArray, List.set_cons_zero, List.set_cons_succ]) (hCont (v231, v234, v238) _ ⟨hHeld, (rk_ HO229.out), (rk_ HO235.out), (rk_ (Kd.R_mono HO239.out (fun _ hk => hk.2))), (bl_ HB.out)⟩)
     rintro ⟨v231, v234, v238⟩ w20 ⟨hS_, h0_, h1_, h2_, h3_⟩
     have n0_ : Aside0 (Kd.R (Kd.int .i64) 2 w20 w.heap.size (fun _ => True) (.slice (some ad236) t227.length co13) t227) := ⟨h0_⟩
     have n1_ : Aside0 (Kd.R k103 103 w20 w.heap.size (fun k_ => some k_ ≠ (v238 : Value).ownBlock) v234 y233) := ⟨h1_⟩
     have n2_ : Aside0 (Kd.R k103 103 w20 w.heap.size (fun k_ => some k_ ≠ (v234 : Value).ownBlock) v238 y237) := ⟨h2_⟩
     have n3_ : Aside0 (Below w.heap.size w w20) := ⟨h3_⟩
     clear HO229
     clear HB
     clear h0_ h1_ h2_ h3_
     have HO229 := n0_
     have HO235 := n1_
     have HO239 := n2_
     have HB := n3_
     clear n0_ n1_ n2_ n3_
     have hHeld : w20.cell? ad236 = some (.int .i64 (rd t227 0)) := hS_
     obtain ⟨Ao22, co22, eo22⟩ := Kd.R_slice HO239.out
     (first | subst eo22 | (injection eo22 with f1_ f2_ f3_; have f4_ := f1_.symm; have f5_ := f3_.symm; clear f1_ f2_ f3_; subst f4_; subst f5_))
     refine norm_ (a' := ?_) ?_ ?_
     rotate_left
     ·simp only [putAll, Act.put, List.setIfInBounds_toArray, List.set_cons_zero, List.set_cons_succ]
      rfl
     refine one_ (i := 10) (N := some 34) #[t_,t_,t_,t_,t_,t_,t_,t_,t_,t_,t_,f_] rfl rfl (one_of HT_.out (by kernel_rfl)) (by decide) (fun K hK => ?_)
     refine Kd.R_append_rows_step k103 (w0 := w) w.heap.size (by rfl) (.tmp 26) (.tmp 33) 26 103 (.agg #[(.int .i64 0), (.int .i64 0), (.int .i64 0)]) 24 rfl Try.underlying26 info103 rfl (by decide) (by omega) v234 y233 y237 _ _ _ (fun k_ => some k_ ≠ (.slice Ao22 y237.length co22 : Value).ownBlock) (fun _ => False) rfl rfl ?aO ?aR (fun _ _ h => h) (fun _ h => h.elim) ?aF ?aB ?aS ?aL ?_
     (case aR => exact r8_ HO239.out)
     (case aB => exact (bl_ HB.out))
     (case aF => exact (fun k_ hk => Kd.fresh' (Kd.R_lt (rk_ HO239.out)) k_ hk))
     (case aO => exact (rk_ HO235.out))
     (case aS => exact (below_size (bl_ HB.out)))
     (case aL => have := LMc11.out; omega)
     intro v241 w21 ho hb hg hat
     have HS0_ := cell_grown hg (hHeld) (by obtain ⟨cs_, hc_⟩ := Kd.R_typed (HO229.out) _ rfl; exact Kd.R_ne (HO235.out) hc_ (by decide))
     rw [← Ny240.out] at ho
     have n0_ := Aside0.mk (Kd.R_over' (rk_ HO229.out) (Kd.R_typed (rk_ HO235.out)) (by decide) hg)
     have n1_ := Aside0.mk (Kd.R_after (ok := (fun _ => True)) (rk_ (Kd.R_mono HO239.out (fun _ hk => ⟨trivial, hk⟩))) hg hat)
     have n2_ := Aside0.mk (hb)
     have n3_ := Aside0.mk (ho)
     clear HO229
     clear HO239
     clear HB
     clear HO235
     have HO229 := n0_
     have HO239 := n1_
     have HB := n2_
     have HO242 := n3_
     clear n0_ n1_ n2_ n3_
     clear ho hb hg hat
     refine hK.out _ _ (HS0_) (fun hHeld => ?_)
     clear hK K
     refine norm_ (a' := ?_) ?_ ?_
     rotate_left
     ·show Act.put _ (some 34) _ = _
      simp only [pz_]
      rfl
     refine pu_ 11 10 #[t_,t_,t_,t_,t_,t_,t_,t_,t_,t_,t_,t_] HT_.out ?_
     refine done_ (done_of HT_.out (by kernel_rfl)) ?_
     obtain ⟨Ao23, co23, eo23⟩ := Kd.R_slice HO242.out
     subst eo23
     try go_wp2
     go_loopg [11] k1 (fun kq v11 w' => ∃ (x10_2 : List (S103)) (x11_2 : Int), v11 = .int .i64 x11_2 ∧ Aside0 (impl_putWire.l1 kq x10_2 x11_2 = some (r1, r2)) ∧ Aside0 (kq ≤ k1) ∧ Aside0 (Kd.R k103 103 w' w.heap.size (fun _ => True) (.slice Ao23 y240.length co23) x10_2) ∧ Aside0 (Below w.heap.size w w'))
     case atStart => exact ⟨(y240), (wrap64 ((y240.length : Int) - 1)), (by first | rfl | (simp; done) | (simp [*]; done)), H', ⟨Nat.le_refl _⟩, ⟨rk_ (Kd.R_mono HO242.out (fun _ hk => trivial))⟩, ⟨bl_ HB.out⟩⟩
     case round =>
      clear H'
      try clear c1
      try clear p2
      try clear q2
      try clear hx2
      try clear qi2
      try clear c3
      try clear c4
      try clear c4b0
      try clear c6
      try clear c6b0
      try clear c6b1
      try clear c6b2
      try clear p6
      try clear c8
      try clear c9
      try clear c10
      try clear c10b0
      try clear c10b1
      try clear c11
      try clear c12
      try clear p23
      try clear q23
      try clear hx23
      try clear qi23
      try clear hx236_0
      try clear p2
      try clear p236
      try clear q236
      obtain ⟨x10_2, x11_2, rfl, HA, HK2, HO_10, HB⟩ := hrel
      have hl10_2 := (Kd.R_reads' HO_10.out).1
      rw [hl10_2] at HO_10
      (try simp only [hl10_2])
      cases gk with
      | zero => exact absurd HA.out (by simp [impl_putWire.l1])
      | succ k2 =>
       have H := HA.out
       clear HA
       simp only [impl_putWire.l1] at H
       by_cases c24 : x11_2 > 0
       ·rw [if_pos c24] at H
        have c24b0 : decide (0 < x11_2) = true := decide_eq_true c24
        clear c24
        obtain ⟨ji25, hji25⟩ : ∃ j_ : Int, (wrap64 (x11_2 - 1)) = j_ := ⟨_, rfl⟩
        replace H : (if 0 ≤ (ji25) then (if (ji25) < (x10_2.length : Int) then (if 0 ≤ x11_2 then (if x11_2 < (x10_2.length : Int) then (if ((rd_T103 x10_2 (ji25)).f0) > ((rd_T103 x10_2 x11_2).f0) then (impl_putWire.l1 k2 ((x10_2.set ((ji25) : Int).toNat (⟨(rd_T103 x10_2 x11_2).f0, (rd_T103 x10_2 x11_2).f1, (rd_T103 x10_2 x11_2).f2⟩ : S103)).set (x11_2 : Int).toNat (⟨(rd_T103 x10_2 (ji25)).f0, (rd_T103 x10_2 (ji25)).f1, (rd_T103 x10_2 (ji25)).f2⟩ : S103)) ji25) else (some (x10_2, true))) else (none)) else (none)) else (none)) else (none)) = some (r1, r2) := by first | (rw [hji25] at H; exact H) | (simp only [hji25] at H ⊢; exact H)
        have hji25w : (IntKind.i64.wrap (x11_2 - 1)) = ji25 := (i64_w _).trans hji25
        by_cases c26 : 0 ≤ (ji25)
        case neg =>
         rw [if_neg c26] at H
         exact absurd H (by simp)
        rw [if_pos c26] at H
        have c26b0 : decide (0 ≤ (ji25)) = true := decide_eq_true c26
        clear c26
        by_cases c27 : (ji25) < (x10_2.length : Int)
        case neg =>
         rw [if_neg c27] at H
         exact absurd H (by simp)
        rw [if_pos c27] at H
        have c27b0 : decide ((ji25) < (x10_2.length : Int)) = true := decide_eq_true c27
        clear c27
        by_cases c28 : 0 ≤ x11_2
        case neg =>
         rw [if_neg c28] at H
         exact absurd H (by simp)
        rw [if_pos c28] at H
        have c28b0 : decide (0 ≤ x11_2) = true := decide_eq_true c28
        clear c28
        by_cases c29 : x11_2 < (x10_2.length : Int)
        case neg =>
         rw [if_neg c29] at H
         exact absurd H (by simp)
        rw [if_pos c29] at H
        have c29b0 : decide (x11_2 < (x10_2.length : Int)) = true := decide_eq_true c29
        clear c29
        by_cases c30 : ((rd_T103 x10_2 (ji25)).f0) > ((rd_T103 x10_2 x11_2).f0)
        ·rw [if_pos c30] at H
         have c30b0 : decide (((rd_T103 x10_2 x11_2).f0) < ((rd_T103 x10_2 (ji25)).f0)) = true := decide_eq_true c30
         clear c30
         obtain ⟨y247, hy247⟩ : ∃ y_ : List (S103), y_ = (x10_2.set ((ji25) : Int).toNat (⟨(rd_T103 x10_2 x11_2).f0, (rd_T103 x10_2 x11_2).f1, (rd_T103 x10_2 x11_2).f2⟩ : S103)) := ⟨_, rfl⟩
         replace H : (impl_putWire.l1 k2 (y247.set (x11_2 : Int).toNat (⟨(rd_T103 x10_2 (ji25)).f0, (rd_T103 x10_2 (ji25)).f1, (rd_T103 x10_2 (ji25)).f2⟩ : S103)) ji25) = some (r1, r2) := by first | (rw [hy247]; with_reducible exact H) | (have H2_ := (Option.bind_some _ _).symm.trans H; rw [hy247]; with_reducible exact H2_) | (have H2_ := (Option.bind_some _ _).symm.trans H; with_reducible exact H2_) | with_reducible exact H | (rw [hy247]; exact H) | exact H
         have Ny247 := Aside0.mk hy247
         clear hy247
         obtain ⟨y248, hy248⟩ : ∃ y_ : List (S103), y_ = (y247.set (x11_2 : Int).toNat (⟨(rd_T103 x10_2 (ji25)).f0, (rd_T103 x10_2 (ji25)).f1, (rd_T103 x10_2 (ji25)).f2⟩ : S103)) := ⟨_, rfl⟩
         replace H : (impl_putWire.l1 k2 y248 ji25) = some (r1, r2) := by first | (rw [hy248]; with_reducible exact H) | (have H2_ := (Option.bind_some _ _).symm.trans H; rw [hy248]; with_reducible exact H2_) | (have H2_ := (Option.bind_some _ _).symm.trans H; with_reducible exact H2_) | with_reducible exact H | (rw [hy248]; exact H) | exact H
         have Ny248 := Aside0.mk hy248
         clear hy248
         have H' := Aside0.mk H
         clear H
         try go_wp2
         have n0_ := Aside0.mk (Kd.R_drew HO_10.out)
         have n1_ := Aside0.mk (below_drew1 HB.out)
         clear HO_10
         clear HB
         have HO_10 := n0_
         have HB := n1_
         clear n0_ n1_
         have p243 : 0 ≤ ((ji25) : Int) := od_
         have q243 : (ji25) < (x10_2.length : Int) := od_
         obtain ⟨ad243, e243, hx243_0, hx243_1, hx243_2⟩ := at_T103 (Kd.R_reads' HO_10.out).2.2 (ji25) p243 q243
         cases e243
         replace p243 := eq_true p243
         replace q243 := eq_true q243
         have p244 : 0 ≤ (x11_2 : Int) := od_
         have q244 : x11_2 < (x10_2.length : Int) := od_
         obtain ⟨ad244, e244, hx244_0, hx244_1, hx244_2⟩ := at_T103 (Kd.R_reads' HO_10.out).2.2 x11_2 p244 q244
         obtain rfl : ad243 = ad244 := (by injection e244)
         replace p244 := eq_true p244
         replace q244 := eq_true q244
         refine start_ (n := 16) (S := fun w' => w'.cell? (ad243.add (((ji25)).toNat * 3)) = some (.int .i64 ((rd_T103 x10_2 (ji25)).f0)) ∧ w'.cell? ⟨(ad243.add (((ji25)).toNat * 3)).block, (ad243.add (((ji25)).toNat * 3)).off + 1, none⟩ = some (.int .i64 ((rd_T103 x10_2 (ji25)).f1)) ∧ w'.cell? ⟨(ad243.add (((ji25)).toNat * 3)).block, (ad243.add (((ji25)).toNat * 3)).off + 2, none⟩ = some (.int .i64 ((rd_T103 x10_2 (ji25)).f2)) ∧ w'.cell? (ad243.add ((x11_2).toNat * 3)) = some (.int .i64 ((rd_T103 x10_2 x11_2).f0)) ∧ w'.cell? ⟨(ad243.add ((x11_2).toNat * 3)).block, (ad243.add ((x11_2).toNat * 3)).off + 1, none⟩ = some (.int .i64 ((rd_T103 x10_2 x11_2).f1)) ∧ w'.cell? ⟨(ad243.add ((x11_2).toNat * 3)).block, (ad243.add ((x11_2).toNat * 3)).off + 2, none⟩ = some (.int .i64 ((rd_T103 x10_2 x11_2).f2))) (ds := []) #[f_,f_,f_,f_,f_,f_,f_,f_,f_,f_,f_,f_,f_,f_,f_,f_] (by kernel_rfl) rfl rfl ⟨hx243_0, hx243_1, hx243_2, hx244_0, hx244_1, hx244_2⟩ (fun hHeld => ?_); refine with_tabW impl_putWire.tab8 impl_putWire.bits8 (fun HT_ HW_ => ?_)
         generalize wr.drew = w33 at HO_10 HB hx243_0 hx243_1 hx243_2 hx244_0 hx244_1 hx244_2 hHeld ⊢
         refine pu_ 0 38 #[t_,f_,f_,f_,f_,f_,f_,f_,f_,f_,f_,f_,f_,f_,f_,f_] HT_.out ?_
         refine pu_ 1 39 #[t_,t_,f_,f_,f_,f_,f_,f_,f_,f_,f_,f_,f_,f_,f_,f_] HT_.out ?_
         refine pu_ 2 40 #[t_,t_,t_,f_,f_,f_,f_,f_,f_,f_,f_,f_,f_,f_,f_,f_] HT_.out ?_
         refine pu_ 3 41 #[t_,t_,t_,t_,f_,f_,f_,f_,f_,f_,f_,f_,f_,f_,f_,f_] HT_.out ?_
         refine pu_ 4 42 #[t_,t_,t_,t_,t_,f_,f_,f_,f_,f_,f_,f_,f_,f_,f_,f_] HT_.out ?_
         refine pu_ 5 43 #[t_,t_,t_,t_,t_,t_,f_,f_,f_,f_,f_,f_,f_,f_,f_,f_] HT_.out ?_
         refine pu_ 6 44 #[t_,t_,t_,t_,t_,t_,t_,f_,f_,f_,f_,f_,f_,f_,f_,f_] HT_.out ?_
         refine pu_ 7 45 #[t_,t_,t_,t_,t_,t_,t_,t_,f_,f_,f_,f_,f_,f_,f_,f_] HT_.out ?_
         refine pu_ 9 47 #[t_,t_,t_,t_,t_,t_,t_,t_,f_,t_,f_,f_,f_,f_,f_,f_] HT_.out ?_
         refine pu_ 10 48 #[t_,t_,t_,t_,t_,t_,t_,t_,f_,t_,t_,f_,f_,f_,f_,f_] HT_.out ?_
         refine pu_ 11 49 #[t_,t_,t_,t_,t_,t_,t_,t_,f_,t_,t_,t_,f_,f_,f_,f_] HT_.out ?_
         refine pu_ 12 50 #[t_,t_,t_,t_,t_,t_,t_,t_,f_,t_,t_,t_,t_,f_,f_,f_] HT_.out ?_
         refine take_ (i := 8) (N := some 46) (v := ?_) (a' := ?_) #[t_,t_,t_,t_,t_,t_,t_,t_,t_,t_,t_,t_,t_,f_,f_,f_] rfl rfl (take_ofW HT_.out HW_.out (by kernel_rfl)) (fun _ _ _ h => h) (Or.inl ⟨by rfl, ?_⟩) hHeld ?_ ?_
         rotate_left
         ·rintro w' ⟨s0, s1, s2, s3, s4, s5⟩
          go_simp
          with_reducible rfl
         rotate_left
         ·simp only [pz_]
          rfl
         refine take_ (i := 13) (N := some 51) (v := ?_) (a' := ?_) #[t_,t_,t_,t_,t_,t_,t_,t_,t_,t_,t_,t_,t_,t_,f_,f_] rfl rfl (take_ofW HT_.out HW_.out (by kernel_rfl)) (fun _ _ _ h => h) (Or.inl ⟨by rfl, ?_⟩) hHeld ?_ ?_
         rotate_left
         ·rintro w' ⟨s0, s1, s2, s3, s4, s5⟩
          go_simp
          with_reducible rfl
         rotate_left
         ·simp only [pz_]
          rfl
         refine pu_ 14 52 #[t_,t_,t_,t_,t_,t_,t_,t_,t_,t_,t_,t_,t_,t_,t_,f_] HT_.out ?_
         refine pu_ 15 53 #[t_,t_,t_,t_,t_,t_,t_,t_,t_,t_,t_,t_,t_,t_,t_,t_] HT_.out ?_
         refine done_ (done_of HT_.out (by kernel_rfl)) ?_
         try go_wp2
         have n0_ := Aside0.mk (Kd.R_drew HO_10.out)
         have n1_ := Aside0.mk (below_drew1 HB.out)
         clear HO_10
         clear HB
         have HO_10 := n0_
         have HB := n1_
         clear n0_ n1_
         have p245 : 0 ≤ (x11_2 : Int) := od_
         have q245 : x11_2 < (x10_2.length : Int) := od_
         obtain ⟨ad245, e245, hx245_0, hx245_1, hx245_2⟩ := at_T103 (Kd.R_reads' HO_10.out).2.2 x11_2 p245 q245
         obtain rfl : ad243 = ad245 := (by injection e245)
         replace p245 := eq_true p245
         replace q245 := eq_true q245
         have p246 : 0 ≤ ((ji25) : Int) := od_
         have q246 : (ji25) < (x10_2.length : Int) := od_
         obtain ⟨ad246, e246, hx246_0, hx246_1, hx246_2⟩ := at_T103 (Kd.R_reads' HO_10.out).2.2 (ji25) p246 q246
         obtain rfl : ad243 = ad246 := (by injection e246)
         replace p246 := eq_true p246
         replace q246 := eq_true q246
         have p31 : 0 ≤ ((ji25) : Int) := od_
         have q31 : ((ji25) : Int) < ((x10_2.length : Int) : Int) := od_
         obtain ⟨go31, co31, eo31, gb31, gl31, cl31, HG31⟩ := Kd.R_form HO_10.out (by omega)
         (first | cases eo31 | (injection eo31 with ea_ en_ ec_; (first | subst ea_ | (injection ea_ with ea_; subst ea_)); subst ec_; clear en_))
         have GB31 := Aside0.mk gb31
         have GG31 := Aside0.mk HG31
         clear gb31 gl31 HG31
         (first | simp only [add_plain] at hx243_0 | skip)
         (first | simp only [add_plain] at hx243_1 | skip)
         (first | simp only [add_plain] at hx243_2 | skip)
         (first | simp only [add_plain] at hx244_0 | skip)
         (first | simp only [add_plain] at hx244_1 | skip)
         (first | simp only [add_plain] at hx244_2 | skip)
         (first | simp only [add_plain] at hx245_0 | skip)
         (first | simp only [add_plain] at hx245_1 | skip)
         (first | simp only [add_plain] at hx245_2 | skip)
         (first | simp only [add_plain] at hx246_0 | skip)
         (first | simp only [add_plain] at hx246_1 | skip)
         (first | simp only [add_plain] at hx246_2 | skip)
         obtain ⟨ce31, hcl31, hM31, hcc31, hfr31⟩ := Kd.R_elem HO_10.out z103 ((ji25) : Int) p31 q31
         obtain rfl := k103_openM hM31
         have hx31_0 : World.cell? _ ⟨go31, ((ji25) : Int).toNat * 3, none⟩ = some (.int .i64 ((rd_T103 x10_2 (ji25)).f0)) := hcc31 0 _ rfl
         have hx31_1 : World.cell? _ ⟨go31, ((ji25) : Int).toNat * 3 + 1, none⟩ = some (.int .i64 ((rd_T103 x10_2 (ji25)).f1)) := hcc31 1 _ rfl
         have hx31_2 : World.cell? _ ⟨go31, ((ji25) : Int).toNat * 3 + 2, none⟩ = some (.int .i64 ((rd_T103 x10_2 (ji25)).f2)) := hcc31 2 _ rfl
         have hf31_0 : World.frozen? _ ⟨go31, ((ji25) : Int).toNat * 3, none⟩ = false := hfr31 0
         have hf31_1 : World.frozen? _ ⟨go31, ((ji25) : Int).toNat * 3 + 1, none⟩ = false := hfr31 1
         have hf31_2 : World.frozen? _ ⟨go31, ((ji25) : Int).toNat * 3 + 2, none⟩ = false := hfr31 2
         clear hcl31 hcc31 hfr31 hM31
         replace p31 := eq_true p31
         replace q31 := eq_true q31
         obtain ⟨ce35, hcl35, hM35, hcc35, hfr35⟩ := Kd.R_elem HO_10.out z103 ((ji25) : Int) od_ (by have h_ : ((ji25) : Int) < ((x10_2.length : Int) : Int) := od_; first | exact h_ | (have e_ := (Kd.R_reads' HO_10.out).1; omega) | simpa using h_)
         obtain rfl := k103_openM hM35
         have HP35 := (Kd.R_seg HO_10.out ((ji25) : Int) od_ (by have h_ : ((ji25) : Int) < ((x10_2.length : Int) : Int) := od_; first | exact h_ | (have e_ := (Kd.R_reads' HO_10.out).1; omega) | simpa using h_) (seg := [.int .i64 ((rd_T103 x10_2 x11_2).f0), .int .i64 ((rd_T103 x10_2 x11_2).f1), .int .i64 ((rd_T103 x10_2 x11_2).f2)]) (j := 0) hcl35 hcc35 (show 3 ≤ 3 from by decide) (x' := (⟨(rd_T103 x10_2 x11_2).f0, (rd_T103 x10_2 x11_2).f1, (rd_T103 x10_2 x11_2).f2⟩ : S103)) (k103_mkM _ _ _ (⟨(rd_T103 x10_2 x11_2).f0, (rd_T103 x10_2 x11_2).f1, (rd_T103 x10_2 x11_2).f2⟩ : S103) ) (fun _ hk => hk)).1
         rw [← Ny247.out] at HP35
         have HQ35 := Aside0.mk HP35
         clear hcl35 hcc35 hfr35 hM35 HP35
         have p32 : 0 ≤ (x11_2 : Int) := od_
         have q32 : (x11_2 : Int) < ((x10_2.length : Int) : Int) := od_
         obtain ⟨ce32, hcl32, hM32, hcc32, hfr32⟩ := Kd.R_elem HQ35.out z103 (x11_2 : Int) p32 q32
         obtain rfl := k103_openM hM32
         have hx32_0 : World.cell? _ ⟨go31, (x11_2 : Int).toNat * 3, none⟩ = some (.int .i64 ((rd_T103 y247 x11_2).f0)) := hcc32 0 _ rfl
         have hx32_1 : World.cell? _ ⟨go31, (x11_2 : Int).toNat * 3 + 1, none⟩ = some (.int .i64 ((rd_T103 y247 x11_2).f1)) := hcc32 1 _ rfl
         have hx32_2 : World.cell? _ ⟨go31, (x11_2 : Int).toNat * 3 + 2, none⟩ = some (.int .i64 ((rd_T103 y247 x11_2).f2)) := hcc32 2 _ rfl
         have hf32_0 : World.frozen? _ ⟨go31, (x11_2 : Int).toNat * 3, none⟩ = false := hfr32 0
         have hf32_1 : World.frozen? _ ⟨go31, (x11_2 : Int).toNat * 3 + 1, none⟩ = false := hfr32 1
         have hf32_2 : World.frozen? _ ⟨go31, (x11_2 : Int).toNat * 3 + 2, none⟩ = false := hfr32 2
         clear hcl32 hcc32 hfr32 hM32
         replace p32 := eq_true p32
         replace q32 := eq_true q32
         obtain ⟨ce36, hcl36, hM36, hcc36, hfr36⟩ := Kd.R_elem HQ35.out z103 (x11_2 : Int) od_ (by have h_ : (x11_2 : Int) < ((x10_2.length : Int) : Int) := od_; first | exact h_ | (have e_ := (Kd.R_reads' HO_10.out).1; omega) | simpa using h_)
         obtain rfl := k103_openM hM36
         have HP36 := (Kd.R_seg HQ35.out (x11_2 : Int) od_ (by have h_ : (x11_2 : Int) < ((x10_2.length : Int) : Int) := od_; first | exact h_ | (have e_ := (Kd.R_reads' HO_10.out).1; omega) | simpa using h_) (seg := [.int .i64 ((rd_T103 x10_2 (ji25)).f0), .int .i64 ((rd_T103 x10_2 (ji25)).f1), .int .i64 ((rd_T103 x10_2 (ji25)).f2)]) (j := 0) hcl36 hcc36 (show 3 ≤ 3 from by decide) (x' := (⟨(rd_T103 x10_2 (ji25)).f0, (rd_T103 x10_2 (ji25)).f1, (rd_T103 x10_2 (ji25)).f2⟩ : S103)) (k103_mkM _ _ _ (⟨(rd_T103 x10_2 (ji25)).f0, (rd_T103 x10_2 (ji25)).f1, (rd_T103 x10_2 (ji25)).f2⟩ : S103) ) (fun _ hk => hk)).1
         rw [← Ny248.out] at HP36
         have HQ36 := Aside0.mk HP36
         clear hcl36 hcc36 hfr36 hM36 HP36
         refine start_ (n := 18) (S := fun w' => w'.cell? ⟨go31, ((x11_2).toNat * 3), none⟩ = some (.int .i64 ((rd_T103 x10_2 x11_2).f0)) ∧ w'.cell? ⟨go31, ((x11_2).toNat * 3) + 1, none⟩ = some (.int .i64 ((rd_T103 x10_2 x11_2).f1)) ∧ w'.cell? ⟨go31, ((x11_2).toNat * 3) + 2, none⟩ = some (.int .i64 ((rd_T103 x10_2 x11_2).f2)) ∧ w'.cell? ⟨go31, (((ji25)).toNat * 3), none⟩ = some (.int .i64 ((rd_T103 x10_2 (ji25)).f0)) ∧ w'.cell? ⟨go31, (((ji25)).toNat * 3) + 1, none⟩ = some (.int .i64 ((rd_T103 x10_2 (ji25)).f1)) ∧ w'.cell? ⟨go31, (((ji25)).toNat * 3) + 2, none⟩ = some (.int .i64 ((rd_T103 x10_2 (ji25)).f2))) (ds := [15, 17]) #[f_,f_,f_,f_,f_,f_,f_,f_,f_,f_,f_,f_,f_,f_,f_,f_,f_,f_] (by kernel_rfl) rfl rfl ⟨hx245_0, hx245_1, hx245_2, hx246_0, hx246_1, hx246_2⟩ (fun hHeld => ?_); refine with_tabW impl_putWire.tab10 impl_putWire.bits10 (fun HT_ HW_ => ?_)
         generalize w33.drew = w34 at HO_10 HB GG31 HQ35 HQ36 hf31_0 hf31_1 hf31_2 hf32_0 hf32_1 hf32_2 hx243_0 hx243_1 hx243_2 hx244_0 hx244_1 hx244_2 hx245_0 hx245_1 hx245_2 hx246_0 hx246_1 hx246_2 hx31_0 hx31_1 hx31_2 hx32_0 hx32_1 hx32_2 hHeld ⊢
         refine pu_ 0 56 #[t_,f_,f_,f_,f_,f_,f_,f_,f_,f_,f_,f_,f_,f_,f_,f_,f_,f_] HT_.out ?_
         refine pu_ 1 57 #[t_,t_,f_,f_,f_,f_,f_,f_,f_,f_,f_,f_,f_,f_,f_,f_,f_,f_] HT_.out ?_
         refine pu_ 2 58 #[t_,t_,t_,f_,f_,f_,f_,f_,f_,f_,f_,f_,f_,f_,f_,f_,f_,f_] HT_.out ?_
         refine pu_ 3 59 #[t_,t_,t_,t_,f_,f_,f_,f_,f_,f_,f_,f_,f_,f_,f_,f_,f_,f_] HT_.out ?_
         refine pu_ 4 60 #[t_,t_,t_,t_,t_,f_,f_,f_,f_,f_,f_,f_,f_,f_,f_,f_,f_,f_] HT_.out ?_
         refine pu_ 5 61 #[t_,t_,t_,t_,t_,t_,f_,f_,f_,f_,f_,f_,f_,f_,f_,f_,f_,f_] HT_.out ?_
         refine pu_ 6 62 #[t_,t_,t_,t_,t_,t_,t_,f_,f_,f_,f_,f_,f_,f_,f_,f_,f_,f_] HT_.out ?_
         refine pu_ 7 63 #[t_,t_,t_,t_,t_,t_,t_,t_,f_,f_,f_,f_,f_,f_,f_,f_,f_,f_] HT_.out ?_
         refine pu_ 9 65 #[t_,t_,t_,t_,t_,t_,t_,t_,f_,t_,f_,f_,f_,f_,f_,f_,f_,f_] HT_.out ?_
         refine pu_ 10 66 #[t_,t_,t_,t_,t_,t_,t_,t_,f_,t_,t_,f_,f_,f_,f_,f_,f_,f_] HT_.out ?_
         refine pu_ 11 67 #[t_,t_,t_,t_,t_,t_,t_,t_,f_,t_,t_,t_,f_,f_,f_,f_,f_,f_] HT_.out ?_
         refine pu_ 12 68 #[t_,t_,t_,t_,t_,t_,t_,t_,f_,t_,t_,t_,t_,f_,f_,f_,f_,f_] HT_.out ?_
         refine take_ (i := 8) (N := some 64) (v := ?_) (a' := ?_) #[t_,t_,t_,t_,t_,t_,t_,t_,t_,t_,t_,t_,t_,f_,f_,f_,f_,f_] rfl rfl (take_ofW HT_.out HW_.out (by kernel_rfl)) (fun _ _ _ h => h) (Or.inl ⟨by rfl, ?_⟩) hHeld ?_ ?_
         rotate_left
         ·rintro w' ⟨s0, s1, s2, s3, s4, s5⟩
          go_simp
          with_reducible rfl
         rotate_left
         ·simp only [pz_]
          rfl
         refine take_ (i := 13) (N := some 69) (v := ?_) (a' := ?_) #[t_,t_,t_,t_,t_,t_,t_,t_,t_,t_,t_,t_,t_,t_,f_,f_,f_,f_] rfl rfl (take_ofW HT_.out HW_.out (by kernel_rfl)) (fun _ _ _ h => h) (Or.inl ⟨by rfl, ?_⟩) hHeld ?_ ?_
         rotate_left
         ·rintro w' ⟨s0, s1, s2, s3, s4, s5⟩
          go_simp
          with_reducible rfl
         rotate_left
         ·simp only [pz_]
          rfl
         refine pu_ 14 70 #[t_,t_,t_,t_,t_,t_,t_,t_,t_,t_,t_,t_,t_,t_,t_,f_,f_,f_] HT_.out ?_
         refine last_ (i := 15) (N := none) #[t_,t_,t_,t_,t_,t_,t_,t_,t_,t_,t_,t_,t_,t_,t_,t_,f_,f_] rfl rfl (one_of HT_.out (by kernel_rfl)) (by decide) (fun K hK => ?_)
         refine skip_ (w1 := ?_) (by rfl) rfl ?_ ?_
         rotate_left
         ·go_simp
          rfl
         refine hK.out _ _ ?_
         clear hK K
         refine pu_ 16 71 #[t_,t_,t_,t_,t_,t_,t_,t_,t_,t_,t_,t_,t_,t_,t_,t_,t_,f_] HT_.out ?_
         have hnz_ : ((ji25) : Int).toNat * 3 ≠ (x11_2 : Int).toNat * 3 := by have h1_ : (0 : Int) ≤ ji25 := of_eq_true p31; have h2_ : (0 : Int) ≤ x11_2 := of_eq_true p32; have h3_ := hji25; unfold wrap64 at h3_; omega
         have hz0_ : World.cell? (w34.setCell ⟨go31, ((ji25) : Int).toNat * 3, none⟩ (.int .i64 ((rd_T103 x10_2 x11_2).f0))) ⟨go31, (x11_2 : Int).toNat * 3, none⟩ = some (.int .i64 ((rd_T103 x10_2 x11_2).f0)) := (World.cell?_setCell_other _ _ _ _ (fun e_ => by have e2_ := congrArg Addr.off e_; simp only at e2_; omega)).trans hx245_0
         have hg0_ : World.frozen? w34 ⟨go31, (x11_2 : Int).toNat * 3, none⟩ = false := (World.frozen?_setCells _ _ _ _ _).symm.trans hf32_0
         have hz1_ : World.cell? ((w34.setCell ⟨go31, ((ji25) : Int).toNat * 3, none⟩ (.int .i64 ((rd_T103 x10_2 x11_2).f0))).setCell ⟨go31, ((ji25) : Int).toNat * 3 + 1, none⟩ (.int .i64 ((rd_T103 x10_2 x11_2).f1))) ⟨go31, (x11_2 : Int).toNat * 3 + 1, none⟩ = some (.int .i64 ((rd_T103 x10_2 x11_2).f1)) := ((World.cell?_setCell_other _ _ _ _ (fun e_ => by have e2_ := congrArg Addr.off e_; simp only at e2_; omega)).trans (World.cell?_setCell_other _ _ _ _ (fun e_ => by have e2_ := congrArg Addr.off e_; simp only at e2_; omega))).trans hx245_1
         have hg1_ : World.frozen? w34 ⟨go31, (x11_2 : Int).toNat * 3 + 1, none⟩ = false := (World.frozen?_setCells _ _ _ _ _).symm.trans hf32_1
         have hz2_ : World.cell? (((w34.setCell ⟨go31, ((ji25) : Int).toNat * 3, none⟩ (.int .i64 ((rd_T103 x10_2 x11_2).f0))).setCell ⟨go31, ((ji25) : Int).toNat * 3 + 1, none⟩ (.int .i64 ((rd_T103 x10_2 x11_2).f1))).setCell ⟨go31, ((ji25) : Int).toNat * 3 + 2, none⟩ (.int .i64 ((rd_T103 x10_2 x11_2).f2))) ⟨go31, (x11_2 : Int).toNat * 3 + 2, none⟩ = some (.int .i64 ((rd_T103 x10_2 x11_2).f2)) := (((World.cell?_setCell_other _ _ _ _ (fun e_ => by have e2_ := congrArg Addr.off e_; simp only at e2_; omega)).trans (World.cell?_setCell_other _ _ _ _ (fun e_ => by have e2_ := congrArg Addr.off e_; simp only at e2_; omega))).trans (World.cell?_setCell_other _ _ _ _ (fun e_ => by have e2_ := congrArg Addr.off e_; simp only at e2_; omega))).trans hx245_2
         have hg2_ : World.frozen? w34 ⟨go31, (x11_2 : Int).toNat * 3 + 2, none⟩ = false := (World.frozen?_setCells _ _ _ _ _).symm.trans hf32_2
         refine last_ (i := 17) (N := none) #[t_,t_,t_,t_,t_,t_,t_,t_,t_,t_,t_,t_,t_,t_,t_,t_,t_,t_] rfl rfl (one_of HT_.out (by kernel_rfl)) (by decide) (fun K hK => ?_)
         refine skip_ (w1 := ?_) (by rfl) rfl ?_ ?_
         rotate_left
         ·go_simp
          rfl
         refine hK.out _ _ ?_
         clear hK K
         refine done_ (done_of HT_.out (by kernel_rfl)) ?_
         try go_wp2
         (try simp only [← hl10_2])
         go_roundg k2
         case measure => have := HK1.out; have := HK2.out; omega
         case rel => exact ⟨(y248), (ji25), (by first | rfl | (simp; done) | (simp only [← hji25] <;> (first | rfl | simp)) | (simp [*]; done)), H', ⟨by have := HK1.out; have := HK2.out; omega⟩, ⟨by (try simp only [hl10_2]); (with_reducible repeat (first | apply Kd.R_alloc | apply Kd.R_drewN | apply Kd.R_drew)); exact HQ36.out⟩, ⟨by repeat (first | (with_reducible first | exact HB.out | apply below_alloc | apply pw_below_drewN | apply below_drew1 | refine below_set ?_ GB31.out | refine below_set ?_ GB31.out | refine below_set ?_ GB31.out | refine below_set ?_ GB31.out | refine below_set ?_ GB31.out | refine below_set ?_ GB31.out) | exact HB.out)⟩⟩
        ·rw [if_neg c30] at H
         have c30b0 : decide (((rd_T103 x10_2 x11_2).f0) < ((rd_T103 x10_2 (ji25)).f0)) = false := decide_eq_false c30
         clear c30
         simp only [Option.some.injEq, Prod.mk.injEq] at H
         obtain ⟨rfl, rfl⟩ := H
         try go_wp2
         have n0_ := Aside0.mk (Kd.R_drew HO_10.out)
         have n1_ := Aside0.mk (below_drew1 HB.out)
         clear HO_10
         clear HB
         have HO_10 := n0_
         have HB := n1_
         clear n0_ n1_
         have p243 : 0 ≤ ((ji25) : Int) := od_
         have q243 : (ji25) < (x10_2.length : Int) := od_
         obtain ⟨ad243, e243, hx243_0, hx243_1, hx243_2⟩ := at_T103 (Kd.R_reads' HO_10.out).2.2 (ji25) p243 q243
         cases e243
         replace p243 := eq_true p243
         replace q243 := eq_true q243
         have p244 : 0 ≤ (x11_2 : Int) := od_
         have q244 : x11_2 < (x10_2.length : Int) := od_
         obtain ⟨ad244, e244, hx244_0, hx244_1, hx244_2⟩ := at_T103 (Kd.R_reads' HO_10.out).2.2 x11_2 p244 q244
         obtain rfl : ad243 = ad244 := (by injection e244)
         replace p244 := eq_true p244
         replace q244 := eq_true q244
         refine start_ (n := 16) (S := fun w' => w'.cell? (ad243.add (((ji25)).toNat * 3)) = some (.int .i64 ((rd_T103 x10_2 (ji25)).f0)) ∧ w'.cell? ⟨(ad243.add (((ji25)).toNat * 3)).block, (ad243.add (((ji25)).toNat * 3)).off + 1, none⟩ = some (.int .i64 ((rd_T103 x10_2 (ji25)).f1)) ∧ w'.cell? ⟨(ad243.add (((ji25)).toNat * 3)).block, (ad243.add (((ji25)).toNat * 3)).off + 2, none⟩ = some (.int .i64 ((rd_T103 x10_2 (ji25)).f2)) ∧ w'.cell? (ad243.add ((x11_2).toNat * 3)) = some (.int .i64 ((rd_T103 x10_2 x11_2).f0)) ∧ w'.cell? ⟨(ad243.add ((x11_2).toNat * 3)).block, (ad243.add ((x11_2).toNat * 3)).off + 1, none⟩ = some (.int .i64 ((rd_T103 x10_2 x11_2).f1)) ∧ w'.cell? ⟨(ad243.add ((x11_2).toNat * 3)).block, (ad243.add ((x11_2).toNat * 3)).off + 2, none⟩ = some (.int .i64 ((rd_T103 x10_2 x11_2).f2))) (ds := []) #[f_,f_,f_,f_,f_,f_,f_,f_,f_,f_,f_,f_,f_,f_,f_,f_] (by kernel_rfl) rfl rfl ⟨hx243_0, hx243_1, hx243_2, hx244_0, hx244_1, hx244_2⟩ (fun hHeld => ?_); refine with_tabW impl_putWire.tab8 impl_putWire.bits8 (fun HT_ HW_ => ?_)
         generalize wr.drew = w37 at HO_10 HB hx243_0 hx243_1 hx243_2 hx244_0 hx244_1 hx244_2 hHeld ⊢
         refine pu_ 0 38 #[t_,f_,f_,f_,f_,f_,f_,f_,f_,f_,f_,f_,f_,f_,f_,f_] HT_.out ?_
         refine pu_ 1 39 #[t_,t_,f_,f_,f_,f_,f_,f_,f_,f_,f_,f_,f_,f_,f_,f_] HT_.out ?_
         refine pu_ 2 40 #[t_,t_,t_,f_,f_,f_,f_,f_,f_,f_,f_,f_,f_,f_,f_,f_] HT_.out ?_
         refine pu_ 3 41 #[t_,t_,t_,t_,f_,f_,f_,f_,f_,f_,f_,f_,f_,f_,f_,f_] HT_.out ?_
         refine pu_ 4 42 #[t_,t_,t_,t_,t_,f_,f_,f_,f_,f_,f_,f_,f_,f_,f_,f_] HT_.out ?_
         refine pu_ 5 43 #[t_,t_,t_,t_,t_,t_,f_,f_,f_,f_,f_,f_,f_,f_,f_,f_] HT_.out ?_
         refine pu_ 6 44 #[t_,t_,t_,t_,t_,t_,t_,f_,f_,f_,f_,f_,f_,f_,f_,f_] HT_.out ?_
         refine pu_ 7 45 #[t_,t_,t_,t_,t_,t_,t_,t_,f_,f_,f_,f_,f_,f_,f_,f_] HT_.out ?_
         refine pu_ 9 47 #[t_,t_,t_,t_,t_,t_,t_,t_,f_,t_,f_,f_,f_,f_,f_,f_] HT_.out ?_
         refine pu_ 10 48 #[t_,t_,t_,t_,t_,t_,t_,t_,f_,t_,t_,f_,f_,f_,f_,f_] HT_.out ?_
         refine pu_ 11 49 #[t_,t_,t_,t_,t_,t_,t_,t_,f_,t_,t_,t_,f_,f_,f_,f_] HT_.out ?_
         refine pu_ 12 50 #[t_,t_,t_,t_,t_,t_,t_,t_,f_,t_,t_,t_,t_,f_,f_,f_] HT_.out ?_
         refine take_ (i := 8) (N := some 46) (v := ?_) (a' := ?_) #[t_,t_,t_,t_,t_,t_,t_,t_,t_,t_,t_,t_,t_,f_,f_,f_] rfl rfl (take_ofW HT_.out HW_.out (by kernel_rfl)) (fun _ _ _ h => h) (Or.inl ⟨by rfl, ?_⟩) hHeld ?_ ?_
         rotate_left
         ·rintro w' ⟨s0, s1, s2, s3, s4, s5⟩
          go_simp
          with_reducible rfl
         rotate_left
         ·simp only [pz_]
          rfl
         refine take_ (i := 13) (N := some 51) (v := ?_) (a' := ?_) #[t_,t_,t_,t_,t_,t_,t_,t_,t_,t_,t_,t_,t_,t_,f_,f_] rfl rfl (take_ofW HT_.out HW_.out (by kernel_rfl)) (fun _ _ _ h => h) (Or.inl ⟨by rfl, ?_⟩) hHeld ?_ ?_
         rotate_left
         ·rintro w' ⟨s0, s1, s2, s3, s4, s5⟩
          go_simp
          with_reducible rfl
         rotate_left
         ·simp only [pz_]
          rfl
         refine pu_ 14 52 #[t_,t_,t_,t_,t_,t_,t_,t_,t_,t_,t_,t_,t_,t_,t_,f_] HT_.out ?_
         refine pu_ 15 53 #[t_,t_,t_,t_,t_,t_,t_,t_,t_,t_,t_,t_,t_,t_,t_,t_] HT_.out ?_
         refine done_ (done_of HT_.out (by kernel_rfl)) ?_
         try go_wp2
         go_ret2
         exact ⟨_, by first | rfl | (simp [errW_none, errW_some] <;> rfl) | (simp only [← hji25]; first | rfl | (simp [errW_none, errW_some] <;> rfl)) | (simp [*, errW_none, errW_some] <;> rfl), rk_ HO_10.out, bl_ HB.out⟩
       ·rw [if_neg c24] at H
        have c24b0 : decide (0 < x11_2) = false := decide_eq_false c24
        clear c24
        simp only [Option.some.injEq, Prod.mk.injEq] at H
        obtain ⟨rfl, rfl⟩ := H
        try go_wp2
        have n0_ := Aside0.mk (Kd.R_drew HO_10.out)
        have n1_ := Aside0.mk (below_drew1 HB.out)
        clear HO_10
        clear HB
        have HO_10 := n0_
        have HB := n1_
        clear n0_ n1_
        refine start_ (n := 16) (S := fun w' => True) (ds := []) #[f_,f_,f_,f_,f_,f_,f_,f_,f_,f_,f_,f_,f_,f_,f_,f_] (by kernel_rfl) rfl rfl trivial (fun hHeld => ?_); refine with_tabW impl_putWire.tab8 impl_putWire.bits8 (fun HT_ HW_ => ?_)
        generalize wr.drew = w38 at HO_10 HB hHeld ⊢
        refine pu_ 0 38 #[t_,f_,f_,f_,f_,f_,f_,f_,f_,f_,f_,f_,f_,f_,f_,f_] HT_.out ?_
        refine pu_ 1 39 #[t_,t_,f_,f_,f_,f_,f_,f_,f_,f_,f_,f_,f_,f_,f_,f_] HT_.out ?_
        refine pu_ 2 40 #[t_,t_,t_,f_,f_,f_,f_,f_,f_,f_,f_,f_,f_,f_,f_,f_] HT_.out ?_
        refine un_ 3 41 #[t_,t_,t_,t_,f_,f_,f_,f_,f_,f_,f_,f_,f_,f_,f_,f_] HT_.out ?_
        refine un_ 4 42 #[t_,t_,t_,t_,t_,f_,f_,f_,f_,f_,f_,f_,f_,f_,f_,f_] HT_.out ?_
        refine un_ 5 43 #[t_,t_,t_,t_,t_,t_,f_,f_,f_,f_,f_,f_,f_,f_,f_,f_] HT_.out ?_
        refine un_ 6 44 #[t_,t_,t_,t_,t_,t_,t_,f_,f_,f_,f_,f_,f_,f_,f_,f_] HT_.out ?_
        refine un_ 7 45 #[t_,t_,t_,t_,t_,t_,t_,t_,f_,f_,f_,f_,f_,f_,f_,f_] HT_.out ?_
        refine un_ 8 46 #[t_,t_,t_,t_,t_,t_,t_,t_,t_,f_,f_,f_,f_,f_,f_,f_] HT_.out ?_
        refine un_ 9 47 #[t_,t_,t_,t_,t_,t_,t_,t_,t_,t_,f_,f_,f_,f_,f_,f_] HT_.out ?_
        refine un_ 10 48 #[t_,t_,t_,t_,t_,t_,t_,t_,t_,t_,t_,f_,f_,f_,f_,f_] HT_.out ?_
        refine un_ 11 49 #[t_,t_,t_,t_,t_,t_,t_,t_,t_,t_,t_,t_,f_,f_,f_,f_] HT_.out ?_
        refine un_ 12 50 #[t_,t_,t_,t_,t_,t_,t_,t_,t_,t_,t_,t_,t_,f_,f_,f_] HT_.out ?_
        refine un_ 13 51 #[t_,t_,t_,t_,t_,t_,t_,t_,t_,t_,t_,t_,t_,t_,f_,f_] HT_.out ?_
        refine un_ 14 52 #[t_,t_,t_,t_,t_,t_,t_,t_,t_,t_,t_,t_,t_,t_,t_,f_] HT_.out ?_
        refine pu_ 15 53 #[t_,t_,t_,t_,t_,t_,t_,t_,t_,t_,t_,t_,t_,t_,t_,t_] HT_.out ?_
        refine done_ (done_of HT_.out (by kernel_rfl)) ?_
        try go_wp2
        go_ret2
        exact ⟨_, by first | rfl | (simp [errW_none, errW_some] <;> rfl) | (simp [*, errW_none, errW_some] <;> rfl), rk_ HO_10.out, bl_ HB.out⟩
   ·rw [if_neg c4] at H
    have c4b0 : decide (x14_1 < (l0.length : Int)) = false := decide_eq_false c4
    clear c4
    simp only [Option.some.injEq, Prod.mk.injEq] at H
    obtain ⟨rfl, rfl⟩ := H
    go_wp2
    go_ret2
    exact ⟨_, by first | rfl | (simp [errW_none, errW_some] <;> rfl) | (simp [*, errW_none, errW_some] <;> rfl), by first | exact Kd.R_nil _ _ _ _ _ | exact Kd.N_nil _ _ _ _ _ | exact Kd.V_nil _ _ _ _ _ | exact Kd.Q_nil _ _ _ _ _ | exact Kd.S_nil _ _ _ _ _, bl_ HB.out⟩
def impl_WireCue.f (k : Nat) (l0 : List (S98)) (a1 : Int) (l2 : List (S103)) (a3 : Int) : Option ((List (S103)) × Int) := (impl_AreWires.f k l0 a1 l2).bind fun t249 => (if t249 = true then ((impl_within.f a3 0 (wrap64 (a1 - 1))).bind fun t250 => (if t250 = true then ((impl_wireOf.f k l2 a3).bind fun t251 => (if t251 ≥ 0 then (some (([] : List (S103)), 5)) else ((impl_putWire.f k l0 l2 a3).bind fun bt252 => (if bt252.2 = true then (some (bt252.1, 0)) else (some (([] : List (S103)), 4)))))) else (some (([] : List (S103)), 2)))) else (some (([] : List (S103)), 1)))
theorem impl_WireCue.mono : ∀ a0 a1 a2 a3 k, LeO (impl_WireCue.f k a0 a1 a2 a3) (impl_WireCue.f (k + 1) a0 a1 a2 a3) := by
 intro a0 a1 a2 a3 k
 unfold impl_WireCue.f
 repeat' first
   | (with_reducible exact impl_AreWires.mono _ _ _ _)
   | (with_reducible exact impl_putWire.mono _ _ _ _)
   | (with_reducible exact impl_wireOf.mono _ _ _)
   | (with_reducible exact LeO.refl _)
   | (with_reducible exact LeO.none _)
   | (with_reducible refine LeO.ite ?_ ?_)
   | (with_reducible refine LeO.bind ?_ (fun _ => ?_))
   | exact impl_AreWires.mono _ _ _ _
   | exact impl_putWire.mono _ _ _ _
   | exact impl_wireOf.mono _ _ _
   | exact LeO.none _
   | refine LeO.ite ?_ ?_
   | refine LeO.bind ?_ (fun _ => ?_)
set_option maxHeartbeats 8000000 in
set_option maxRecDepth 100000 in
theorem impl_WireCue.calls (k : Nat) (A0 : Option Addr) (c0 : Nat) (l0 : List (S98)) (a1 : Int) (A2 : Option Addr) (c2 : Nat) (l2 : List (S103)) (a3 : Int) (r1 : List (S103)) (r2 : Int) (w : World) (hr0 : Kd.C k98 w A0 l0.length l0) (hc0 : l0.length ≤ c0) (hr2 : Kd.C k103 w A2 l2.length l2) (hc2 : l2.length ≤ c2) (h : impl_WireCue.f k l0 a1 l2 a3 = some (r1, r2)) :
  Calls Try.prog 15 #[.slice A0 l0.length c0, .int .i64 a1, .slice A2 l2.length c2, .int .i64 a3] w fun e w' => ∃ v0_ : Value, e = .returned (.tuple #[v0_, .int .i64 r2]) ∧ Kd.R k103 103 w' w.heap.size (fun _ => True) v0_ r1 ∧ Below w.heap.size w w' := by
 have HR0 := Aside0.mk hr0
 have HC0 := Aside0.mk hc0
 clear hr0 hc0
 have HR2 := Aside0.mk hr2
 have HC2 := Aside0.mk hc2
 clear hr2 hc2
 have HB := Aside0.mk (Below.refl w.heap.size w)
 have H : ((impl_AreWires.f k l0 a1 l2).bind fun t249 => (if t249 = true then ((impl_within.f a3 0 (wrap64 (a1 - 1))).bind fun t250 => (if t250 = true then ((impl_wireOf.f k l2 a3).bind fun t251 => (if t251 ≥ 0 then (some (([] : List (S103)), 5)) else ((impl_putWire.f k l0 l2 a3).bind fun bt252 => (if bt252.2 = true then (some (bt252.1, 0)) else (some (([] : List (S103)), 4)))))) else (some (([] : List (S103)), 2)))) else (some (([] : List (S103)), 1)))) = some (r1, r2) := h
 clear h
 replace H := Option.bind_eq_some_iff.mp H
 obtain ⟨t249, A50, H⟩ := H
 replace H : (if t249 = true then ((impl_within.f a3 0 (wrap64 (a1 - 1))).bind fun t250 => (if t250 = true then ((impl_wireOf.f k l2 a3).bind fun t251 => (if t251 ≥ 0 then (some (([] : List (S103)), 5)) else ((impl_putWire.f k l0 l2 a3).bind fun bt252 => (if bt252.2 = true then (some (bt252.1, 0)) else (some (([] : List (S103)), 4)))))) else (some (([] : List (S103)), 2)))) else (some (([] : List (S103)), 1))) = some (r1, r2) := H
 have A5 := Aside0.mk A50
 clear A50
 by_cases c6 : t249 = true
 ·subst c6
  have H1 : ((impl_within.f a3 0 (wrap64 (a1 - 1))).bind fun t250 => (if t250 = true then ((impl_wireOf.f k l2 a3).bind fun t251 => (if t251 ≥ 0 then (some (([] : List (S103)), 5)) else ((impl_putWire.f k l0 l2 a3).bind fun bt252 => (if bt252.2 = true then (some (bt252.1, 0)) else (some (([] : List (S103)), 4)))))) else (some (([] : List (S103)), 2)))) = some (r1, r2) := by rw [if_pos rfl] at H; exact H
  clear H
  have H := H1
  clear H1
  replace H := Option.bind_eq_some_iff.mp H
  obtain ⟨t250, A70, H⟩ := H
  replace H : (if t250 = true then ((impl_wireOf.f k l2 a3).bind fun t251 => (if t251 ≥ 0 then (some (([] : List (S103)), 5)) else ((impl_putWire.f k l0 l2 a3).bind fun bt252 => (if bt252.2 = true then (some (bt252.1, 0)) else (some (([] : List (S103)), 4)))))) else (some (([] : List (S103)), 2))) = some (r1, r2) := H
  have A7 := Aside0.mk A70
  clear A70
  by_cases c8 : t250 = true
  ·subst c8
   have H1 : ((impl_wireOf.f k l2 a3).bind fun t251 => (if t251 ≥ 0 then (some (([] : List (S103)), 5)) else ((impl_putWire.f k l0 l2 a3).bind fun bt252 => (if bt252.2 = true then (some (bt252.1, 0)) else (some (([] : List (S103)), 4)))))) = some (r1, r2) := by rw [if_pos rfl] at H; exact H
   clear H
   have H := H1
   clear H1
   replace H := Option.bind_eq_some_iff.mp H
   obtain ⟨t251, A90, H⟩ := H
   replace H : (if t251 ≥ 0 then (some (([] : List (S103)), 5)) else ((impl_putWire.f k l0 l2 a3).bind fun bt252 => (if bt252.2 = true then (some (bt252.1, 0)) else (some (([] : List (S103)), 4))))) = some (r1, r2) := H
   have A9 := Aside0.mk A90
   clear A90
   by_cases c10 : t251 ≥ 0
   ·rw [if_pos c10] at H
    have c10b0 : decide (0 ≤ t251) = true := decide_eq_true c10
    clear c10
    simp only [Option.some.injEq, Prod.mk.injEq] at H
    obtain ⟨rfl, rfl⟩ := H
    go_enter Try.func15, Try.ntmps15
    go_wp2_with (first | ((with_reducible refine gate_callee (f := 68) rfl ?_); refine goesL_ (some 15) rfl rfl Try.func68 (by kernel_rfl) rfl #[.slice A0 l0.length c0, .int .i64 a1, .slice A2 l2.length c2] rfl ag_ ?_; (with_reducible refine (impl_AreWires.calls k _ _ l0 a1 _ _ l2 true _ ?side1 ?side2 ?side3 ?side4 A5.out).mono ?_); (case side1 => exact r6_ HR0.out); (case side2 => exact HC0.out); (case side3 => exact r6_ HR2.out); (case side4 => exact HC2.out); rintro e w11 ⟨rfl, hb⟩; refine ⟨_, rfl, ?_⟩; have n0_ := Aside0.mk (below_step (bl_ HB.out) hb); clear HB; have HB := n0_; clear n0_; (try clear hb); (try clear hb2); (try clear hk); (try clear hi)) | ((with_reducible refine gate_callee (f := 78) rfl ?_); refine goesL_ (some 20) rfl rfl Try.func78 (by kernel_rfl) rfl #[.int .i64 a3, .int .i64 0, .int .i64 (wrap64 (a1 - 1))] rfl ag_ ?_; (with_reducible refine (impl_within.calls a3 0 (wrap64 (a1 - 1)) true _ A7.out).mono ?_); rintro e w' ⟨rfl, ⟨nd, rfl⟩⟩; refine ⟨_, rfl, ?_⟩) | ((with_reducible refine gate_callee (f := 79) rfl ?_); refine goesL_ (some 24) rfl rfl Try.func79 (by kernel_rfl) rfl #[.slice A2 l2.length c2, .int .i64 a3] rfl ag_ ?_; (with_reducible refine (impl_wireOf.calls k _ _ l2 a3 t251 _ ?side1 ?side2 A9.out).mono ?_); (case side1 => exact r12_ HR2.out HB.out); (case side2 => exact HC2.out); rintro e w12 ⟨rfl, hb⟩; refine ⟨_, rfl, ?_⟩; have n0_ := Aside0.mk (below_step (bl_ HB.out) hb); clear HB; have HB := n0_; clear n0_; (try clear hb); (try clear hb2); (try clear hk); (try clear hi)))
    go_ret2
    exact ⟨_, by first | rfl | (simp [errW_none, errW_some] <;> rfl) | (simp [*, errW_none, errW_some] <;> rfl), by first | exact Kd.R_nil _ _ _ _ _ | exact Kd.N_nil _ _ _ _ _ | exact Kd.V_nil _ _ _ _ _ | exact Kd.Q_nil _ _ _ _ _ | exact Kd.S_nil _ _ _ _ _, bl_ HB.out⟩
   ·rw [if_neg c10] at H
    have c10b0 : decide (0 ≤ t251) = false := decide_eq_false c10
    clear c10
    replace H := Option.bind_eq_some_iff.mp H
    obtain ⟨⟨t252, t253⟩, A130, H⟩ := H
    replace H : (if t253 = true then (some (t252, 0)) else (some (([] : List (S103)), 4))) = some (r1, r2) := H
    have A13 := Aside0.mk A130
    clear A130
    by_cases c14 : t253 = true
    ·subst c14
     have H1 : (some (t252, 0)) = some (r1, r2) := by rw [if_pos rfl] at H; exact H
     clear H
     have H := H1
     clear H1
     simp only [Option.some.injEq, Prod.mk.injEq] at H
     obtain ⟨rfl, rfl⟩ := H
     go_enter Try.func15, Try.ntmps15
     go_wp2_with (first | ((with_reducible refine gate_callee (f := 68) rfl ?_); refine goesL_ (some 15) rfl rfl Try.func68 (by kernel_rfl) rfl #[.slice A0 l0.length c0, .int .i64 a1, .slice A2 l2.length c2] rfl ag_ ?_; (with_reducible refine (impl_AreWires.calls k _ _ l0 a1 _ _ l2 true _ ?side1 ?side2 ?side3 ?side4 A5.out).mono ?_); (case side1 => exact r6_ HR0.out); (case side2 => exact HC0.out); (case side3 => exact r6_ HR2.out); (case side4 => exact HC2.out); rintro e w15 ⟨rfl, hb⟩; refine ⟨_, rfl, ?_⟩; have n0_ := Aside0.mk (below_step (bl_ HB.out) hb); clear HB; have HB := n0_; clear n0_; (try clear hb); (try clear hb2); (try clear hk); (try clear hi)) | ((with_reducible refine gate_callee (f := 78) rfl ?_); refine goesL_ (some 20) rfl rfl Try.func78 (by kernel_rfl) rfl #[.int .i64 a3, .int .i64 0, .int .i64 (wrap64 (a1 - 1))] rfl ag_ ?_; (with_reducible refine (impl_within.calls a3 0 (wrap64 (a1 - 1)) true _ A7.out).mono ?_); rintro e w' ⟨rfl, ⟨nd, rfl⟩⟩; refine ⟨_, rfl, ?_⟩) | ((with_reducible refine gate_callee (f := 79) rfl ?_); refine goesL_ (some 24) rfl rfl Try.func79 (by kernel_rfl) rfl #[.slice A2 l2.length c2, .int .i64 a3] rfl ag_ ?_; (with_reducible refine (impl_wireOf.calls k _ _ l2 a3 t251 _ ?side1 ?side2 A9.out).mono ?_); (case side1 => exact r12_ HR2.out HB.out); (case side2 => exact HC2.out); rintro e w16 ⟨rfl, hb⟩; refine ⟨_, rfl, ?_⟩; have n0_ := Aside0.mk (below_step (bl_ HB.out) hb); clear HB; have HB := n0_; clear n0_; (try clear hb); (try clear hb2); (try clear hk); (try clear hi)) | ((with_reducible refine gate_callee (f := 80) rfl ?_); refine goesL_ (some 30) rfl rfl Try.func80 (by kernel_rfl) rfl #[.slice A0 l0.length c0, .slice A2 l2.length c2, .int .i64 a3] rfl ag_ ?_; (with_reducible refine (impl_putWire.calls k _ _ l0 _ _ l2 a3 t252 true _ ?side1 ?side2 ?side3 ?side4 A13.out).mono ?_); (case side1 => exact r9_ HR0.out HB.out); (case side2 => exact HC0.out); (case side3 => exact r9_ HR2.out HB.out); (case side4 => exact HC2.out); rintro e w17 ⟨v254, rfl, ho0, hb⟩; refine ⟨_, rfl, ?_⟩; have n0_ := Aside0.mk (Kd.R_lower ho0 (below_size (bl_ HB.out))); have n1_ := Aside0.mk (below_step (bl_ HB.out) hb); clear HB; have HO255 := n0_; have HB := n1_; clear n0_ n1_; (try clear hb); (try clear hb2); (try clear hk); (try clear hi); (try clear ho0)))
     go_ret2
     exact ⟨_, by first | rfl | (simp [errW_none, errW_some] <;> rfl) | (simp [*, errW_none, errW_some] <;> rfl), rk_ HO255.out, bl_ HB.out⟩
    ·replace c14 := Bool.eq_false_iff.mpr c14
     subst c14
     have H1 : (some (([] : List (S103)), 4)) = some (r1, r2) := by rw [if_neg (show ¬ (false = true) by decide)] at H; exact H
     clear H
     have H := H1
     clear H1
     simp only [Option.some.injEq, Prod.mk.injEq] at H
     obtain ⟨rfl, rfl⟩ := H
     go_enter Try.func15, Try.ntmps15
     go_wp2_with (first | ((with_reducible refine gate_callee (f := 68) rfl ?_); refine goesL_ (some 15) rfl rfl Try.func68 (by kernel_rfl) rfl #[.slice A0 l0.length c0, .int .i64 a1, .slice A2 l2.length c2] rfl ag_ ?_; (with_reducible refine (impl_AreWires.calls k _ _ l0 a1 _ _ l2 true _ ?side1 ?side2 ?side3 ?side4 A5.out).mono ?_); (case side1 => exact r6_ HR0.out); (case side2 => exact HC0.out); (case side3 => exact r6_ HR2.out); (case side4 => exact HC2.out); rintro e w18 ⟨rfl, hb⟩; refine ⟨_, rfl, ?_⟩; have n0_ := Aside0.mk (below_step (bl_ HB.out) hb); clear HB; have HB := n0_; clear n0_; (try clear hb); (try clear hb2); (try clear hk); (try clear hi)) | ((with_reducible refine gate_callee (f := 78) rfl ?_); refine goesL_ (some 20) rfl rfl Try.func78 (by kernel_rfl) rfl #[.int .i64 a3, .int .i64 0, .int .i64 (wrap64 (a1 - 1))] rfl ag_ ?_; (with_reducible refine (impl_within.calls a3 0 (wrap64 (a1 - 1)) true _ A7.out).mono ?_); rintro e w' ⟨rfl, ⟨nd, rfl⟩⟩; refine ⟨_, rfl, ?_⟩) | ((with_reducible refine gate_callee (f := 79) rfl ?_); refine goesL_ (some 24) rfl rfl Try.func79 (by kernel_rfl) rfl #[.slice A2 l2.length c2, .int .i64 a3] rfl ag_ ?_; (with_reducible refine (impl_wireOf.calls k _ _ l2 a3 t251 _ ?side1 ?side2 A9.out).mono ?_); (case side1 => exact r12_ HR2.out HB.out); (case side2 => exact HC2.out); rintro e w19 ⟨rfl, hb⟩; refine ⟨_, rfl, ?_⟩; have n0_ := Aside0.mk (below_step (bl_ HB.out) hb); clear HB; have HB := n0_; clear n0_; (try clear hb); (try clear hb2); (try clear hk); (try clear hi)) | ((with_reducible refine gate_callee (f := 80) rfl ?_); refine goesL_ (some 30) rfl rfl Try.func80 (by kernel_rfl) rfl #[.slice A0 l0.length c0, .slice A2 l2.length c2, .int .i64 a3] rfl ag_ ?_; (with_reducible refine (impl_putWire.calls k _ _ l0 _ _ l2 a3 t252 false _ ?side1 ?side2 ?side3 ?side4 A13.out).mono ?_); (case side1 => exact r9_ HR0.out HB.out); (case side2 => exact HC0.out); (case side3 => exact r9_ HR2.out HB.out); (case side4 => exact HC2.out); rintro e w20 ⟨v254, rfl, ho0, hb⟩; refine ⟨_, rfl, ?_⟩; have n0_ := Aside0.mk (Kd.R_lower ho0 (below_size (bl_ HB.out))); have n1_ := Aside0.mk (below_step (bl_ HB.out) hb); clear HB; have HO255 := n0_; have HB := n1_; clear n0_ n1_; (try clear hb); (try clear hb2); (try clear hk); (try clear hi); (try clear ho0)))
     go_ret2
     exact ⟨_, by first | rfl | (simp [errW_none, errW_some] <;> rfl) | (simp [*, errW_none, errW_some] <;> rfl), by first | exact Kd.R_nil _ _ _ _ _ | exact Kd.N_nil _ _ _ _ _ | exact Kd.V_nil _ _ _ _ _ | exact Kd.Q_nil _ _ _ _ _ | exact Kd.S_nil _ _ _ _ _, bl_ HB.out⟩
  ·replace c8 := Bool.eq_false_iff.mpr c8
   subst c8
   have H1 : (some (([] : List (S103)), 2)) = some (r1, r2) := by rw [if_neg (show ¬ (false = true) by decide)] at H; exact H
   clear H
   have H := H1
   clear H1
   simp only [Option.some.injEq, Prod.mk.injEq] at H
   obtain ⟨rfl, rfl⟩ := H
   go_enter Try.func15, Try.ntmps15
   go_wp2_with (first | ((with_reducible refine gate_callee (f := 68) rfl ?_); refine goesL_ (some 15) rfl rfl Try.func68 (by kernel_rfl) rfl #[.slice A0 l0.length c0, .int .i64 a1, .slice A2 l2.length c2] rfl ag_ ?_; (with_reducible refine (impl_AreWires.calls k _ _ l0 a1 _ _ l2 true _ ?side1 ?side2 ?side3 ?side4 A5.out).mono ?_); (case side1 => exact r6_ HR0.out); (case side2 => exact HC0.out); (case side3 => exact r6_ HR2.out); (case side4 => exact HC2.out); rintro e w21 ⟨rfl, hb⟩; refine ⟨_, rfl, ?_⟩; have n0_ := Aside0.mk (below_step (bl_ HB.out) hb); clear HB; have HB := n0_; clear n0_; (try clear hb); (try clear hb2); (try clear hk); (try clear hi)) | ((with_reducible refine gate_callee (f := 78) rfl ?_); refine goesL_ (some 20) rfl rfl Try.func78 (by kernel_rfl) rfl #[.int .i64 a3, .int .i64 0, .int .i64 (wrap64 (a1 - 1))] rfl ag_ ?_; (with_reducible refine (impl_within.calls a3 0 (wrap64 (a1 - 1)) false _ A7.out).mono ?_); rintro e w' ⟨rfl, ⟨nd, rfl⟩⟩; refine ⟨_, rfl, ?_⟩))
   go_ret2
   exact ⟨_, by first | rfl | (simp [errW_none, errW_some] <;> rfl) | (simp [*, errW_none, errW_some] <;> rfl), by first | exact Kd.R_nil _ _ _ _ _ | exact Kd.N_nil _ _ _ _ _ | exact Kd.V_nil _ _ _ _ _ | exact Kd.Q_nil _ _ _ _ _ | exact Kd.S_nil _ _ _ _ _, bl_ HB.out⟩
 ·replace c6 := Bool.eq_false_iff.mpr c6
  subst c6
  have H1 : (some (([] : List (S103)), 1)) = some (r1, r2) := by rw [if_neg (show ¬ (false = true) by decide)] at H; exact H
  clear H
  have H := H1
  clear H1
  simp only [Option.some.injEq, Prod.mk.injEq] at H
  obtain ⟨rfl, rfl⟩ := H
  go_enter Try.func15, Try.ntmps15
  go_wp2_with (first | ((with_reducible refine gate_callee (f := 68) rfl ?_); refine goesL_ (some 15) rfl rfl Try.func68 (by kernel_rfl) rfl #[.slice A0 l0.length c0, .int .i64 a1, .slice A2 l2.length c2] rfl ag_ ?_; (with_reducible refine (impl_AreWires.calls k _ _ l0 a1 _ _ l2 false _ ?side1 ?side2 ?side3 ?side4 A5.out).mono ?_); (case side1 => exact r6_ HR0.out); (case side2 => exact HC0.out); (case side3 => exact r6_ HR2.out); (case side4 => exact HC2.out); rintro e w22 ⟨rfl, hb⟩; refine ⟨_, rfl, ?_⟩; have n0_ := Aside0.mk (below_step (bl_ HB.out) hb); clear HB; have HB := n0_; clear n0_; (try clear hb); (try clear hb2); (try clear hk); (try clear hi)))
  go_ret2
  exact ⟨_, by first | rfl | (simp [errW_none, errW_some] <;> rfl) | (simp [*, errW_none, errW_some] <;> rfl), by first | exact Kd.R_nil _ _ _ _ _ | exact Kd.N_nil _ _ _ _ _ | exact Kd.V_nil _ _ _ _ _ | exact Kd.Q_nil _ _ _ _ _ | exact Kd.S_nil _ _ _ _ _, bl_ HB.out⟩
def laws_big.f (l0 : List Int) : Option (Bool) := some (decide ((l0.length : Int) > 4096))
set_option maxHeartbeats 8000000 in
set_option maxRecDepth 100000 in
theorem laws_big.calls (A0 : Option Addr) (c0 : Nat) (l0 : List Int) (r : Bool) (w : World) (hr0 : Kd.C (Kd.int .u8) w A0 l0.length l0) (hc0 : l0.length ≤ c0) (h : laws_big.f l0 = some r) :
    Calls Try.prog 47 #[.slice A0 l0.length c0] w fun e w' => e = .returned (.bool r) ∧ Drawn0 w w' := by
  have HR0 := Aside0.mk hr0
  have HC0 := Aside0.mk hc0
  clear hr0 hc0
  have H : (some (decide ((l0.length : Int) > 4096))) = some r := h
  clear h
  obtain rfl := Option.some.inj H
  go_enter Try.func47, Try.ntmps47
  go_wp2
  go_ret
  exact ⟨by first | rfl | (simp; done) | (simp [*]; done), by repeat (first | exact Drawn0.refl _ | apply Drawn0.step)⟩
def laws_likeInts.l0 : Nat → List Int → List Int → Int → Option (Bool)
 | 0, _, _, _ => none
 | k + 1, x0, x1, x5 => if x5 < (x0.length : Int) then (if 0 ≤ x5 then (if x5 < (x1.length : Int) then (if (rd x0 x5) = (rd x1 x5) then (laws_likeInts.l0 k x0 x1 (wrap64 (x5 + 1))) else (some false)) else (none)) else (none)) else (some true)
def laws_likeInts.f (k : Nat) (l0 : List Int) (l1 : List Int) : Option (Bool) := if (l0.length : Int) = (l1.length : Int) then (laws_likeInts.l0 k l0 l1 0) else (some false)
theorem laws_likeInts.mono_l : ∀ k, (∀ y0 y1 y2, LeO (laws_likeInts.l0 k y0 y1 y2) (laws_likeInts.l0 (k + 1) y0 y1 y2))
 | 0 => fun _ _ _ r h => by simp [laws_likeInts.l0] at h
 | k + 1 => by
  have ih0 := laws_likeInts.mono_l k
  ·intro y0 y1 y2
   unfold laws_likeInts.l0
   repeat' first
   | (with_reducible exact ih0 _ _ _)
   | (with_reducible exact LeO.refl _)
   | (with_reducible exact LeO.none _)
   | (with_reducible refine LeO.ite ?_ ?_)
   | (with_reducible refine LeO.bind ?_ (fun _ => ?_))
   | exact ih0 _ _ _
   | exact LeO.none _
   | refine LeO.ite ?_ ?_
   | refine LeO.bind ?_ (fun _ => ?_)
theorem laws_likeInts.mono : ∀ a0 a1 k, LeO (laws_likeInts.f k a0 a1) (laws_likeInts.f (k + 1) a0 a1) := by
 intro a0 a1 k
 have ih0 := laws_likeInts.mono_l k
 unfold laws_likeInts.f
 repeat' first
   | (with_reducible exact ih0 _ _ _)
   | (with_reducible exact LeO.refl _)
   | (with_reducible exact LeO.none _)
   | (with_reducible refine LeO.ite ?_ ?_)
   | (with_reducible refine LeO.bind ?_ (fun _ => ?_))
   | exact ih0 _ _ _
   | exact LeO.none _
   | refine LeO.ite ?_ ?_
   | refine LeO.bind ?_ (fun _ => ?_)
set_option maxHeartbeats 8000000 in
set_option maxRecDepth 100000 in
theorem laws_likeInts.calls (k : Nat) (A0 : Option Addr) (c0 : Nat) (l0 : List Int) (A1 : Option Addr) (c1 : Nat) (l1 : List Int) (r : Bool) (w : World) (hr0 : Kd.C (Kd.int .i64) w A0 l0.length l0) (hc0 : l0.length ≤ c0) (hr1 : Kd.C (Kd.int .i64) w A1 l1.length l1) (hc1 : l1.length ≤ c1) (h : laws_likeInts.f k l0 l1 = some r) :
  Calls Try.prog 56 #[.slice A0 l0.length c0, .slice A1 l1.length c1] w fun e w' => e = .returned (.bool r) ∧ Drawn0 w w' := by
 have HR0 := Aside0.mk hr0
 have HC0 := Aside0.mk hc0
 clear hr0 hc0
 have HR1 := Aside0.mk hr1
 have HC1 := Aside0.mk hc1
 clear hr1 hc1
 have H : (if (l0.length : Int) = (l1.length : Int) then (laws_likeInts.l0 k l0 l1 0) else (some false)) = some r := h
 clear h
 by_cases c3 : (l0.length : Int) = (l1.length : Int)
 ·rw [if_pos c3] at H
  have c3b0 : ((l0.length : Int) == (l1.length : Int)) = true := beq_iff_eq.mpr c3
  have c3b1 : ((l0.length : Int) != (l1.length : Int)) = false := bne_eq_false_iff_eq.mpr c3
  have c3b2 : (l0.length == l1.length) = true := by first | simpa using c3 | (simp at c3 ⊢; omega)
  clear c3
  have H' := Aside0.mk H
  clear H
  go_enter Try.func56, Try.ntmps56
  go_wp2
  repeat (go_quiet (fail); try go_wp2)
  go_loopg [5] k (fun kq v5 w' => ∃ (x5_1 : Int), v5 = .int .i64 x5_1 ∧ Aside0 (laws_likeInts.l0 kq l0 l1 x5_1 = some r) ∧ Aside0 (kq ≤ k) ∧ Drawn0 w w')
  case atStart => exact ⟨(0), (by first | rfl | (simp; done) | (simp [*]; done)), H', ⟨Nat.le_refl _⟩, by repeat (first | exact Drawn0.refl _ | apply Drawn0.step)⟩
  case round =>
   clear H'
   try clear c1
   try clear p2
   try clear c3
   try clear c3b0
   try clear c3b1
   try clear c3b2
   obtain ⟨x5_1, rfl, HA, HK1, ⟨m1, rfl⟩⟩ := hrel
   cases gk with
   | zero => exact absurd HA.out (by simp [laws_likeInts.l0])
   | succ k1 =>
    have H := HA.out
    clear HA
    simp only [laws_likeInts.l0] at H
    by_cases c4 : x5_1 < (l0.length : Int)
    ·rw [if_pos c4] at H
     have c4b0 : decide (x5_1 < (l0.length : Int)) = true := decide_eq_true c4
     clear c4
     by_cases c5 : 0 ≤ x5_1
     case neg =>
      rw [if_neg c5] at H
      exact absurd H (by simp)
     rw [if_pos c5] at H
     have c5b0 : decide (0 ≤ x5_1) = true := decide_eq_true c5
     clear c5
     by_cases c6 : x5_1 < (l1.length : Int)
     case neg =>
      rw [if_neg c6] at H
      exact absurd H (by simp)
     rw [if_pos c6] at H
     have c6b0 : decide (x5_1 < (l1.length : Int)) = true := decide_eq_true c6
     clear c6
     by_cases c7 : (rd l0 x5_1) = (rd l1 x5_1)
     ·rw [if_pos c7] at H
      have c7b0 : ((rd l0 x5_1) == (rd l1 x5_1)) = true := beq_iff_eq.mpr c7
      have c7b1 : ((rd l0 x5_1) != (rd l1 x5_1)) = false := bne_eq_false_iff_eq.mpr c7
      clear c7
      have H' := Aside0.mk H
      clear H
      have p256 : 0 ≤ (x5_1 : Int) := od_
      have q256 : x5_1 < (l0.length : Int) := od_
      obtain ⟨ad256, e256, hx256_0⟩ := Kd.at_int HR0.out x5_1 p256 q256
      cases e256
      replace p256 := eq_true p256
      replace q256 := eq_true q256
      have p257 : 0 ≤ (x5_1 : Int) := od_
      have q257 : x5_1 < (l1.length : Int) := od_
      obtain ⟨ad257, e257, hx257_0⟩ := Kd.at_int HR1.out x5_1 p257 q257
      cases e257
      replace p257 := eq_true p257
      replace q257 := eq_true q257
      go_wp2
      repeat (go_quiet (fail); try go_wp2)
      go_roundg k1
      case measure => have := HK1.out; omega
      case rel => exact ⟨(wrap64 (x5_1 + 1)), (by first | rfl | (simp; done) | (simp [*]; done)), H', ⟨by have := HK1.out; omega⟩, by repeat (first | exact Drawn0.refl _ | apply Drawn0.step)⟩
     ·rw [if_neg c7] at H
      have c7b0 : ((rd l0 x5_1) == (rd l1 x5_1)) = false := beq_eq_false_iff_ne.mpr c7
      have c7b1 : ((rd l0 x5_1) != (rd l1 x5_1)) = true := bne_iff_ne.mpr c7
      obtain rfl := Option.some.inj H
      have p256 : 0 ≤ (x5_1 : Int) := od_
      have q256 : x5_1 < (l0.length : Int) := od_
      obtain ⟨ad256, e256, hx256_0⟩ := Kd.at_int HR0.out x5_1 p256 q256
      cases e256
      replace p256 := eq_true p256
      replace q256 := eq_true q256
      have p257 : 0 ≤ (x5_1 : Int) := od_
      have q257 : x5_1 < (l1.length : Int) := od_
      obtain ⟨ad257, e257, hx257_0⟩ := Kd.at_int HR1.out x5_1 p257 q257
      cases e257
      replace p257 := eq_true p257
      replace q257 := eq_true q257
      go_wp2
      repeat (go_quiet (fail); try go_wp2)
      go_ret
      exact ⟨by first | rfl | (simp; done) | (simp [*]; done), by repeat (first | exact Drawn0.refl _ | apply Drawn0.step)⟩
    ·rw [if_neg c4] at H
     have c4b0 : decide (x5_1 < (l0.length : Int)) = false := decide_eq_false c4
     clear c4
     obtain rfl := Option.some.inj H
     go_wp2
     repeat (go_quiet (fail); try go_wp2)
     go_ret
     exact ⟨by first | rfl | (simp; done) | (simp [*]; done), by repeat (first | exact Drawn0.refl _ | apply Drawn0.step)⟩
 ·rw [if_neg c3] at H
  have c3b0 : ((l0.length : Int) == (l1.length : Int)) = false := beq_eq_false_iff_ne.mpr c3
  have c3b1 : ((l0.length : Int) != (l1.length : Int)) = true := bne_iff_ne.mpr c3
  have c3b2 : (l0.length == l1.length) = false := by first | simpa using c3 | (simp at c3 ⊢; omega)
  obtain rfl := Option.some.inj H
  go_enter Try.func56, Try.ntmps56
  go_wp2
  repeat (go_quiet (fail); try go_wp2)
  go_ret
  exact ⟨by first | rfl | (simp; done) | (simp [*]; done), by repeat (first | exact Drawn0.refl _ | apply Drawn0.step)⟩
def laws_hasInt.l0 : Nat → List Int → Int → Int → Option (Bool)
  | 0, _, _, _ => none
  | k + 1, x0, x1, x5 => if x5 < (x0.length : Int) then (if 0 ≤ x5 then (if (rd x0 x5) = x1 then (some true) else (laws_hasInt.l0 k x0 x1 (wrap64 (x5 + 1)))) else (none)) else (some false)
def laws_hasInt.f (k : Nat) (l0 : List Int) (a1 : Int) : Option (Bool) := laws_hasInt.l0 k l0 a1 0
theorem laws_hasInt.mono_l : ∀ k, (∀ y0 y1 y2, LeO (laws_hasInt.l0 k y0 y1 y2) (laws_hasInt.l0 (k + 1) y0 y1 y2))
  | 0 => fun _ _ _ r h => by simp [laws_hasInt.l0] at h
  | k + 1 => by
    have ih0 := laws_hasInt.mono_l k
    · intro y0 y1 y2
      unfold laws_hasInt.l0
      repeat' first
      | (with_reducible exact ih0 _ _ _)
      | (with_reducible exact LeO.refl _)
      | (with_reducible exact LeO.none _)
      | (with_reducible refine LeO.ite ?_ ?_)
      | (with_reducible refine LeO.bind ?_ (fun _ => ?_))
      | exact ih0 _ _ _
      | exact LeO.none _
      | refine LeO.ite ?_ ?_
      | refine LeO.bind ?_ (fun _ => ?_)
theorem laws_hasInt.mono : ∀ a0 a1 k, LeO (laws_hasInt.f k a0 a1) (laws_hasInt.f (k + 1) a0 a1) := by
  intro a0 a1 k
  have ih0 := laws_hasInt.mono_l k
  unfold laws_hasInt.f
  repeat' first
      | (with_reducible exact ih0 _ _ _)
      | (with_reducible exact LeO.refl _)
      | (with_reducible exact LeO.none _)
      | (with_reducible refine LeO.ite ?_ ?_)
      | (with_reducible refine LeO.bind ?_ (fun _ => ?_))
      | exact ih0 _ _ _
      | exact LeO.none _
      | refine LeO.ite ?_ ?_
      | refine LeO.bind ?_ (fun _ => ?_)
set_option maxHeartbeats 8000000 in
set_option maxRecDepth 100000 in
theorem laws_hasInt.calls (k : Nat) (A0 : Option Addr) (c0 : Nat) (l0 : List Int) (a1 : Int) (r : Bool) (w : World) (hr0 : Kd.C (Kd.int .i64) w A0 l0.length l0) (hc0 : l0.length ≤ c0) (h : laws_hasInt.f k l0 a1 = some r) :
    Calls Try.prog 58 #[.slice A0 l0.length c0, .int .i64 a1] w fun e w' => e = .returned (.bool r) ∧ Drawn0 w w' := by
  have HR0 := Aside0.mk hr0
  have HC0 := Aside0.mk hc0
  clear hr0 hc0
  have H : (laws_hasInt.l0 k l0 a1 0) = some r := h
  clear h
  have H' := Aside0.mk H
  clear H
  go_enter Try.func58, Try.ntmps58
  go_wp2
  go_loopg [5] k (fun kq v5 w' => ∃ (x5_1 : Int), v5 = .int .i64 x5_1 ∧ Aside0 (laws_hasInt.l0 kq l0 a1 x5_1 = some r) ∧ Aside0 (kq ≤ k) ∧ Drawn0 w w')
  case atStart => exact ⟨(0), (by first | rfl | (simp; done) | (simp [*]; done)), H', ⟨Nat.le_refl _⟩, by repeat (first | exact Drawn0.refl _ | apply Drawn0.step)⟩
  case round =>
    clear H'
    try clear p2
    obtain ⟨x5_1, rfl, HA, HK1, ⟨m1, rfl⟩⟩ := hrel
    cases gk with
    | zero => exact absurd HA.out (by simp [laws_hasInt.l0])
    | succ k1 =>
      have H := HA.out
      clear HA
      simp only [laws_hasInt.l0] at H
      by_cases c3 : x5_1 < (l0.length : Int)
      · rw [if_pos c3] at H
        have c3b0 : decide (x5_1 < (l0.length : Int)) = true := decide_eq_true c3
        clear c3
        by_cases c4 : 0 ≤ x5_1
        · rw [if_pos c4] at H
          have c4b0 : decide (0 ≤ x5_1) = true := decide_eq_true c4
          clear c4
          by_cases c5 : (rd l0 x5_1) = a1
          · rw [if_pos c5] at H
            have c5b0 : ((rd l0 x5_1) == a1) = true := beq_iff_eq.mpr c5
            have c5b1 : ((rd l0 x5_1) != a1) = false := bne_eq_false_iff_eq.mpr c5
            clear c5
            obtain rfl := Option.some.inj H
            have p258 : 0 ≤ (x5_1 : Int) := od_
            have q258 : x5_1 < (l0.length : Int) := od_
            obtain ⟨ad258, e258, hx258_0⟩ := Kd.at_int HR0.out x5_1 p258 q258
            cases e258
            replace p258 := eq_true p258
            replace q258 := eq_true q258
            go_wp2
            go_ret
            exact ⟨by first | rfl | (simp; done) | (simp [*]; done), by repeat (first | exact Drawn0.refl _ | apply Drawn0.step)⟩
          · rw [if_neg c5] at H
            have c5b0 : ((rd l0 x5_1) == a1) = false := beq_eq_false_iff_ne.mpr c5
            have c5b1 : ((rd l0 x5_1) != a1) = true := bne_iff_ne.mpr c5
            have H' := Aside0.mk H
            clear H
            have p258 : 0 ≤ (x5_1 : Int) := od_
            have q258 : x5_1 < (l0.length : Int) := od_
            obtain ⟨ad258, e258, hx258_0⟩ := Kd.at_int HR0.out x5_1 p258 q258
            cases e258
            replace p258 := eq_true p258
            replace q258 := eq_true q258
            go_wp2
            go_roundg k1
            case measure => have := HK1.out; omega
            case rel => exact ⟨(wrap64 (x5_1 + 1)), (by first | rfl | (simp; done) | (simp [*]; done)), H', ⟨by have := HK1.out; omega⟩, by repeat (first | exact Drawn0.refl _ | apply Drawn0.step)⟩
        · rw [if_neg c4] at H
          exact absurd H (by simp)
      · rw [if_neg c3] at H
        have c3b0 : decide (x5_1 < (l0.length : Int)) = false := decide_eq_false c3
        clear c3
        obtain rfl := Option.some.inj H
        go_wp2
        go_ret
        exact ⟨by first | rfl | (simp; done) | (simp [*]; done), by repeat (first | exact Drawn0.refl _ | apply Drawn0.step)⟩
/-- A state of type 167 at block g of W; what its slices lead to came in by w0. -/
def IsS167 (w0 W : World) (g : Nat) (f0 : List Int) (f1 : Int) (f2 : Int) : Prop := ∃ A0 c0, W.heap[g]? = some (.cells #[.slice A0 f0.length c0, .int .i64 f1, .int .i64 f2] 167 (0, 0)) ∧ w0.heap.size ≤ g ∧ Kd.C (Kd.int .u8) w0 A0 f0.length f0
theorem IsS167.grown {w0 W : World} {g : Nat} {f0 : List Int} {f1 : Int} {f2 : Int} {W1 : World} {row : Option Nat} (h : IsS167 w0 W g f0 f1 f2) (hw : W.grownBy W1 row) (hne : some g ≠ row) : IsS167 w0 W1 g f0 f1 f2 := by
  obtain ⟨A0, c0, hb, hg, hr0⟩ := h
  exact ⟨A0, c0, blk_grown hb hw hne, hg, hr0⟩
theorem IsS167.own_neN {w0 W : World} {g : Nat} {f0 : List Int} {f1 : Int} {f2 : Int} {α : Type} {d : Kd α} {e : Nat} {base : Nat} {ok : Nat → Prop} {v : Value} {xs : List α} (h : IsS167 w0 W g f0 f1 f2) (ho : Kd.N d e W base ok v xs) (ht : e ≠ 167) : some g ≠ v.ownBlock := by
  obtain ⟨A0, c0, hb, hg, hr0⟩ := h
  exact Kd.N_ne ho hb ht
theorem IsS167.fresh {w0 W : World} {g : Nat} {f0 : List Int} {f1 : Int} {f2 : Int} (h : IsS167 w0 W g f0 f1 f2) : ∀ k, W.heap.size ≤ k → k ≠ g := by
  obtain ⟨A0, c0, hb, hg, hr0⟩ := h
  exact Kd.freshB hb
theorem IsS167.kept {w0 W : World} {g : Nat} {f0 : List Int} {f1 : Int} {f2 : Int} {W1 : World} {S : Nat → Prop} (h : IsS167 w0 W g f0 f1 f2) (hk : Kept W W1 S) (hne : ¬ S g) : IsS167 w0 W1 g f0 f1 f2 := by
  obtain ⟨A0, c0, hb, hg, hr0⟩ := h
  exact ⟨A0, c0, blk_kept hb hk hne, hg, hr0⟩
theorem IsS167.below {w0 W : World} {g : Nat} {f0 : List Int} {f1 : Int} {f2 : Int} {W1 : World} (h : IsS167 w0 W g f0 f1 f2) (hw : Below W.heap.size W W1) : IsS167 w0 W1 g f0 f1 f2 := h.grown (grown_of_below hw none) (by simp)
theorem IsS167.alloc {w0 W : World} {g : Nat} {f0 : List Int} {f1 : Int} {f2 : Int} (h : IsS167 w0 W g f0 f1 f2) (o : Obj) : IsS167 w0 (W.alloc o) g f0 f1 f2 := h.below (below_alloc (Below.refl _ _) o)
theorem IsS167.drewN {w0 W : World} {g : Nat} {f0 : List Int} {f1 : Int} {f2 : Int} (h : IsS167 w0 W g f0 f1 f2) (m : Nat) : IsS167 w0 (W.drewN m) g f0 f1 f2 := h
theorem IsS167.drew {w0 W : World} {g : Nat} {f0 : List Int} {f1 : Int} {f2 : Int} (h : IsS167 w0 W g f0 f1 f2) : IsS167 w0 W.drew g f0 f1 f2 := h
theorem IsS167.at_ {w0 W : World} {g : Nat} {f0 : List Int} {f1 : Int} {f2 : Int} {w' : World} {m : Nat} (hq : W.drewN m = w') (h : IsS167 w0 W g f0 f1 f2) : IsS167 w0 w' g f0 f1 f2 := by subst hq; exact IsS167.drewN h m
theorem IsS167.apart {w0 W : World} {g : Nat} {f0 : List Int} {f1 : Int} {f2 : Int} {α : Type} {d : Kd α} {e : Nat} {base : Nat} {ok : Nat → Prop} {v : Value} {xs : List α} (h : IsS167 w0 W g f0 f1 f2) (ho : d.R e W base ok v xs) (ht : ∀ q, q ∈ e :: d.E → q ≠ 167) : d.R e W base (fun k => ok k ∧ k ≠ g) v xs := by
  obtain ⟨A0, c0, hb, hg, hr0⟩ := h
  exact Kd.R_types ho hb ht
theorem IsS167.own_ne {w0 W : World} {g : Nat} {f0 : List Int} {f1 : Int} {f2 : Int} {α : Type} {d : Kd α} {e : Nat} {base : Nat} {ok : Nat → Prop} {v : Value} {xs : List α} (h : IsS167 w0 W g f0 f1 f2) (ho : d.R e W base ok v xs) (ht : e ≠ 167) : some g ≠ v.ownBlock := by
  obtain ⟨A0, c0, hb, hg, hr0⟩ := h
  exact Kd.R_ne ho hb ht
theorem IsS167.apartQ {w0 W : World} {g : Nat} {f0 : List Int} {f1 : Int} {f2 : Int} {α : Type} {d : Kd α} {e : Nat} {base : Nat} {ok : Nat → Prop} {v : Value} {xs : List α} (h : IsS167 w0 W g f0 f1 f2) (ho : d.Q e W base ok v xs) (ht : ∀ q, q ∈ e :: d.E → q ≠ 167) : d.Q e W base (fun k => ok k ∧ k ≠ g) v xs := by
  obtain ⟨A0, c0, hb, hg, hr0⟩ := h
  exact Kd.Q_types ho hb ht
theorem IsS167.own_neQ {w0 W : World} {g : Nat} {f0 : List Int} {f1 : Int} {f2 : Int} {α : Type} {d : Kd α} {e : Nat} {base : Nat} {ok : Nat → Prop} {v : Value} {xs : List α} (h : IsS167 w0 W g f0 f1 f2) (ho : d.Q e W base ok v xs) (ht : e ≠ 167) : some g ≠ v.ownBlock := by
  obtain ⟨A0, c0, hb, hg, hr0⟩ := h
  exact Kd.Q_ne ho hb ht
theorem IsS167.apartS {w0 W : World} {g : Nat} {f0 : List Int} {f1 : Int} {f2 : Int} {α : Type} {d : Kd α} {e : Nat} {base : Nat} {ok : Nat → Prop} {v : Value} {xs : List α} (h : IsS167 w0 W g f0 f1 f2) (ho : d.S e W base ok v xs) (ht : ∀ q, q ∈ e :: d.E → q ≠ 167) : d.S e W base (fun k => ok k ∧ k ≠ g) v xs := by
  obtain ⟨A0, c0, hb, hg, hr0⟩ := h
  exact Kd.S_types ho hb ht
theorem IsS167.own_neS {w0 W : World} {g : Nat} {f0 : List Int} {f1 : Int} {f2 : Int} {α : Type} {d : Kd α} {e : Nat} {base : Nat} {ok : Nat → Prop} {v : Value} {xs : List α} (h : IsS167 w0 W g f0 f1 f2) (ho : d.S e W base ok v xs) (ht : e ≠ 167) : some g ≠ v.ownBlock := by
  obtain ⟨A0, c0, hb, hg, hr0⟩ := h
  exact Kd.S_ne ho hb ht
theorem IsS167.lt {w0 W : World} {g : Nat} {f0 : List Int} {f1 : Int} {f2 : Int} (h : IsS167 w0 W g f0 f1 f2) : g < W.heap.size := by
  obtain ⟨A0, c0, hb, hg, hr0⟩ := h
  exact blk_lt hb
theorem IsS167.ge {w0 W : World} {g : Nat} {f0 : List Int} {f1 : Int} {f2 : Int} (h : IsS167 w0 W g f0 f1 f2) : w0.heap.size ≤ g := by
  obtain ⟨A0, c0, hb, hg, hr0⟩ := h
  exact hg
theorem IsS167.ne_blk {w0 W : World} {g : Nat} {f0 : List Int} {f1 : Int} {f2 : Int} {a : Nat} {cs : Array Value} {t : TypeId} {fr : Nat × Nat} (h : IsS167 w0 W g f0 f1 f2) (hb2 : W.heap[a]? = some (.cells cs t fr)) (ht : t ≠ 167) : g ≠ a := by
  obtain ⟨A0, c0, hb, hg, hr0⟩ := h
  rintro rfl
  rw [hb] at hb2
  injection hb2 with hb2
  injection hb2 with _ ht2
  exact ht ht2.symm
theorem IsS167.far {w0 W : World} {g : Nat} {f0 : List Int} {f1 : Int} {f2 : Int} {p : Addr} (h : IsS167 w0 W g f0 f1 f2) (hne : g ≠ p.block) (u : Value) : IsS167 w0 (W.setCell p u) g f0 f1 f2 := by
  obtain ⟨A0, c0, hb, hg, hr0⟩ := h
  exact ⟨A0, c0, blk_far hb hne u, hg, hr0⟩
theorem cellS167_0 {W : World} {g : Nat} {A0 : Option Addr} {c0 : Nat} {f0 : List Int} {f1 : Int} {f2 : Int} (h : W.heap[g]? = some (.cells #[.slice A0 f0.length c0, .int .i64 f1, .int .i64 f2] 167 (0, 0))) : W.cell? ⟨g, 0, none⟩ = some (.slice A0 f0.length c0) := (blk_cell h 0).trans rfl
theorem cellS167_1 {W : World} {g : Nat} {A0 : Option Addr} {c0 : Nat} {f0 : List Int} {f1 : Int} {f2 : Int} (h : W.heap[g]? = some (.cells #[.slice A0 f0.length c0, .int .i64 f1, .int .i64 f2] 167 (0, 0))) : W.cell? ⟨g, 1, none⟩ = some (.int .i64 f1) := (blk_cell h 1).trans rfl
theorem IsS167.set_1 {w0 W : World} {g : Nat} {f0 : List Int} {f1 : Int} {f2 : Int} (h : IsS167 w0 W g f0 f1 f2) (x : Int) : IsS167 w0 (W.setCell ⟨g, 1, none⟩ (.int .i64 x)) g f0 x f2 := by
  obtain ⟨A0, c0, hb, hg, hr0⟩ := h
  exact ⟨A0, c0, by simpa using blk_set hb 1 (.int .i64 x), hg, hr0⟩
theorem cellS167_2 {W : World} {g : Nat} {A0 : Option Addr} {c0 : Nat} {f0 : List Int} {f1 : Int} {f2 : Int} (h : W.heap[g]? = some (.cells #[.slice A0 f0.length c0, .int .i64 f1, .int .i64 f2] 167 (0, 0))) : W.cell? ⟨g, 2, none⟩ = some (.int .i64 f2) := (blk_cell h 2).trans rfl
theorem IsS167.set_2 {w0 W : World} {g : Nat} {f0 : List Int} {f1 : Int} {f2 : Int} (h : IsS167 w0 W g f0 f1 f2) (x : Int) : IsS167 w0 (W.setCell ⟨g, 2, none⟩ (.int .i64 x)) g f0 f1 x := by
  obtain ⟨A0, c0, hb, hg, hr0⟩ := h
  exact ⟨A0, c0, by simpa using blk_set hb 2 (.int .i64 x), hg, hr0⟩
theorem IsS167.new (w0 W : World) (A0 : Option Addr) (c0 : Nat) (f0 : List Int) (f1 : Int) (f2 : Int) (hB : Below w0.heap.size w0 W) (hr0 : Kd.C (Kd.int .u8) w0 A0 f0.length f0) : IsS167 w0 (W.alloc (.cells #[.slice A0 f0.length c0, .int .i64 f1, .int .i64 f2] 167)) W.heap.size f0 f1 f2 := ⟨A0, c0, by simpa using heap_alloc_new W _, hB.size, hr0⟩
theorem r0_ {P0 Q_ : Prop} (h0 : P0) (s : P0 → Q_ := by intro h0_; repeat (first | (with_reducible first | exact h0_ | apply IsS167.alloc | apply IsS167.drewN | apply IsS167.drew | apply IsS167.set_1 | apply IsS167.set_2) | exact h0_)) : Q_ := s h0
theorem r3_ {P0 P1 Q_ : Prop} (h0 : P0) (h1 : P1) (s : P0 → P1 → Q_ := by intro h0_ h1_; repeat (first | (with_reducible first | exact h0_ | apply below_alloc | apply pw_below_drewN | apply below_drew1 | refine below_set ?_ (IsS167.ge h1_)) | exact h0_)) : Q_ := s h0 h1
theorem r7_ {P0 P1 Q_ : Prop} (h0 : P0) (h1 : P1) (s : P0 → P1 → Q_ := by intro h0_ h1_; repeat (first | (with_reducible first | exact h0_ | apply IsS167.alloc | apply IsS167.drewN | apply IsS167.drew | apply IsS167.set_1 | apply IsS167.set_2 | refine IsS167.far ?_ h1_ _) | exact h0_)) : Q_ := s h0 h1
theorem r10_ {P0 P1 P2 Q_ : Prop} (h0 : P0) (h1 : P1) (h2 : P2) (s : P0 → P1 → P2 → Q_ := by intro h0_ h1_ h2_; repeat (first | (with_reducible first | exact h0_ | apply below_alloc | apply pw_below_drewN | apply below_drew1 | refine below_set ?_ (IsS167.ge h1_) | refine below_set ?_ h2_) | exact h0_)) : Q_ := s h0 h1 h2
end Go.Proofs.Ytalcbcelalbhiaa.PFnWires
