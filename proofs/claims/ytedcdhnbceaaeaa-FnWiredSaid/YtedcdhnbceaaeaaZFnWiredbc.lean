/- QFnWiredf of the law FnWired: taken over, declaration by declaration, as far as the law leans on it (the words and the printed functions are the kit's own print). No condition but what each says. -/
import Derived.Test.YtedcdhnbceaaeaaZFnWiredav
import Derived.Test.YtedcdhnbceaaeaaZFnWiredaw
import Derived.Test.YtedcdhnbceaaeaaZFnWiredax
namespace Go.Proofs.Ytedcdhnbceaaeaa.PFnWired
open Go.RowKit Go.Proofs.YtedcdhnbceaaeaaW.PrintWords Go.Proofs.YtedcdhnbceaaeaaW.PrintLast Go.Proofs.YtedcdhnbceaaeaaW.PrintMore
attribute [local go_sem] max2_int min2_int max_two min_two max_three min_three max_four min_four   -- for this text's walks alone
set_option linter.unusedVariables false
set_option linter.unusedSimpArgs false
open Bool renaming true → t_, false → f_
def spec_l13Code.f (k : Nat) (l0 : List (S200)) (a1 : Int) (l2 : List (S160)) (a3 : Int) (a4 : Int) : Option (Int) := (spec_AreWires.f k l0 a1 l2).bind fun t341 => (if t341 = true then ((spec_l01In.f a3 0 (wrap64 ((l0.length : Int) - 1))).bind fun t342 => (if t342 = true then ((spec_l01In.f a4 0 (mx 0 (wrap64 (a1 - 1)))).bind fun t343 => (if t343 = true then (some 0) else (some 2))) else (some 2))) else (some 1))
set_option maxHeartbeats 8000000 in
set_option maxRecDepth 100000 in
theorem spec_l13Code.calls (k : Nat) (A0 : Option Addr) (c0 : Nat) (l0 : List (S200)) (a1 : Int) (A2 : Option Addr) (c2 : Nat) (l2 : List (S160)) (a3 : Int) (a4 : Int) (r : Int) (w : World) (hr0 : Kd.C k200 w A0 l0.length l0) (hc0 : l0.length ≤ c0) (hr2 : Kd.C k160 w A2 l2.length l2) (hc2 : l2.length ≤ c2) (h : spec_l13Code.f k l0 a1 l2 a3 a4 = some r) :
  Calls Try.prog 126 #[.slice A0 l0.length c0, .int .i64 a1, .slice A2 l2.length c2, .int .i64 a3, .int .i64 a4] w fun e w' => e = .returned (.int .i64 r) ∧ Below w.heap.size w w' := by
 have HR0 := Aside0.mk hr0
 have HC0 := Aside0.mk hc0
 clear hr0 hc0
 have HR2 := Aside0.mk hr2
 have HC2 := Aside0.mk hc2
 clear hr2 hc2
 have HB := Aside0.mk (Below.refl w.heap.size w)
 have H : ((spec_AreWires.f k l0 a1 l2).bind fun t341 => (if t341 = true then ((spec_l01In.f a3 0 (wrap64 ((l0.length : Int) - 1))).bind fun t342 => (if t342 = true then ((spec_l01In.f a4 0 (mx 0 (wrap64 (a1 - 1)))).bind fun t343 => (if t343 = true then (some 0) else (some 2))) else (some 2))) else (some 1))) = some r := h
 clear h
 replace H := Option.bind_eq_some_iff.mp H
 obtain ⟨t341, A60, H⟩ := H
 replace H : (if t341 = true then ((spec_l01In.f a3 0 (wrap64 ((l0.length : Int) - 1))).bind fun t342 => (if t342 = true then ((spec_l01In.f a4 0 (mx 0 (wrap64 (a1 - 1)))).bind fun t343 => (if t343 = true then (some 0) else (some 2))) else (some 2))) else (some 1)) = some r := H
 have A6 := Aside0.mk A60
 clear A60
 by_cases c7 : t341 = true
 ·subst c7
  replace H : ((spec_l01In.f a3 0 (wrap64 ((l0.length : Int) - 1))).bind fun t342 => (if t342 = true then ((spec_l01In.f a4 0 (mx 0 (wrap64 (a1 - 1)))).bind fun t343 => (if t343 = true then (some 0) else (some 2))) else (some 2))) = some r := by rw [if_pos rfl] at H; exact H
  replace H := Option.bind_eq_some_iff.mp H
  obtain ⟨t342, A80, H⟩ := H
  replace H : (if t342 = true then ((spec_l01In.f a4 0 (mx 0 (wrap64 (a1 - 1)))).bind fun t343 => (if t343 = true then (some 0) else (some 2))) else (some 2)) = some r := H
  have A8 := Aside0.mk A80
  clear A80
  by_cases c9 : t342 = true
  ·subst c9
   replace H : ((spec_l01In.f a4 0 (mx 0 (wrap64 (a1 - 1)))).bind fun t343 => (if t343 = true then (some 0) else (some 2))) = some r := by rw [if_pos rfl] at H; exact H
   obtain ⟨ji10, hji10⟩ : ∃ j_ : Int, (mx 0 (wrap64 (a1 - 1))) = j_ := ⟨_, rfl⟩
   replace H : ((spec_l01In.f a4 0 (ji10)).bind fun t343 => (if t343 = true then (some 0) else (some 2))) = some r := by first | (rw [hji10] at H; exact H) | (simp only [hji10] at H ⊢; exact H)
   (try rw [hji10] at A6)
   (try rw [hji10] at A8)
   (try (have hji10l : 0 ≤ ji10 := by (rw [← hji10]; unfold mx; (repeat' split) <;> omega)))
   (try (have hji10m : 0 ≤ ji10 := by omega))
   have hji10_ : (if 0 < (wrap64 (a1 - 1)) then (wrap64 (a1 - 1)) else 0) = ji10 := hji10
   replace H := Option.bind_eq_some_iff.mp H
   obtain ⟨t343, A110, H⟩ := H
   replace H : (if t343 = true then (some 0) else (some 2)) = some r := H
   have A11 := Aside0.mk A110
   clear A110
   by_cases c12 : t343 = true
   ·subst c12
    replace H : (some 0) = some r := by rw [if_pos rfl] at H; exact H
    obtain rfl := Option.some.inj H
    go_enter Try.func126, Try.ntmps126
    go_wp2_with (first | ((with_reducible refine gate_callee (f := 203) rfl ?_); refine goesL_ (some 14) rfl rfl Try.func203 (by kernel_rfl) rfl #[.slice A0 l0.length c0, .int .i64 a1, .slice A2 l2.length c2] rfl ag_ ?_; (with_reducible refine (spec_AreWires.calls k _ _ l0 a1 _ _ l2 true _ ?side1 ?side2 ?side3 ?side4 A6.out).mono ?_); (case side1 => exact r9_ HR0.out); (case side2 => exact HC0.out); (case side3 => exact r9_ HR2.out); (case side4 => exact HC2.out); rintro e w13 ⟨rfl, hb⟩; refine ⟨_, rfl, ?_⟩; replace HB := Aside0.mk (below_step (bl_ HB.out) hb); (try clear hb); (try clear hb2); (try clear hk); (try clear hi)) | ((with_reducible refine gate_callee (f := 148) rfl ?_); refine goesL_ (some 20) rfl rfl Try.func148 (by kernel_rfl) rfl #[.int .i64 a3, .int .i64 0, .int .i64 (wrap64 ((l0.length : Int) - 1))] rfl ag_ ?_; (with_reducible refine (spec_l01In.calls a3 0 (wrap64 ((l0.length : Int) - 1)) true _ A8.out).mono ?_); rintro e w' ⟨rfl, ⟨nd, rfl⟩⟩; refine ⟨_, rfl, ?_⟩) | (go_at_call 148; (with_reducible refine (spec_l01In.calls a4 0 ji10 true _ A11.out).mono ?_); rintro e w' ⟨rfl, ⟨nd, rfl⟩⟩))
    go_ret
    exact ⟨by first | rfl | (simp [errW_none, errW_some] <;> rfl) | (simp only [← hji10]; first | rfl | (simp [errW_none, errW_some] <;> rfl)) | (simp [*, errW_none, errW_some] <;> rfl), bl_ HB.out⟩
   ·replace c12 := Bool.eq_false_iff.mpr c12
    subst c12
    replace H : (some 2) = some r := by rw [if_neg (show ¬ (false = true) by decide)] at H; exact H
    obtain rfl := Option.some.inj H
    go_enter Try.func126, Try.ntmps126
    go_wp2_with (first | ((with_reducible refine gate_callee (f := 203) rfl ?_); refine goesL_ (some 14) rfl rfl Try.func203 (by kernel_rfl) rfl #[.slice A0 l0.length c0, .int .i64 a1, .slice A2 l2.length c2] rfl ag_ ?_; (with_reducible refine (spec_AreWires.calls k _ _ l0 a1 _ _ l2 true _ ?side1 ?side2 ?side3 ?side4 A6.out).mono ?_); (case side1 => exact r9_ HR0.out); (case side2 => exact HC0.out); (case side3 => exact r9_ HR2.out); (case side4 => exact HC2.out); rintro e w14 ⟨rfl, hb⟩; refine ⟨_, rfl, ?_⟩; replace HB := Aside0.mk (below_step (bl_ HB.out) hb); (try clear hb); (try clear hb2); (try clear hk); (try clear hi)) | ((with_reducible refine gate_callee (f := 148) rfl ?_); refine goesL_ (some 20) rfl rfl Try.func148 (by kernel_rfl) rfl #[.int .i64 a3, .int .i64 0, .int .i64 (wrap64 ((l0.length : Int) - 1))] rfl ag_ ?_; (with_reducible refine (spec_l01In.calls a3 0 (wrap64 ((l0.length : Int) - 1)) true _ A8.out).mono ?_); rintro e w' ⟨rfl, ⟨nd, rfl⟩⟩; refine ⟨_, rfl, ?_⟩) | (go_at_call 148; (with_reducible refine (spec_l01In.calls a4 0 ji10 false _ A11.out).mono ?_); rintro e w' ⟨rfl, ⟨nd, rfl⟩⟩))
    go_ret
    exact ⟨by first | rfl | (simp [errW_none, errW_some] <;> rfl) | (simp only [← hji10]; first | rfl | (simp [errW_none, errW_some] <;> rfl)) | (simp [*, errW_none, errW_some] <;> rfl), bl_ HB.out⟩
  ·replace c9 := Bool.eq_false_iff.mpr c9
   subst c9
   replace H : (some 2) = some r := by rw [if_neg (show ¬ (false = true) by decide)] at H; exact H
   obtain rfl := Option.some.inj H
   go_enter Try.func126, Try.ntmps126
   go_wp2_with (first | ((with_reducible refine gate_callee (f := 203) rfl ?_); refine goesL_ (some 14) rfl rfl Try.func203 (by kernel_rfl) rfl #[.slice A0 l0.length c0, .int .i64 a1, .slice A2 l2.length c2] rfl ag_ ?_; (with_reducible refine (spec_AreWires.calls k _ _ l0 a1 _ _ l2 true _ ?side1 ?side2 ?side3 ?side4 A6.out).mono ?_); (case side1 => exact r9_ HR0.out); (case side2 => exact HC0.out); (case side3 => exact r9_ HR2.out); (case side4 => exact HC2.out); rintro e w15 ⟨rfl, hb⟩; refine ⟨_, rfl, ?_⟩; replace HB := Aside0.mk (below_step (bl_ HB.out) hb); (try clear hb); (try clear hb2); (try clear hk); (try clear hi)) | ((with_reducible refine gate_callee (f := 148) rfl ?_); refine goesL_ (some 20) rfl rfl Try.func148 (by kernel_rfl) rfl #[.int .i64 a3, .int .i64 0, .int .i64 (wrap64 ((l0.length : Int) - 1))] rfl ag_ ?_; (with_reducible refine (spec_l01In.calls a3 0 (wrap64 ((l0.length : Int) - 1)) false _ A8.out).mono ?_); rintro e w' ⟨rfl, ⟨nd, rfl⟩⟩; refine ⟨_, rfl, ?_⟩))
   go_ret
   exact ⟨by first | rfl | (simp [errW_none, errW_some] <;> rfl) | (simp [*, errW_none, errW_some] <;> rfl), bl_ HB.out⟩
 ·replace c7 := Bool.eq_false_iff.mpr c7
  subst c7
  replace H : (some 1) = some r := by rw [if_neg (show ¬ (false = true) by decide)] at H; exact H
  obtain rfl := Option.some.inj H
  go_enter Try.func126, Try.ntmps126
  go_wp2_with (first | ((with_reducible refine gate_callee (f := 203) rfl ?_); refine goesL_ (some 14) rfl rfl Try.func203 (by kernel_rfl) rfl #[.slice A0 l0.length c0, .int .i64 a1, .slice A2 l2.length c2] rfl ag_ ?_; (with_reducible refine (spec_AreWires.calls k _ _ l0 a1 _ _ l2 false _ ?side1 ?side2 ?side3 ?side4 A6.out).mono ?_); (case side1 => exact r9_ HR0.out); (case side2 => exact HC0.out); (case side3 => exact r9_ HR2.out); (case side4 => exact HC2.out); rintro e w16 ⟨rfl, hb⟩; refine ⟨_, rfl, ?_⟩; replace HB := Aside0.mk (below_step (bl_ HB.out) hb); (try clear hb); (try clear hb2); (try clear hk); (try clear hi)))
  go_ret
  exact ⟨by first | rfl | (simp [errW_none, errW_some] <;> rfl) | (simp [*, errW_none, errW_some] <;> rfl), bl_ HB.out⟩
def spec_l13Find.l0 : Nat → List (S160) → Int → Int → Option (Int)
  | 0, _, _, _ => none
  | k + 1, x0, x1, x5 => if x5 < (x0.length : Int) then (if 0 ≤ x5 then (if ((rd_T160 x0 x5).f0) = x1 then (some x5) else (spec_l13Find.l0 k x0 x1 (wrap64 (x5 + 1)))) else (none)) else (some (-1))
def spec_l13Find.f (k : Nat) (l0 : List (S160)) (a1 : Int) : Option (Int) := spec_l13Find.l0 k l0 a1 0
set_option maxHeartbeats 8000000 in
set_option maxRecDepth 100000 in
theorem spec_l13Find.calls (k : Nat) (A0 : Option Addr) (c0 : Nat) (l0 : List (S160)) (a1 : Int) (r : Int) (w : World) (hr0 : Kd.C k160 w A0 l0.length l0) (hc0 : l0.length ≤ c0) (h : spec_l13Find.f k l0 a1 = some r) :
    Calls Try.prog 136 #[.slice A0 l0.length c0, .int .i64 a1] w fun e w' => e = .returned (.int .i64 r) ∧ Drawn0 w w' := by
  have HR0 := Aside0.mk hr0
  have HC0 := Aside0.mk hc0
  clear hr0 hc0
  have H : (spec_l13Find.l0 k l0 a1 0) = some r := h
  clear h
  have H' := Aside0.mk H
  clear H
  go_enter Try.func136, Try.ntmps136
  go_wp2
  go_loopg [5] k (fun kq v5 w' => ∃ (x5_1 : Int), v5 = .int .i64 x5_1 ∧ Aside0 (spec_l13Find.l0 kq l0 a1 x5_1 = some r) ∧ Aside0 (kq ≤ k) ∧ Drawn0 w w')
  case atStart => exact ⟨(0), (by first | rfl | (simp; done) | (simp [*]; done)), H', ⟨Nat.le_refl _⟩, by repeat (first | exact Drawn0.refl _ | apply Drawn0.step)⟩
  case round =>
    clear H'
    try clear c1
    try clear p2
    obtain ⟨x5_1, rfl, HA, HK1, ⟨m1, rfl⟩⟩ := hrel
    cases gk with
    | zero => exact absurd HA.out (by simp [spec_l13Find.l0])
    | succ k1 =>
      have H := HA.out
      clear HA
      simp only [spec_l13Find.l0] at H
      by_cases c3 : x5_1 < (l0.length : Int)
      · rw [if_pos c3] at H
        have c3b0 : decide (x5_1 < (l0.length : Int)) = true := decide_eq_true c3
        clear c3
        by_cases c4 : 0 ≤ x5_1
        · rw [if_pos c4] at H
          have c4b0 : decide (0 ≤ x5_1) = true := decide_eq_true c4
          clear c4
          by_cases c5 : ((rd_T160 l0 x5_1).f0) = a1
          · rw [if_pos c5] at H
            have c5b0 : (((rd_T160 l0 x5_1).f0) == a1) = true := beq_iff_eq.mpr c5
            have c5b1 : (((rd_T160 l0 x5_1).f0) != a1) = false := bne_eq_false_iff_eq.mpr c5
            clear c5
            obtain rfl := Option.some.inj H
            have p344 : 0 ≤ (x5_1 : Int) := od_
            have q344 : x5_1 < (l0.length : Int) := od_
            obtain ⟨ad344, e344, hx344_0, hx344_1, hx344_2⟩ := at_T160 HR0.out x5_1 p344 q344
            cases e344
            replace p344 := eq_true p344
            replace q344 := eq_true q344
            go_wp2
            go_ret
            exact ⟨by first | rfl | (simp; done) | (simp [*]; done), by repeat (first | exact Drawn0.refl _ | apply Drawn0.step)⟩
          · rw [if_neg c5] at H
            have c5b0 : (((rd_T160 l0 x5_1).f0) == a1) = false := beq_eq_false_iff_ne.mpr c5
            have c5b1 : (((rd_T160 l0 x5_1).f0) != a1) = true := bne_iff_ne.mpr c5
            have H' := Aside0.mk H
            clear H
            have p344 : 0 ≤ (x5_1 : Int) := od_
            have q344 : x5_1 < (l0.length : Int) := od_
            obtain ⟨ad344, e344, hx344_0, hx344_1, hx344_2⟩ := at_T160 HR0.out x5_1 p344 q344
            cases e344
            replace p344 := eq_true p344
            replace q344 := eq_true q344
            go_wp2
            go_roundg k1
            case measure => have := HK1.out; omega
            case rel => exact ⟨(wrap64 (x5_1 + 1)), (by first | rfl | (simp; done) | (simp [*]; done)), H', ⟨by have := HK1.out; omega⟩, by repeat (first | exact Drawn0.refl _ | apply Drawn0.step)⟩
        · rw [if_neg c4] at H
          exact absurd H (by simp)
      · rw [if_neg c3] at H
        have c3b0 : decide (x5_1 < (l0.length : Int)) = false := decide_eq_false c3
        clear c3
        obtain rfl := Option.some.inj H
        go_wp2
        go_ret
        exact ⟨by first | rfl | (simp; done) | (simp [*]; done), by repeat (first | exact Drawn0.refl _ | apply Drawn0.step)⟩
def spec_l13Loose.l0 : Nat → Int → List (S160) → List Int → Int → Option (List Int)
 | 0, _, _, _, _ => none
 | k + 1, x0, x1, x5, x6 => if x6 < x0 then ((spec_l13Find.f k x1 x6).bind fun t348 => (if t348 < 0 then (if x5.length < 17592186044416 then (spec_l13Loose.l0 k x0 x1 (x5 ++ [x6]) (wrap64 (x6 + 1))) else (none)) else (spec_l13Loose.l0 k x0 x1 x5 (wrap64 (x6 + 1))))) else (some x5)
def spec_l13Loose.f (k : Nat) (a0 : Int) (l1 : List (S160)) : Option (List Int) := spec_l13Loose.l0 k a0 l1 (([] : List Int)) 0
set_option maxHeartbeats 8000000 in
set_option maxRecDepth 100000 in
theorem spec_l13Loose.calls (k : Nat) (a0 : Int) (A1 : Option Addr) (c1 : Nat) (l1 : List (S160)) (r : List Int) (w : World) (hr1 : Kd.C k160 w A1 l1.length l1) (hc1 : l1.length ≤ c1) (h : spec_l13Loose.f k a0 l1 = some r) :
  Calls Try.prog 127 #[.int .i64 a0, .slice A1 l1.length c1] w fun e w' => ∃ v0_ : Value, e = .returned (v0_) ∧ Kd.R (Kd.int .i64) 2 w' w.heap.size (fun _ => True) v0_ r ∧ Below w.heap.size w w' := by
 have HR1 := Aside0.mk hr1
 have HC1 := Aside0.mk hc1
 clear hr1 hc1
 have HB := Aside0.mk (Below.refl w.heap.size w)
 have H : (spec_l13Loose.l0 k a0 l1 (([] : List Int)) 0) = some r := h
 clear h
 obtain ⟨y345, hy345⟩ : ∃ y_ : List Int, y_ = (([] : List Int)) := ⟨_, rfl⟩
 replace H : (spec_l13Loose.l0 k a0 l1 y345 0) = some r := by first | (rw [hy345]; with_reducible exact H) | (have H2_ := (Option.bind_some _ _).symm.trans H; rw [hy345]; with_reducible exact H2_) | (have H2_ := (Option.bind_some _ _).symm.trans H; with_reducible exact H2_) | with_reducible exact H | (rw [hy345]; exact H) | exact H
 have Ny345 := Aside0.mk hy345
 clear hy345
 have H' := Aside0.mk H
 clear H
 go_enter Try.func127, Try.ntmps127
 go_wp2_with (first | ((with_reducible refine gate_dst (N := 7) rfl ?_); refine Kd.R_lit (Kd.int .i64) _ 2 ?hg (N := 7) ?hd (xs := ([] : List Int)) (inner := []) (ok := fun _ => True) (okp := fun _ => True) ?hr ?hp (fun _ hk => hk) trivial (Below.refl _ _) (Nat.le_refl _) (by simp) ?_; (case hd => rfl); (case hg => rfl); (case hr => first | (go_simp; done) | (go_simp; rfl)); (case hp => exact (Reps.none _ _)); intro v346 w3 ho4 hb hg_ hnew_; clear hg_ hnew_; (first | rw [← Ny345.out] at ho4 | (simp only [Int.reduceToNat] at ho4; rw [← Ny345.out] at ho4)); have HO347 := Aside0.mk (Kd.R_lower ho4 (below_size (bl_ HB.out))); replace HB := Aside0.mk (below_step (bl_ HB.out) hb); clear hb ho4))
 go_loopg [5, 6] k (fun kq v5 v6 w' => ∃ (x5_1 : List Int) (x6_1 : Int), v6 = .int .i64 x6_1 ∧ Aside0 (spec_l13Loose.l0 kq a0 l1 x5_1 x6_1 = some r) ∧ Aside0 (kq ≤ k) ∧ Aside0 (Kd.R (Kd.int .i64) 2 w' w.heap.size (fun _ => True) v5 x5_1) ∧ Aside0 (Below w.heap.size w w'))
 case atStart => exact ⟨(y345), (0), (by first | rfl | (simp; done) | (simp [*]; done)), H', ⟨Nat.le_refl _⟩, ⟨rk_ HO347.out⟩, ⟨bl_ HB.out⟩⟩
 case round =>
  clear H'
  try clear c1
  try clear p2
  obtain ⟨x5_1, x6_1, rfl, HA, HK1, HO_5, HB⟩ := hrel
  cases gk with
  | zero => exact absurd HA.out (by simp [spec_l13Loose.l0])
  | succ k1 =>
   have H := HA.out
   clear HA
   simp only [spec_l13Loose.l0] at H
   by_cases c5 : x6_1 < a0
   ·rw [if_pos c5] at H
    have c5b0 : decide (x6_1 < a0) = true := decide_eq_true c5
    clear c5
    replace H := Option.bind_eq_some_iff.mp H
    obtain ⟨t348, A60, H⟩ := H
    replace H : (if t348 < 0 then (if x5_1.length < 17592186044416 then (spec_l13Loose.l0 k1 a0 l1 (x5_1 ++ [x6_1]) (wrap64 (x6_1 + 1))) else (none)) else (spec_l13Loose.l0 k1 a0 l1 x5_1 (wrap64 (x6_1 + 1)))) = some r := H
    have A6 := Aside0.mk A60
    clear A60
    by_cases c7 : t348 < 0
    ·rw [if_pos c7] at H
     have c7b0 : decide (t348 < 0) = true := decide_eq_true c7
     clear c7
     by_cases c8 : x5_1.length < 17592186044416
     case neg =>
      rw [if_neg c8] at H
      exact absurd H (by simp)
     rw [if_pos c8] at H
     have LMc8 := Aside0.mk c8
     clear c8
     obtain ⟨y349, hy349⟩ : ∃ y_ : List Int, y_ = (x5_1 ++ [x6_1]) := ⟨_, rfl⟩
     replace H : (spec_l13Loose.l0 k1 a0 l1 y349 (wrap64 (x6_1 + 1))) = some r := by first | (rw [hy349]; with_reducible exact H) | (have H2_ := (Option.bind_some _ _).symm.trans H; rw [hy349]; with_reducible exact H2_) | (have H2_ := (Option.bind_some _ _).symm.trans H; with_reducible exact H2_) | with_reducible exact H | (rw [hy349]; exact H) | exact H
     have Ny349 := Aside0.mk hy349
     clear hy349
     have H' := Aside0.mk H
     clear H
     go_wp2_with (first | ((with_reducible refine gate_callee (f := 136) rfl ?_); refine goesL_ (some 15) rfl rfl Try.func136 (by kernel_rfl) rfl #[.slice A1 l1.length c1, .int .i64 x6_1] rfl ag_ ?_; (with_reducible refine (spec_l13Find.calls k1 _ _ l1 x6_1 t348 _ ?side1 ?side2 A6.out).mono ?_); (case side1 => exact r5_ HR1.out HB.out); (case side2 => exact HC1.out); rintro e w' ⟨rfl, ⟨nd, rfl⟩⟩; refine ⟨_, rfl, ?_⟩) | ((with_reducible refine gate_builtin (b := .append) (xs := #[.tmp 17, .tmp 19]) rfl ?_); at_builtin; refine Kd.R_append (Kd.int .i64) (w0 := w) w.heap.size rfl (.tmp 17) (.tmp 19) 24 2 (.int .i64 0) 8 rfl Try.underlying24 info2 rfl (by decide) (by omega) u5 x5_1 x6_1 [.int .i64 x6_1] (fun _ => True) (fun _ => False) rfl rfl ?aP (fun _ hk => hk.elim) ?aF ?aO ?aB ?aS ?aL ?_; (case aP => exact rfl); (case aB => exact (bl_ HB.out)); (case aF => exact (fun _ _ => trivial)); (case aO => exact (rk_ HO_5.out)); (case aS => exact (below_size (bl_ HB.out))); (case aL => have := LMc8.out; omega); intro v350 w9 ho hb hg hat; rw [← Ny349.out] at ho; have n0_ := Aside0.mk (hb); have n1_ := Aside0.mk (ho); clear HB; clear HO_5; have HB := n0_; have HO351 := n1_; clear n0_ n1_; clear ho hb hg hat))
     go_roundg k1
     case measure => have := HK1.out; omega
     case rel => exact ⟨(y349), (wrap64 (x6_1 + 1)), (by first | rfl | (simp; done) | (simp [*]; done)), H', ⟨by have := HK1.out; omega⟩, ⟨rk_ HO351.out⟩, ⟨bl_ HB.out⟩⟩
    ·rw [if_neg c7] at H
     have c7b0 : decide (t348 < 0) = false := decide_eq_false c7
     clear c7
     have H' := Aside0.mk H
     clear H
     go_wp2_with (first | ((with_reducible refine gate_callee (f := 136) rfl ?_); refine goesL_ (some 15) rfl rfl Try.func136 (by kernel_rfl) rfl #[.slice A1 l1.length c1, .int .i64 x6_1] rfl ag_ ?_; (with_reducible refine (spec_l13Find.calls k1 _ _ l1 x6_1 t348 _ ?side1 ?side2 A6.out).mono ?_); (case side1 => exact r5_ HR1.out HB.out); (case side2 => exact HC1.out); rintro e w' ⟨rfl, ⟨nd, rfl⟩⟩; refine ⟨_, rfl, ?_⟩))
     go_roundg k1
     case measure => have := HK1.out; omega
     case rel => exact ⟨(x5_1), (wrap64 (x6_1 + 1)), (by first | rfl | (simp; done) | (simp [*]; done)), H', ⟨by have := HK1.out; omega⟩, ⟨rk_ HO_5.out⟩, ⟨bl_ HB.out⟩⟩
   ·rw [if_neg c5] at H
    have c5b0 : decide (x6_1 < a0) = false := decide_eq_false c5
    clear c5
    obtain rfl := Option.some.inj H
    go_wp2
    go_ret
    exact ⟨_, by first | rfl | (simp [errW_none, errW_some] <;> rfl) | (simp [*, errW_none, errW_some] <;> rfl), rk_ HO_5.out, bl_ HB.out⟩
def spec_l13Free.l0 : Nat → List (S200) → List (S160) → Int → List Int → Int → Option (List Int)
 | 0, _, _, _, _, _ => none
 | k + 1, x0, x1, x2, x7, x8 => if 0 ≤ x2 then (if x2 < (x0.length : Int) then (if x8 < ((rd_T200 x0 x2).f1) then ((spec_l13At.f k x1 x2 x8).bind fun t356 => (if t356 < 0 then (if x7.length < 17592186044416 then (spec_l13Free.l0 k x0 x1 x2 (x7 ++ [x8]) (wrap64 (x8 + 1))) else (none)) else (spec_l13Free.l0 k x0 x1 x2 x7 (wrap64 (x8 + 1))))) else (some x7)) else (none)) else (none)
def spec_l13Free.f (k : Nat) (l0 : List (S200)) (l1 : List (S160)) (a2 : Int) : Option (List Int) := spec_l13Free.l0 k l0 l1 a2 (([] : List Int)) 0
set_option maxHeartbeats 8000000 in
set_option maxRecDepth 100000 in
theorem spec_l13Free.calls (k : Nat) (A0 : Option Addr) (c0 : Nat) (l0 : List (S200)) (A1 : Option Addr) (c1 : Nat) (l1 : List (S160)) (a2 : Int) (r : List Int) (w : World) (hr0 : Kd.C k200 w A0 l0.length l0) (hc0 : l0.length ≤ c0) (hr1 : Kd.C k160 w A1 l1.length l1) (hc1 : l1.length ≤ c1) (h : spec_l13Free.f k l0 l1 a2 = some r) :
  Calls Try.prog 204 #[.slice A0 l0.length c0, .slice A1 l1.length c1, .int .i64 a2] w fun e w' => ∃ v0_ : Value, e = .returned (v0_) ∧ Kd.R (Kd.int .i64) 2 w' w.heap.size (fun _ => True) v0_ r ∧ Below w.heap.size w w' := by
 have HR0 := Aside0.mk hr0
 have HC0 := Aside0.mk hc0
 clear hr0 hc0
 have HR1 := Aside0.mk hr1
 have HC1 := Aside0.mk hc1
 clear hr1 hc1
 have HB := Aside0.mk (Below.refl w.heap.size w)
 have H : (spec_l13Free.l0 k l0 l1 a2 (([] : List Int)) 0) = some r := h
 clear h
 obtain ⟨y352, hy352⟩ : ∃ y_ : List Int, y_ = (([] : List Int)) := ⟨_, rfl⟩
 replace H : (spec_l13Free.l0 k l0 l1 a2 y352 0) = some r := by first | (rw [hy352]; with_reducible exact H) | (have H2_ := (Option.bind_some _ _).symm.trans H; rw [hy352]; with_reducible exact H2_) | (have H2_ := (Option.bind_some _ _).symm.trans H; with_reducible exact H2_) | with_reducible exact H | (rw [hy352]; exact H) | exact H
 have Ny352 := Aside0.mk hy352
 clear hy352
 have H' := Aside0.mk H
 clear H
 go_enter Try.func204, Try.ntmps204
 go_wp2_with (first | ((with_reducible refine gate_dst (N := 9) rfl ?_); refine Kd.R_lit (Kd.int .i64) _ 2 ?hg (N := 9) ?hd (xs := ([] : List Int)) (inner := []) (ok := fun _ => True) (okp := fun _ => True) ?hr ?hp (fun _ hk => hk) trivial (Below.refl _ _) (Nat.le_refl _) (by simp) ?_; (case hd => rfl); (case hg => rfl); (case hr => first | (go_simp; done) | (go_simp; rfl)); (case hp => exact (Reps.none _ _)); intro v353 w4 ho5 hb hg_ hnew_; clear hg_ hnew_; (first | rw [← Ny352.out] at ho5 | (simp only [Int.reduceToNat] at ho5; rw [← Ny352.out] at ho5)); have HO354 := Aside0.mk (Kd.R_lower ho5 (below_size (bl_ HB.out))); replace HB := Aside0.mk (below_step (bl_ HB.out) hb); clear hb ho5))
 go_loopg [7, 8] k (fun kq v7 v8 w' => ∃ (x7_1 : List Int) (x8_1 : Int), v8 = .int .i64 x8_1 ∧ Aside0 (spec_l13Free.l0 kq l0 l1 a2 x7_1 x8_1 = some r) ∧ Aside0 (kq ≤ k) ∧ Aside0 (Kd.R (Kd.int .i64) 2 w' w.heap.size (fun _ => True) v7 x7_1) ∧ Aside0 (Below w.heap.size w w'))
 case atStart => exact ⟨(y352), (0), (by first | rfl | (simp; done) | (simp [*]; done)), H', ⟨Nat.le_refl _⟩, ⟨rk_ HO354.out⟩, ⟨bl_ HB.out⟩⟩
 case round =>
  clear H'
  try clear c1
  try clear c2
  try clear p2
  obtain ⟨x7_1, x8_1, rfl, HA, HK1, HO_7, HB⟩ := hrel
  cases gk with
  | zero => exact absurd HA.out (by simp [spec_l13Free.l0])
  | succ k1 =>
   have H := HA.out
   clear HA
   simp only [spec_l13Free.l0] at H
   by_cases c6 : 0 ≤ a2
   case neg =>
    rw [if_neg c6] at H
    exact absurd H (by simp)


   rw [if_pos c6] at H
   have c6b0 : decide (0 ≤ a2) = true := decide_eq_true c6
   clear c6
   by_cases c7 : a2 < (l0.length : Int)
   case neg =>
    rw [if_neg c7] at H
    exact absurd H (by simp)
   rw [if_pos c7] at H
   have c7b0 : decide (a2 < (l0.length : Int)) = true := decide_eq_true c7
   clear c7
   by_cases c8 : x8_1 < ((rd_T200 l0 a2).f1)
   ·rw [if_pos c8] at H
    have c8b0 : decide (x8_1 < ((rd_T200 l0 a2).f1)) = true := decide_eq_true c8
    clear c8
    replace H := Option.bind_eq_some_iff.mp H
    obtain ⟨t356, A90, H⟩ := H
    replace H : (if t356 < 0 then (if x7_1.length < 17592186044416 then (spec_l13Free.l0 k1 l0 l1 a2 (x7_1 ++ [x8_1]) (wrap64 (x8_1 + 1))) else (none)) else (spec_l13Free.l0 k1 l0 l1 a2 x7_1 (wrap64 (x8_1 + 1)))) = some r := H
    have A9 := Aside0.mk A90
    clear A90
    by_cases c10 : t356 < 0
    ·rw [if_pos c10] at H
     have c10b0 : decide (t356 < 0) = true := decide_eq_true c10
     clear c10
     by_cases c11 : x7_1.length < 17592186044416
     case neg =>
      rw [if_neg c11] at H
      exact absurd H (by simp)
     rw [if_pos c11] at H
     have LMc11 := Aside0.mk c11
     clear c11
     obtain ⟨y357, hy357⟩ : ∃ y_ : List Int, y_ = (x7_1 ++ [x8_1]) := ⟨_, rfl⟩
     replace H : (spec_l13Free.l0 k1 l0 l1 a2 y357 (wrap64 (x8_1 + 1))) = some r := by first | (rw [hy357]; with_reducible exact H) | (have H2_ := (Option.bind_some _ _).symm.trans H; rw [hy357]; with_reducible exact H2_) | (have H2_ := (Option.bind_some _ _).symm.trans H; with_reducible exact H2_) | with_reducible exact H | (rw [hy357]; exact H) | exact H
     have Ny357 := Aside0.mk hy357
     clear hy357
     have H' := Aside0.mk H
     clear H
     have p355 : 0 ≤ (a2 : Int) := od_
     have q355 : a2 < (l0.length : Int) := od_
     obtain ⟨ad355, e355, hx355_0, hx355_1⟩ := at_T200 HR0.out a2 p355 q355
     cases e355
     replace hx355_0 := bc_ HB.out hx355_0
     replace hx355_1 := bc_ HB.out hx355_1
     replace p355 := eq_true p355
     replace q355 := eq_true q355
     go_wp2_with (first | ((with_reducible refine gate_callee (f := 137) rfl ?_); refine goesL_ (some 22) rfl rfl Try.func137 (by kernel_rfl) rfl #[.slice A1 l1.length c1, .int .i64 a2, .int .i64 x8_1] rfl ag_ ?_; (with_reducible refine (spec_l13At.calls k1 _ _ l1 a2 x8_1 t356 _ ?side1 ?side2 A9.out).mono ?_); (case side1 => exact r5_ HR1.out HB.out); (case side2 => exact HC1.out); rintro e w' ⟨rfl, ⟨nd, rfl⟩⟩; refine ⟨_, rfl, ?_⟩) | ((with_reducible refine gate_builtin (b := .append) (xs := #[.tmp 24, .tmp 26]) rfl ?_); at_builtin; refine Kd.R_append (Kd.int .i64) (w0 := w) w.heap.size rfl (.tmp 24) (.tmp 26) 24 2 (.int .i64 0) 8 rfl Try.underlying24 info2 rfl (by decide) (by omega) u7 x7_1 x8_1 [.int .i64 x8_1] (fun _ => True) (fun _ => False) rfl rfl ?aP (fun _ hk => hk.elim) ?aF ?aO ?aB ?aS ?aL ?_; (case aP => exact rfl); (case aB => exact (bl_ HB.out)); (case aF => exact (fun _ _ => trivial)); (case aO => exact (rk_ HO_7.out)); (case aS => exact (below_size (bl_ HB.out))); (case aL => have := LMc11.out; omega); intro v358 w12 ho hb hg hat; rw [← Ny357.out] at ho; have n0_ := Aside0.mk (hb); have n1_ := Aside0.mk (ho); clear HB; clear HO_7; have HB := n0_; have HO359 := n1_; clear n0_ n1_; clear ho hb hg hat))
     go_roundg k1
     case measure => have := HK1.out; omega
     case rel => exact ⟨(y357), (wrap64 (x8_1 + 1)), (by first | rfl | (simp; done) | (simp [*]; done)), H', ⟨by have := HK1.out; omega⟩, ⟨rk_ HO359.out⟩, ⟨bl_ HB.out⟩⟩
    ·rw [if_neg c10] at H
     have c10b0 : decide (t356 < 0) = false := decide_eq_false c10
     clear c10
     have H' := Aside0.mk H
     clear H
     have p355 : 0 ≤ (a2 : Int) := od_
     have q355 : a2 < (l0.length : Int) := od_
     obtain ⟨ad355, e355, hx355_0, hx355_1⟩ := at_T200 HR0.out a2 p355 q355
     cases e355
     replace hx355_0 := bc_ HB.out hx355_0
     replace hx355_1 := bc_ HB.out hx355_1
     replace p355 := eq_true p355
     replace q355 := eq_true q355
     go_wp2_with (first | ((with_reducible refine gate_callee (f := 137) rfl ?_); refine goesL_ (some 22) rfl rfl Try.func137 (by kernel_rfl) rfl #[.slice A1 l1.length c1, .int .i64 a2, .int .i64 x8_1] rfl ag_ ?_; (with_reducible refine (spec_l13At.calls k1 _ _ l1 a2 x8_1 t356 _ ?side1 ?side2 A9.out).mono ?_); (case side1 => exact r5_ HR1.out HB.out); (case side2 => exact HC1.out); rintro e w' ⟨rfl, ⟨nd, rfl⟩⟩; refine ⟨_, rfl, ?_⟩))
     go_roundg k1
     case measure => have := HK1.out; omega
     case rel => exact ⟨(x7_1), (wrap64 (x8_1 + 1)), (by first | rfl | (simp; done) | (simp [*]; done)), H', ⟨by have := HK1.out; omega⟩, ⟨rk_ HO_7.out⟩, ⟨bl_ HB.out⟩⟩
   ·rw [if_neg c8] at H
    have c8b0 : decide (x8_1 < ((rd_T200 l0 a2).f1)) = false := decide_eq_false c8
    clear c8
    obtain rfl := Option.some.inj H
    have p355 : 0 ≤ (a2 : Int) := od_
    have q355 : a2 < (l0.length : Int) := od_
    obtain ⟨ad355, e355, hx355_0, hx355_1⟩ := at_T200 HR0.out a2 p355 q355
    cases e355
    replace hx355_0 := bc_ HB.out hx355_0
    replace hx355_1 := bc_ HB.out hx355_1
    replace p355 := eq_true p355
    replace q355 := eq_true q355
    go_wp2
    go_ret
    exact ⟨_, by first | rfl | (simp [errW_none, errW_some] <;> rfl) | (simp [*, errW_none, errW_some] <;> rfl), rk_ HO_7.out, bl_ HB.out⟩
def spec_l13With.l0 : Nat → List (S160) → Int → Int → Int → Int → Option ((List (S160)))
 | 0, _, _, _, _, _ => none
 | k + 1, x0, x5, x361000, x361001, x361002 => if x5 < (x0.length : Int) then (if 0 ≤ x5 then (if ((rd_T160 x0 x5).f0) < x361000 then (spec_l13With.l0 k x0 (wrap64 (x5 + 1)) x361000 x361001 x361002) else ((some (([] : List (S160)) : List (S160))).bind fun y362 => (if x5 ≤ (x0.length : Int) then ((some (x0.take (x5 : Int).toNat : List (S160))).bind fun y365 => (if y362.length + y365.length < 5864062014805 then ((some (y362 ++ y365 : List (S160))).bind fun y369 => ((some (([(⟨x361000, x361001, x361002⟩ : S160)] : List (S160)) : List (S160))).bind fun y372 => (if y369.length + y372.length < 5864062014805 then ((some (y369 ++ y372 : List (S160))).bind fun y375 => ((some (x0.drop (x5 : Int).toNat : List (S160))).bind fun y378 => (if y375.length + y378.length < 5864062014805 then (some (y375 ++ y378)) else (none)))) else (none)))) else (none))) else (none)))) else (none)) else ((some (([] : List (S160)) : List (S160))).bind fun y385 => (if 0 ≤ x5 then (if x5 ≤ (x0.length : Int) then ((some (x0.take (x5 : Int).toNat : List (S160))).bind fun y388 => (if y385.length + y388.length < 5864062014805 then ((some (y385 ++ y388 : List (S160))).bind fun y392 => ((some (([(⟨x361000, x361001, x361002⟩ : S160)] : List (S160)) : List (S160))).bind fun y395 => (if y392.length + y395.length < 5864062014805 then ((some (y392 ++ y395 : List (S160))).bind fun y398 => ((some (x0.drop (x5 : Int).toNat : List (S160))).bind fun y401 => (if y398.length + y401.length < 5864062014805 then (some (y398 ++ y401)) else (none)))) else (none)))) else (none))) else (none)) else (none)))
def spec_l13With.f (k : Nat) (l0 : List (S160)) (a1_0 : Int) (a1_1 : Int) (a1_2 : Int) : Option ((List (S160))) := spec_l13With.l0 k l0 0 a1_0 a1_1 a1_2
def spec_l13With.T2 : Bool × List (List Nat × List Nat) := (true, [([], []), ([], []), ([1], [1]), ([0, 2], [0, 2]), ([3], [3]), ([4], [4]), ([4], [4]), ([5, 6, 4], [4, 5, 6]), ([7, 4], [4, 7]), ([8, 4], [4, 8]), ([4], [4]), ([10, 4], [4, 10]), ([9, 11, 4], [4, 9, 11]), ([4, 12], [4, 12])])
def spec_l13With.B2 : List Nat := [0, 0, 2, 7, 15, 31, 31, 127, 255, 511, 31, 1055, 4095, 8191]
theorem spec_l13With.tab2 : rtab .any (opsOf Try.f205 2) = spec_l13With.T2 := by kernel_rfl
theorem spec_l13With.bits2 : waitsOk spec_l13With.T2.2 spec_l13With.B2 = true := by kernel_rfl
def spec_l13With.T4 : Bool × List (List Nat × List Nat) := (true, [([], []), ([], []), ([], []), ([1, 2], [1, 2]), ([0, 3], [0, 3]), ([], []), ([5], [5]), ([4, 6, 4], [4, 6]), ([], []), ([], []), ([8, 9], [8, 9]), ([7, 10, 7], [7, 10]), ([11, 11, 0, 1, 2, 3, 4, 5, 6, 7, 8, 9, 10, 11], [11])])
def spec_l13With.B4 : List Nat := [0, 0, 0, 6, 15, 0, 32, 127, 0, 0, 768, 2047, 4095]
theorem spec_l13With.tab4 : rtab .any (opsOf Try.f205 4) = spec_l13With.T4 := by kernel_rfl
theorem spec_l13With.bits4 : waitsOk spec_l13With.T4.2 spec_l13With.B4 = true := by kernel_rfl
set_option maxHeartbeats 8000000 in
set_option maxRecDepth 100000 in
theorem spec_l13With.calls (k : Nat) (A0 : Option Addr) (c0 : Nat) (l0 : List (S160)) (a1_0 : Int) (a1_1 : Int) (a1_2 : Int) (r : List (S160)) (w : World) (hr0 : Kd.C k160 w A0 l0.length l0) (hc0 : l0.length ≤ c0) (h : spec_l13With.f k l0 a1_0 a1_1 a1_2 = some r) :
  Calls Try.prog 205 #[.slice A0 l0.length c0, .agg #[.int .i64 a1_0, .int .i64 a1_1, .int .i64 a1_2]] w fun e w' => ∃ v0_ : Value, e = .returned (v0_) ∧ Kd.R k160 160 w' w.heap.size (fun _ => True) v0_ r ∧ Below w.heap.size w w' := by
 have hu160 := Try.underlying160
 have HR0 := Aside0.mk hr0
 have HC0 := Aside0.mk hc0
 clear hr0 hc0
 have HB := Aside0.mk (Below.refl w.heap.size w)
 have H : (spec_l13With.l0 k l0 0 a1_0 a1_1 a1_2) = some r := h
 clear h
 have H' := Aside0.mk H
 clear H
 go_enter Try.func205, Try.ntmps205
 go_wp2_with (first | ((with_reducible refine gate_dst (N := 3) rfl ?_); refine box_event ?hg (N := 3) ?hd (cs := #[.int .i64 a1_0, .int .i64 a1_1, .int .i64 a1_2]) (t := 160) ?hr ?_; (case hd => rfl); (case hg => rfl); (case hr => first | (go_simp; done) | (go_simp; rfl)); intro gb360 hg w3 hbox hb; have BK360 := Aside0.mk (hbox); have GW360 := Aside0.mk ((by rw [hg]; exact (below_size (bl_ HB.out)) : w.heap.size ≤ gb360)); have GE360 := Aside0.mk ((by rw [hg]; exact (below_size (bl_ HB.out)) : w.heap.size ≤ gb360)); replace HB := Aside0.mk (below_step (bl_ HB.out) hb); clear hb hbox hg))
 go_loopg [5] k (fun kq v5 w' => ∃ (x5_1 : Int), v5 = .int .i64 x5_1 ∧ Aside0 (spec_l13With.l0 kq l0 x5_1 a1_0 a1_1 a1_2 = some r) ∧ Aside0 (kq ≤ k) ∧ Aside0 (w'.heap[gb360]? = some (.cells #[.int .i64 a1_0, .int .i64 a1_1, .int .i64 a1_2] 160 (0, 0))) ∧ Aside0 (Below w.heap.size w w'))
 case atStart => exact ⟨(0), (by first | rfl | (simp; done) | (simp [*]; done)), H', ⟨Nat.le_refl _⟩, ⟨r2_ BK360.out⟩, ⟨r4_ HB.out GE360.out⟩⟩
 case round =>
  clear H'
  try clear c2
  try clear p2
  obtain ⟨x5_1, rfl, HA, HK1, BK360, HB⟩ := hrel
  cases gk with
  | zero => exact absurd HA.out (by simp [spec_l13With.l0])
  | succ k1 =>
   have H := HA.out
   clear HA
   simp only [spec_l13With.l0] at H
   by_cases c4 : x5_1 < (l0.length : Int)
   ·rw [if_pos c4] at H
    have c4b0 : decide (x5_1 < (l0.length : Int)) = true := decide_eq_true c4
    clear c4
    by_cases c5 : 0 ≤ x5_1
    case neg =>
     rw [if_neg c5] at H
     exact absurd H (by simp)
    rw [if_pos c5] at H
    have c5b0 : decide (0 ≤ x5_1) = true := decide_eq_true c5
    clear c5
    by_cases c6 : ((rd_T160 l0 x5_1).f0) < a1_0
    ·rw [if_pos c6] at H
     have c6b0 : decide (((rd_T160 l0 x5_1).f0) < a1_0) = true := decide_eq_true c6
     clear c6
     have H' := Aside0.mk H
     clear H
     try go_wp2
     replace BK360 := Aside0.mk (blk_drew BK360.out)
     replace HB := Aside0.mk (below_drew1 HB.out)
     have p361 : 0 ≤ (x5_1 : Int) := od_
     have q361 : x5_1 < (l0.length : Int) := od_
     obtain ⟨ad361, e361, hx361_0, hx361_1, hx361_2⟩ := at_T160 HR0.out x5_1 p361 q361
     have hw361_2 := hx361_2
     have hw361_1 := hx361_1
     have hw361_0 := hx361_0
     cases e361
     replace hx361_0 := bc_ HB.out hx361_0
     replace hx361_1 := bc_ HB.out hx361_1
     replace hx361_2 := bc_ HB.out hx361_2
     replace p361 := eq_true p361
     replace q361 := eq_true q361
     refine start_ (n := 14) (S := fun w' => w'.cell? ⟨gb360, 0, none⟩ = some (.int .i64 a1_0) ∧ w'.cell? ⟨gb360, 1, none⟩ = some (.int .i64 a1_1) ∧ w'.cell? ⟨gb360, 2, none⟩ = some (.int .i64 a1_2) ∧ w'.cell? (ad361.add ((x5_1).toNat * 3)) = some (.int .i64 ((rd_T160 l0 x5_1).f0)) ∧ w'.cell? ⟨(ad361.add ((x5_1).toNat * 3)).block, (ad361.add ((x5_1).toNat * 3)).off + 1, none⟩ = some (.int .i64 ((rd_T160 l0 x5_1).f1)) ∧ w'.cell? ⟨(ad361.add ((x5_1).toNat * 3)).block, (ad361.add ((x5_1).toNat * 3)).off + 2, none⟩ = some (.int .i64 ((rd_T160 l0 x5_1).f2))) (ds := []) #[f_,f_,f_,f_,f_,f_,f_,f_,f_,f_,f_,f_,f_,f_] (by kernel_rfl) rfl rfl ⟨(blk_cell BK360.out 0).trans rfl, (blk_cell BK360.out 1).trans rfl, (blk_cell BK360.out 2).trans rfl, (bc_ HB.out hw361_0 :), (bc_ HB.out hw361_1 :), (bc_ HB.out hw361_2 :)⟩ (fun hHeld => ?_); refine with_tabW spec_l13With.tab2 spec_l13With.bits2 (fun HT_ HW_ => ?_)
     generalize wr.drew = w7 at BK360 HB hx361_0 hx361_1 hx361_2 hHeld ⊢
     refine pu_ 0 6 #[t_,f_,f_,f_,f_,f_,f_,f_,f_,f_,f_,f_,f_,f_] HT_.out ?_
     refine pu_ 1 7 #[t_,t_,f_,f_,f_,f_,f_,f_,f_,f_,f_,f_,f_,f_] HT_.out ?_
     refine pu_ 2 8 #[t_,t_,t_,f_,f_,f_,f_,f_,f_,f_,f_,f_,f_,f_] HT_.out ?_
     refine pu_ 3 9 #[t_,t_,t_,t_,f_,f_,f_,f_,f_,f_,f_,f_,f_,f_] HT_.out ?_
     refine pu_ 4 10 #[t_,t_,t_,t_,t_,f_,f_,f_,f_,f_,f_,f_,f_,f_] HT_.out ?_
     refine pu_ 5 11 #[t_,t_,t_,t_,t_,t_,f_,f_,f_,f_,f_,f_,f_,f_] HT_.out ?_
     refine pu_ 6 12 #[t_,t_,t_,t_,t_,t_,t_,f_,f_,f_,f_,f_,f_,f_] HT_.out ?_
     refine pu_ 7 13 #[t_,t_,t_,t_,t_,t_,t_,t_,f_,f_,f_,f_,f_,f_] HT_.out ?_
     refine pu_ 8 14 #[t_,t_,t_,t_,t_,t_,t_,t_,t_,f_,f_,f_,f_,f_] HT_.out ?_
     refine pu_ 10 16 #[t_,t_,t_,t_,t_,t_,t_,t_,t_,f_,t_,f_,f_,f_] HT_.out ?_
     refine take_ (i := 9) (N := some 15) (v := ?_) (a' := ?_) #[t_,t_,t_,t_,t_,t_,t_,t_,t_,t_,t_,f_,f_,f_] rfl rfl (take_ofW HT_.out HW_.out (by kernel_rfl)) (fun _ _ _ h => h) (Or.inl ⟨by rfl, ?_⟩) hHeld ?_ ?_
     rotate_left
     ·rintro w' ⟨s0, s1, s2, s3, s4, s5⟩
      go_simp
      with_reducible rfl
     rotate_left
     ·simp only [pz_]
      rfl
     refine take_ (i := 11) (N := some 17) (v := ?_) (a' := ?_) #[t_,t_,t_,t_,t_,t_,t_,t_,t_,t_,t_,t_,f_,f_] rfl rfl (take_ofW HT_.out HW_.out (by kernel_rfl)) (fun _ _ _ h => h) (Or.inl ⟨by rfl, ?_⟩) hHeld ?_ ?_
     rotate_left
     ·rintro w' ⟨s0, s1, s2, s3, s4, s5⟩
      go_simp
      with_reducible rfl
     rotate_left
     ·simp only [pz_]
      rfl
     refine pu_ 12 18 #[t_,t_,t_,t_,t_,t_,t_,t_,t_,t_,t_,t_,t_,f_] HT_.out ?_
     refine pu_ 13 19 #[t_,t_,t_,t_,t_,t_,t_,t_,t_,t_,t_,t_,t_,t_] HT_.out ?_
     refine done_ (done_of HT_.out (by kernel_rfl)) ?_
     try go_wp2
     go_roundg k1
     case measure => have := HK1.out; omega
     case rel => exact ⟨(wrap64 (x5_1 + 1)), (by first | rfl | (simp; done) | (simp [*]; done)), H', ⟨by have := HK1.out; omega⟩, ⟨r2_ BK360.out⟩, ⟨r4_ HB.out GE360.out⟩⟩
    ·rw [if_neg c6] at H
     have c6b0 : decide (((rd_T160 l0 x5_1).f0) < a1_0) = false := decide_eq_false c6
     clear c6
     obtain ⟨y362, hy362⟩ : ∃ y_ : List (S160), y_ = (([] : List (S160))) := ⟨_, rfl⟩
     replace H : (if x5_1 ≤ (l0.length : Int) then ((some (l0.take (x5_1 : Int).toNat : List (S160))).bind fun y365 => (if y362.length + y365.length < 5864062014805 then ((some (y362 ++ y365 : List (S160))).bind fun y369 => ((some (([(⟨a1_0, a1_1, a1_2⟩ : S160)] : List (S160)) : List (S160))).bind fun y372 => (if y369.length + y372.length < 5864062014805 then ((some (y369 ++ y372 : List (S160))).bind fun y375 => ((some (l0.drop (x5_1 : Int).toNat : List (S160))).bind fun y378 => (if y375.length + y378.length < 5864062014805 then (some (y375 ++ y378)) else (none)))) else (none)))) else (none))) else (none)) = some r := by first | (rw [hy362]; with_reducible exact H) | (have H2_ := (Option.bind_some _ _).symm.trans H; rw [hy362]; with_reducible exact H2_) | (have H2_ := (Option.bind_some _ _).symm.trans H; with_reducible exact H2_) | with_reducible exact H | (rw [hy362]; exact H) | exact H
     have Ny362 := Aside0.mk hy362
     clear hy362
     have c8b0 := eq_true (od_ : 0 ≤ x5_1)
     by_cases c9 : x5_1 ≤ (l0.length : Int)
     case neg =>
      rw [if_neg c9] at H
      exact absurd H (by simp)
     rw [if_pos c9] at H
     have c9b0 := eq_true c9
     have c9b1 : decide (x5_1 ≤ (l0.length : Int)) = true := decide_eq_true c9
     clear c9
     obtain ⟨y365, hy365⟩ : ∃ y_ : List (S160), y_ = (l0.take (x5_1 : Int).toNat) := ⟨_, rfl⟩
     replace H : (if y362.length + y365.length < 5864062014805 then ((some (y362 ++ y365 : List (S160))).bind fun y369 => ((some (([(⟨a1_0, a1_1, a1_2⟩ : S160)] : List (S160)) : List (S160))).bind fun y372 => (if y369.length + y372.length < 5864062014805 then ((some (y369 ++ y372 : List (S160))).bind fun y375 => ((some (l0.drop (x5_1 : Int).toNat : List (S160))).bind fun y378 => (if y375.length + y378.length < 5864062014805 then (some (y375 ++ y378)) else (none)))) else (none)))) else (none)) = some r := by first | (rw [hy365]; with_reducible exact H) | (have H2_ := (Option.bind_some _ _).symm.trans H; rw [hy365]; with_reducible exact H2_) | (have H2_ := (Option.bind_some _ _).symm.trans H; with_reducible exact H2_) | with_reducible exact H | (rw [hy365]; exact H) | exact H
     have Ny365 := Aside0.mk hy365
     clear hy365
     by_cases c10 : y362.length + y365.length < 5864062014805
     case neg =>
      rw [if_neg c10] at H
      exact absurd H (by simp)
     rw [if_pos c10] at H
     have LMc10 := Aside0.mk c10
     clear c10
     obtain ⟨y369, hy369⟩ : ∃ y_ : List (S160), y_ = (y362 ++ y365) := ⟨_, rfl⟩
     replace H : ((some (([(⟨a1_0, a1_1, a1_2⟩ : S160)] : List (S160)) : List (S160))).bind fun y372 => (if y369.length + y372.length < 5864062014805 then ((some (y369 ++ y372 : List (S160))).bind fun y375 => ((some (l0.drop (x5_1 : Int).toNat : List (S160))).bind fun y378 => (if y375.length + y378.length < 5864062014805 then (some (y375 ++ y378)) else (none)))) else (none))) = some r := by first | (rw [hy369]; with_reducible exact H) | (have H2_ := (Option.bind_some _ _).symm.trans H; rw [hy369]; with_reducible exact H2_) | (have H2_ := (Option.bind_some _ _).symm.trans H; with_reducible exact H2_) | with_reducible exact H | (rw [hy369]; exact H) | exact H
     have Ny369 := Aside0.mk hy369
     clear hy369
     obtain ⟨y372, hy372⟩ : ∃ y_ : List (S160), y_ = (([(⟨a1_0, a1_1, a1_2⟩ : S160)] : List (S160))) := ⟨_, rfl⟩
     replace H : (if y369.length + y372.length < 5864062014805 then ((some (y369 ++ y372 : List (S160))).bind fun y375 => ((some (l0.drop (x5_1 : Int).toNat : List (S160))).bind fun y378 => (if y375.length + y378.length < 5864062014805 then (some (y375 ++ y378)) else (none)))) else (none)) = some r := by first | (rw [hy372]; with_reducible exact H) | (have H2_ := (Option.bind_some _ _).symm.trans H; rw [hy372]; with_reducible exact H2_) | (have H2_ := (Option.bind_some _ _).symm.trans H; with_reducible exact H2_) | with_reducible exact H | (rw [hy372]; exact H) | exact H
     have Ny372 := Aside0.mk hy372
     clear hy372
     by_cases c11 : y369.length + y372.length < 5864062014805
     case neg =>
      rw [if_neg c11] at H
      exact absurd H (by simp)
     rw [if_pos c11] at H
     have LMc11 := Aside0.mk c11
     clear c11
     obtain ⟨y375, hy375⟩ : ∃ y_ : List (S160), y_ = (y369 ++ y372) := ⟨_, rfl⟩
     replace H : ((some (l0.drop (x5_1 : Int).toNat : List (S160))).bind fun y378 => (if y375.length + y378.length < 5864062014805 then (some (y375 ++ y378)) else (none))) = some r := by first | (rw [hy375]; with_reducible exact H) | (have H2_ := (Option.bind_some _ _).symm.trans H; rw [hy375]; with_reducible exact H2_) | (have H2_ := (Option.bind_some _ _).symm.trans H; with_reducible exact H2_) | with_reducible exact H | (rw [hy375]; exact H) | exact H
     have Ny375 := Aside0.mk hy375
     clear hy375
     have c12b0 := eq_true (od_ : 0 ≤ x5_1)
     have c13b0 := eq_true (od_ : x5_1 ≤ (l0.length : Int))
     obtain ⟨y378, hy378⟩ : ∃ y_ : List (S160), y_ = (l0.drop (x5_1 : Int).toNat) := ⟨_, rfl⟩
     replace H : (if y375.length + y378.length < 5864062014805 then (some (y375 ++ y378)) else (none)) = some r := by first | (rw [hy378]; with_reducible exact H) | (have H2_ := (Option.bind_some _ _).symm.trans H; rw [hy378]; with_reducible exact H2_) | (have H2_ := (Option.bind_some _ _).symm.trans H; with_reducible exact H2_) | with_reducible exact H | (rw [hy378]; exact H) | exact H
     have Ny378 := Aside0.mk hy378
     clear hy378
     by_cases c14 : y375.length + y378.length < 5864062014805
     case neg =>
      rw [if_neg c14] at H
      exact absurd H (by simp)
     rw [if_pos c14] at H
     have LMc14 := Aside0.mk c14
     clear c14
     obtain ⟨y382, hy382⟩ : ∃ y_ : List (S160), y_ = (y375 ++ y378) := ⟨_, rfl⟩
     replace H : (some y382) = some r := by first | (rw [hy382]; with_reducible exact H) | (have H2_ := (Option.bind_some _ _).symm.trans H; rw [hy382]; with_reducible exact H2_) | (have H2_ := (Option.bind_some _ _).symm.trans H; with_reducible exact H2_) | with_reducible exact H | (rw [hy382]; exact H) | exact H
     have Ny382 := Aside0.mk hy382
     clear hy382
     obtain rfl := Option.some.inj H
     try go_wp2
     replace BK360 := Aside0.mk (blk_drew BK360.out)
     replace HB := Aside0.mk (below_drew1 HB.out)
     have p361 : 0 ≤ (x5_1 : Int) := od_
     have q361 : x5_1 < (l0.length : Int) := od_
     obtain ⟨ad361, e361, hx361_0, hx361_1, hx361_2⟩ := at_T160 HR0.out x5_1 p361 q361
     have hw361_2 := hx361_2
     have hw361_1 := hx361_1
     have hw361_0 := hx361_0
     cases e361
     replace hx361_0 := bc_ HB.out hx361_0
     replace hx361_1 := bc_ HB.out hx361_1
     replace hx361_2 := bc_ HB.out hx361_2
     replace p361 := eq_true p361
     replace q361 := eq_true q361
     refine start_ (n := 14) (S := fun w' => w'.cell? ⟨gb360, 0, none⟩ = some (.int .i64 a1_0) ∧ w'.cell? ⟨gb360, 1, none⟩ = some (.int .i64 a1_1) ∧ w'.cell? ⟨gb360, 2, none⟩ = some (.int .i64 a1_2) ∧ w'.cell? (ad361.add ((x5_1).toNat * 3)) = some (.int .i64 ((rd_T160 l0 x5_1).f0)) ∧ w'.cell? ⟨(ad361.add ((x5_1).toNat * 3)).block, (ad361.add ((x5_1).toNat * 3)).off + 1, none⟩ = some (.int .i64 ((rd_T160 l0 x5_1).f1)) ∧ w'.cell? ⟨(ad361.add ((x5_1).toNat * 3)).block, (ad361.add ((x5_1).toNat * 3)).off + 2, none⟩ = some (.int .i64 ((rd_T160 l0 x5_1).f2))) (ds := []) #[f_,f_,f_,f_,f_,f_,f_,f_,f_,f_,f_,f_,f_,f_] (by kernel_rfl) rfl rfl ⟨(blk_cell BK360.out 0).trans rfl, (blk_cell BK360.out 1).trans rfl, (blk_cell BK360.out 2).trans rfl, (bc_ HB.out hw361_0 :), (bc_ HB.out hw361_1 :), (bc_ HB.out hw361_2 :)⟩ (fun hHeld => ?_); refine with_tabW spec_l13With.tab2 spec_l13With.bits2 (fun HT_ HW_ => ?_)
     generalize wr.drew = w15 at BK360 HB hx361_0 hx361_1 hx361_2 hHeld ⊢
     refine pu_ 0 6 #[t_,f_,f_,f_,f_,f_,f_,f_,f_,f_,f_,f_,f_,f_] HT_.out ?_
     refine pu_ 1 7 #[t_,t_,f_,f_,f_,f_,f_,f_,f_,f_,f_,f_,f_,f_] HT_.out ?_
     refine pu_ 2 8 #[t_,t_,t_,f_,f_,f_,f_,f_,f_,f_,f_,f_,f_,f_] HT_.out ?_
     refine pu_ 3 9 #[t_,t_,t_,t_,f_,f_,f_,f_,f_,f_,f_,f_,f_,f_] HT_.out ?_
     refine pu_ 4 10 #[t_,t_,t_,t_,t_,f_,f_,f_,f_,f_,f_,f_,f_,f_] HT_.out ?_
     refine pu_ 5 11 #[t_,t_,t_,t_,t_,t_,f_,f_,f_,f_,f_,f_,f_,f_] HT_.out ?_
     refine pu_ 6 12 #[t_,t_,t_,t_,t_,t_,t_,f_,f_,f_,f_,f_,f_,f_] HT_.out ?_
     refine pu_ 7 13 #[t_,t_,t_,t_,t_,t_,t_,t_,f_,f_,f_,f_,f_,f_] HT_.out ?_
     refine pu_ 8 14 #[t_,t_,t_,t_,t_,t_,t_,t_,t_,f_,f_,f_,f_,f_] HT_.out ?_
     refine pu_ 10 16 #[t_,t_,t_,t_,t_,t_,t_,t_,t_,f_,t_,f_,f_,f_] HT_.out ?_
     refine take_ (i := 9) (N := some 15) (v := ?_) (a' := ?_) #[t_,t_,t_,t_,t_,t_,t_,t_,t_,t_,t_,f_,f_,f_] rfl rfl (take_ofW HT_.out HW_.out (by kernel_rfl)) (fun _ _ _ h => h) (Or.inl ⟨by rfl, ?_⟩) hHeld ?_ ?_
     rotate_left
     ·rintro w' ⟨s0, s1, s2, s3, s4, s5⟩
      go_simp
      with_reducible rfl
     rotate_left
     ·simp only [pz_]
      rfl
     refine take_ (i := 11) (N := some 17) (v := ?_) (a' := ?_) #[t_,t_,t_,t_,t_,t_,t_,t_,t_,t_,t_,t_,f_,f_] rfl rfl (take_ofW HT_.out HW_.out (by kernel_rfl)) (fun _ _ _ h => h) (Or.inl ⟨by rfl, ?_⟩) hHeld ?_ ?_
     rotate_left
     ·rintro w' ⟨s0, s1, s2, s3, s4, s5⟩
      go_simp
      with_reducible rfl
     rotate_left
     ·simp only [pz_]
      rfl
     refine pu_ 12 18 #[t_,t_,t_,t_,t_,t_,t_,t_,t_,t_,t_,t_,t_,f_] HT_.out ?_
     refine pu_ 13 19 #[t_,t_,t_,t_,t_,t_,t_,t_,t_,t_,t_,t_,t_,t_] HT_.out ?_
     refine done_ (done_of HT_.out (by kernel_rfl)) ?_
     try go_wp2
     replace BK360 := Aside0.mk (blk_drew BK360.out)
     replace HB := Aside0.mk (below_drew1 HB.out)
     have q17 : (x5_1 : Int) ≤ ((l0.length : Int) : Int) := od_
     obtain ⟨i017, hi017, _, hsz17, _⟩ := info_parts info160
     have hroom17 : l0.length ≤ c0 := HC0.out
     have hC17 : Kd.C k160 _ (some ad361) l0.length l0 := HR0.out
     have hcut17 := cut_to (P := Try.prog) 44 160 .i64 Try.underlying44 hi017 (some ad361) l0.length c0 x5_1 od_ q17 hroom17
     have hr17 := Kd.C_take (m := (x5_1 : Int).toNat) hC17 (by omega)
     have hy17 : y365.length = (x5_1 : Int).toNat := (by rw [Ny365.out, List.length_take]; omega)
     rw [← Ny365.out] at hr17
     rw [← hy17] at hcut17
     have HR368 := Aside0.mk hr17
     have HC368 := Aside0.mk (show y365.length ≤ c0 from by omega)
     clear hr17 hC17 hroom17 hi017 hsz17
     have KY17 := Aside0.mk hy17
     clear hy17
     replace q17 := eq_true q17
     have q18 : (x5_1 : Int) ≤ ((l0.length : Int) : Int) := od_
     obtain ⟨i018, hi018, _, hsz18, _⟩ := info_parts info160
     have hroom18 : l0.length ≤ c0 := HC0.out
     have hC18 : Kd.C k160 _ (some ad361) l0.length l0 := HR0.out
     have q018 : (0 : Int) ≤ (x5_1 : Int) := od_
     have hcut18 := cut_from (P := Try.prog) 44 160 .i64 Try.underlying44 hi018 3 hsz18 (some ad361) l0.length c0 x5_1 q018 q18
     have hr18 := Kd.C_drop (m := (x5_1 : Int).toNat) (c := c0) hC18 (by omega) hroom18
     obtain ⟨A18, hA18⟩ : ∃ A1, A1 = (if c0 = (x5_1 : Int).toNat then (some ad361) else ((some ad361) : Option Addr).map (·.add ((x5_1 : Int).toNat * 3))) := ⟨_, rfl⟩
     obtain ⟨c18, hc18⟩ : ∃ c1, c1 = c0 - (x5_1 : Int).toNat := ⟨_, rfl⟩
     have hy18 : y378.length = l0.length - (x5_1 : Int).toNat := (by rw [Ny378.out, List.length_drop] <;> omega)
     rw [show (l0).drop (x5_1 : Int).toNat = y378 from Ny378.out.symm] at hr18
     replace hr18 : Kd.C k160 _ A18 y378.length y378 := (by rw [hA18]; exact hr18)
     rw [← hy18, ← hA18, ← hc18] at hcut18
     have HR381 := Aside0.mk hr18
     have HC381 := Aside0.mk (show y378.length ≤ c18 from by rw [hy18, hc18]; exact Nat.sub_le_sub_right hroom18 _)
     clear hr18 hC18 hroom18 hi018 hsz18 hc18
     have KY18 := Aside0.mk hy18
     have KA18 := Aside0.mk hA18
     clear hy18 hA18
     replace q18 := eq_true q18
     refine start_ (n := 13) (S := fun w' => w'.cell? ⟨gb360, 0, none⟩ = some (.int .i64 a1_0) ∧ w'.cell? ⟨gb360, 1, none⟩ = some (.int .i64 a1_1) ∧ w'.cell? ⟨gb360, 2, none⟩ = some (.int .i64 a1_2)) (ds := []) #[f_,f_,f_,f_,f_,f_,f_,f_,f_,f_,f_,f_,f_] (by kernel_rfl) rfl rfl ⟨(blk_cell BK360.out 0).trans rfl, (blk_cell BK360.out 1).trans rfl, (blk_cell BK360.out 2).trans rfl⟩ (fun hHeld => ?_); refine with_tabW spec_l13With.tab4 spec_l13With.bits4 (fun HT_ HW_ => ?_)
     generalize w15.drew = w16 at BK360 HB HR368 HR381 hHeld ⊢
     refine pu_ 1 23 #[f_,t_,f_,f_,f_,f_,f_,f_,f_,f_,f_,f_,f_] HT_.out ?_
     refine pu_ 2 24 #[f_,t_,t_,f_,f_,f_,f_,f_,f_,f_,f_,f_,f_] HT_.out ?_
     refine pu_ 3 25 #[f_,t_,t_,t_,f_,f_,f_,f_,f_,f_,f_,f_,f_] HT_.out ?_
     refine pu_ 8 30 #[f_,t_,t_,t_,f_,f_,f_,f_,t_,f_,f_,f_,f_] HT_.out ?_
     refine pu_ 9 31 #[f_,t_,t_,t_,f_,f_,f_,f_,t_,t_,f_,f_,f_] HT_.out ?_
     refine pu_ 10 32 #[f_,t_,t_,t_,f_,f_,f_,f_,t_,t_,t_,f_,f_] HT_.out ?_
     refine take_ (i := 5) (N := some 27) (v := ?_) (a' := ?_) #[f_,t_,t_,t_,f_,t_,f_,f_,t_,t_,t_,f_,f_] rfl rfl (take_ofW HT_.out HW_.out (by kernel_rfl)) (fun _ _ _ h => h) (Or.inl ⟨by rfl, ?_⟩) hHeld ?_ ?_
     rotate_left
     ·rintro w' ⟨s0, s1, s2⟩
      go_simp
      with_reducible rfl
     rotate_left
     ·simp only [pz_]
      rfl
     refine join_ (σ := Value × Value × Value) 3 #[t_,t_,t_,t_,t_,t_,t_,f_,t_,t_,t_,f_,f_] (fun s_ => [(22, s_.1), (26, s_.2.1), (28, s_.2.2)]) (fun s_ w' => (w'.cell? ⟨gb360, 0, none⟩ = some (.int .i64 a1_0) ∧ w'.cell? ⟨gb360, 1, none⟩ = some (.int .i64 a1_1) ∧ w'.cell? ⟨gb360, 2, none⟩ = some (.int .i64 a1_2)) ∧ (Kd.R k160 160 w' w.heap.size (fun k_ => some k_ ≠ (s_.2.2 : Value).ownBlock ∧ k_ ≠ gb360) s_.2.1 y369) ∧ (Kd.R k160 160 w' w.heap.size (fun k_ => some k_ ≠ (s_.2.1 : Value).ownBlock ∧ k_ ≠ gb360) s_.2.2 y372) ∧ (w'.heap[gb360]? = some (.cells #[.int .i64 a1_0, .int .i64 a1_1, .int .i64 a1_2] 160 (0, 0))) ∧ (Below w.heap.size w w')) ?_ ?_
     rotate_left
     ·intro hCont
      refine two_ (i := 0) (j := 6) (Ni := some 22) (Nj := some 28) #[t_,t_,t_,t_,f_,t_,f_,f_,t_,t_,t_,f_,f_] #[f_,t_,t_,t_,f_,t_,t_,f_,t_,t_,t_,f_,f_] rfl rfl rfl rfl (two_of HT_.out (by kernel_rfl)) (by decide) (by decide) (fun K hK => ?_) (fun K hK => ?_)
      ·skip
       refine Kd.R_lit_step k160 _ 160 ?hg (N := 22) ?hd (xs := ([] : List (S160))) (inner := []) (ok := fun _ => True) (okp := fun _ => True) ?hr ?hp (fun _ hk => hk) trivial (Below.refl _ _) (Nat.le_refl _) (by simp) ?_; (case hd => rfl); (case hg => rfl); (case hr => first | (go_simp; done) | (go_simp; rfl)); (case hp => exact (Reps.none _ _))
       intro v363 w19 ho20 hb hg_ hnew_
       clear hg_ hnew_
       (first | rw [← Ny362.out] at ho20 | (simp only [Int.reduceToNat] at ho20; rw [← Ny362.out] at ho20))
       have HO364 := Aside0.mk (Kd.R_lower (Kd.R_newB ho20 (g := gb360) (o := .cells #[.int .i64 a1_0, .int .i64 a1_1, .int .i64 a1_2] 160 (0, 0)) (r2_ BK360.out)) (below_size (r4_ HB.out GE360.out)))
       replace BK360 := Aside0.mk (blk_below (g := gb360) (o := .cells #[.int .i64 a1_0, .int .i64 a1_1, .int .i64 a1_2] 160 (0, 0)) (r2_ BK360.out) hb)
       replace HB := Aside0.mk (below_step (r4_ HB.out GE360.out) hb)
       clear hb ho20
       refine hK.out _ _ ⟨(blk_cell BK360.out 0).trans rfl, (blk_cell BK360.out 1).trans rfl, (blk_cell BK360.out 2).trans rfl⟩ (fun hHeld => ?_)
       clear hK K
       refine norm_ (a' := ?_) ?_ ?_
       rotate_left
       ·show Act.put _ (some 22) _ = _
        simp only [pz_]
        rfl
       refine two_ (i := 4) (j := 6) (Ni := some 26) (Nj := some 28) #[t_,t_,t_,t_,t_,t_,f_,f_,t_,t_,t_,f_,f_] #[t_,t_,t_,t_,f_,t_,t_,f_,t_,t_,t_,f_,f_] rfl rfl rfl rfl (two_of HT_.out (by kernel_rfl)) (by decide) (by decide) (fun K hK => ?_) (fun K hK => ?_)
       ·skip
        refine Kd.R_append_rows_step k160 (w0 := w) w.heap.size (by rfl) (.tmp 22) (.tmp 25) 44 160 (.agg #[(.int .i64 0), (.int .i64 0), (.int .i64 0)]) 24 rfl Try.underlying44 info160 rfl (by decide) (by omega) v363 y362 y365 _ _ _ (fun k_ => k_ ≠ gb360) (fun _ => False) rfl rfl ?aO ?aR (fun _ _ h => h) (fun _ h => h.elim) ?aF ?aB ?aS ?aL ?_
        (case aR => exact r5_ HR368.out HB.out)
        (case aB => exact (r4_ HB.out GE360.out))
        (case aF => exact (fun k_ hk => Kd.freshB (g := gb360) (o := .cells #[.int .i64 a1_0, .int .i64 a1_1, .int .i64 a1_2] 160 (0, 0)) (r2_ BK360.out) k_ hk))
        (case aO => exact (rk_ (Kd.R_mono HO364.out (fun _ hk => hk.2))))
        (case aS => exact (below_size (r4_ HB.out GE360.out)))
        (case aL => have := LMc10.out; omega)
        intro v370 w21 ho hb hg hat
        rw [← Ny369.out] at ho
        have n0_ := Aside0.mk (blk_grown (g := gb360) (o := .cells #[.int .i64 a1_0, .int .i64 a1_1, .int .i64 a1_2] 160 (0, 0)) (r2_ BK360.out) hg (Kd.R_away HO364.out (fun _ hk => hk.2)))
        have n1_ := Aside0.mk (hb)
        have n2_ := Aside0.mk (ho)
        clear BK360
        clear HB
        clear HO364
        have BK360 := n0_
        have HB := n1_
        have HO371 := n2_
        clear n0_ n1_ n2_
        clear ho hb hg hat
        refine hK.out _ _ ⟨(blk_cell BK360.out 0).trans rfl, (blk_cell BK360.out 1).trans rfl, (blk_cell BK360.out 2).trans rfl⟩ (fun hHeld => ?_)
        clear hK K
        refine norm_ (a' := ?_) ?_ ?_
        rotate_left
        ·show Act.put _ (some 26) _ = _
         simp only [pz_]
         rfl
        refine one_ (i := 6) (N := some 28) #[t_,t_,t_,t_,t_,t_,t_,f_,t_,t_,t_,f_,f_] rfl rfl (one_of HT_.out (by kernel_rfl)) (by decide) (fun K hK => ?_)
        refine Kd.R_lit_step k160 _ 160 ?hg (N := 28) ?hd (xs := ([(⟨a1_0, a1_1, a1_2⟩ : S160)] : List (S160))) (inner := [.int .i64 a1_0, .int .i64 a1_1, .int .i64 a1_2]) (ok := fun _ => True) (okp := fun _ => True) ?hr ?hp (fun _ hk => hk) trivial (Below.refl _ _) (Nat.le_refl _) (by simp) ?_; (case hd => rfl); (case hg => rfl); (case hr => first | (go_simp; done) | (go_simp; rfl)); (case hp => exact (Reps.c3 (show Kd.M k160 _ _ _ (⟨a1_0, a1_1, a1_2⟩ : S160) [.int .i64 a1_0, .int .i64 a1_1, .int .i64 a1_2] from (k160_mkM _ _ _ (⟨a1_0, a1_1, a1_2⟩ : S160) )) (Reps.none _ _)))
        intro v373 w22 ho23 hb hg_ hnew_
        clear hg_ hnew_
        (first | rw [← Ny372.out] at ho23 | (simp only [Int.reduceToNat] at ho23; rw [← Ny372.out] at ho23))
        have HO374 := Aside0.mk (Kd.R_lower (Kd.R_newB (Kd.R_new' ho23 (Kd.R_lt (rk_ HO371.out))) (g := gb360) (o := .cells #[.int .i64 a1_0, .int .i64 a1_1, .int .i64 a1_2] 160 (0, 0)) (r2_ BK360.out)) (below_size (r4_ HB.out GE360.out)))
        replace HO371 := Aside0.mk (Kd.R_elder' (rk_ HO371.out) (Kd.R_base ho23) hb)
        replace BK360 := Aside0.mk (blk_below (g := gb360) (o := .cells #[.int .i64 a1_0, .int .i64 a1_1, .int .i64 a1_2] 160 (0, 0)) (r2_ BK360.out) hb)
        replace HB := Aside0.mk (below_step (r4_ HB.out GE360.out) hb)
        clear hb ho23
        refine hK.out _ _ ⟨(blk_cell BK360.out 0).trans rfl, (blk_cell BK360.out 1).trans rfl, (blk_cell BK360.out 2).trans rfl⟩ (fun hHeld => ?_)
        clear hK K
        refine norm_ (a' := ?_) ?_ ?_
        rotate_left
        ·show Act.put _ (some 28) _ = _
         simp only [pz_]
         rfl
        exact norm_ (by simp only [putAll, Act.put, List.setIfInBounds_toArray, List.set_cons_zero, List.set_cons_succ]) (hCont (v363, v370, v373) _ ⟨hHeld, (rk_ (Kd.R_mono HO371.out (fun _ hk => ⟨hk.2, hk.1⟩))), (rk_ (Kd.R_mono HO374.out (fun _ hk => ⟨hk.1.2, hk.2⟩))), (r2_ BK360.out), (r4_ HB.out GE360.out)⟩)
       ·skip
        refine Kd.R_lit_step k160 _ 160 ?hg (N := 28) ?hd (xs := ([(⟨a1_0, a1_1, a1_2⟩ : S160)] : List (S160))) (inner := [.int .i64 a1_0, .int .i64 a1_1, .int .i64 a1_2]) (ok := fun _ => True) (okp := fun _ => True) ?hr ?hp (fun _ hk => hk) trivial (Below.refl _ _) (Nat.le_refl _) (by simp) ?_; (case hd => rfl); (case hg => rfl); (case hr => first | (go_simp; done) | (go_simp; rfl)); (case hp => exact (Reps.c3 (show Kd.M k160 _ _ _ (⟨a1_0, a1_1, a1_2⟩ : S160) [.int .i64 a1_0, .int .i64 a1_1, .int .i64 a1_2] from (k160_mkM _ _ _ (⟨a1_0, a1_1, a1_2⟩ : S160) )) (Reps.none _ _)))
        intro v373 w21 ho22 hb hg_ hnew_
        clear hg_ hnew_
        (first | rw [← Ny372.out] at ho22 | (simp only [Int.reduceToNat] at ho22; rw [← Ny372.out] at ho22))
        have HO374 := Aside0.mk (Kd.R_lower (Kd.R_newB (Kd.R_new' ho22 (Kd.R_lt (rk_ HO364.out))) (g := gb360) (o := .cells #[.int .i64 a1_0, .int .i64 a1_1, .int .i64 a1_2] 160 (0, 0)) (r2_ BK360.out)) (below_size (r4_ HB.out GE360.out)))
        replace HO364 := Aside0.mk (Kd.R_elder' (rk_ HO364.out) (Kd.R_base ho22) hb)
        replace BK360 := Aside0.mk (blk_below (g := gb360) (o := .cells #[.int .i64 a1_0, .int .i64 a1_1, .int .i64 a1_2] 160 (0, 0)) (r2_ BK360.out) hb)
        replace HB := Aside0.mk (below_step (r4_ HB.out GE360.out) hb)
        clear hb ho22
        refine hK.out _ _ ⟨(blk_cell BK360.out 0).trans rfl, (blk_cell BK360.out 1).trans rfl, (blk_cell BK360.out 2).trans rfl⟩ (fun hHeld => ?_)
        clear hK K
        refine norm_ (a' := ?_) ?_ ?_
        rotate_left
        ·show Act.put _ (some 28) _ = _
         simp only [pz_]
         rfl
        refine one_ (i := 4) (N := some 26) #[t_,t_,t_,t_,t_,t_,t_,f_,t_,t_,t_,f_,f_] rfl rfl (one_of HT_.out (by kernel_rfl)) (by decide) (fun K hK => ?_)
        refine Kd.R_append_rows_step k160 (w0 := w) w.heap.size (by rfl) (.tmp 22) (.tmp 25) 44 160 (.agg #[(.int .i64 0), (.int .i64 0), (.int .i64 0)]) 24 rfl Try.underlying44 info160 rfl (by decide) (by omega) v363 y362 y365 _ _ _ (fun k_ => some k_ ≠ (v373 : Value).ownBlock ∧ k_ ≠ gb360) (fun _ => False) rfl rfl ?aO ?aR (fun _ _ h => h) (fun _ h => h.elim) ?aF ?aB ?aS ?aL ?_
        (case aR => exact r5_ HR368.out HB.out)
        (case aB => exact (r4_ HB.out GE360.out))
        (case aF => exact (fun k_ hk => ⟨Kd.fresh' (Kd.R_lt (rk_ HO374.out)) k_ hk, Kd.freshB (g := gb360) (o := .cells #[.int .i64 a1_0, .int .i64 a1_1, .int .i64 a1_2] 160 (0, 0)) (r2_ BK360.out) k_ hk⟩))
        (case aO => exact (rk_ (Kd.R_mono HO364.out (fun _ hk => ⟨hk.2, hk.1.2⟩))))
        (case aS => exact (below_size (r4_ HB.out GE360.out)))
        (case aL => have := LMc10.out; omega)
        intro v370 w23 ho hb hg hat
        rw [← Ny369.out] at ho
        have n0_ := Aside0.mk (blk_grown (g := gb360) (o := .cells #[.int .i64 a1_0, .int .i64 a1_1, .int .i64 a1_2] 160 (0, 0)) (r2_ BK360.out) hg (Kd.R_away HO364.out (fun _ hk => hk.1.2)))
        have n1_ := Aside0.mk (Kd.R_after (ok := (fun k_ => k_ ≠ gb360)) (rk_ (Kd.R_mono HO374.out (fun _ hk => ⟨hk.2, hk.1.2⟩))) hg hat)
        have n2_ := Aside0.mk (hb)
        have n3_ := Aside0.mk (ho)
        clear BK360
        clear HO374
        clear HB
        clear HO364
        have BK360 := n0_
        have HO374 := n1_
        have HB := n2_
        have HO371 := n3_
        clear n0_ n1_ n2_ n3_
        clear ho hb hg hat
        refine hK.out _ _ ⟨(blk_cell BK360.out 0).trans rfl, (blk_cell BK360.out 1).trans rfl, (blk_cell BK360.out 2).trans rfl⟩ (fun hHeld => ?_)
        clear hK K
        refine norm_ (a' := ?_) ?_ ?_
        rotate_left
        ·show Act.put _ (some 26) _ = _
         simp only [pz_]
         rfl
        exact norm_ (by simp only [putAll, Act.put, List.setIfInBounds_toArray, List.set_cons_zero, List.set_cons_succ]) (hCont (v363, v370, v373) _ ⟨hHeld, (rk_ HO371.out), (rk_ (Kd.R_mono HO374.out (fun _ hk => ⟨hk.2, hk.1⟩))), (r2_ BK360.out), (r4_ HB.out GE360.out)⟩)
      ·skip
       refine Kd.R_lit_step k160 _ 160 ?hg (N := 28) ?hd (xs := ([(⟨a1_0, a1_1, a1_2⟩ : S160)] : List (S160))) (inner := [.int .i64 a1_0, .int .i64 a1_1, .int .i64 a1_2]) (ok := fun _ => True) (okp := fun _ => True) ?hr ?hp (fun _ hk => hk) trivial (Below.refl _ _) (Nat.le_refl _) (by simp) ?_; (case hd => rfl); (case hg => rfl); (case hr => first | (go_simp; done) | (go_simp; rfl)); (case hp => exact (Reps.c3 (show Kd.M k160 _ _ _ (⟨a1_0, a1_1, a1_2⟩ : S160) [.int .i64 a1_0, .int .i64 a1_1, .int .i64 a1_2] from (k160_mkM _ _ _ (⟨a1_0, a1_1, a1_2⟩ : S160) )) (Reps.none _ _)))
       intro v373 w19 ho20 hb hg_ hnew_
       clear hg_ hnew_
       (first | rw [← Ny372.out] at ho20 | (simp only [Int.reduceToNat] at ho20; rw [← Ny372.out] at ho20))
       have HO374 := Aside0.mk (Kd.R_lower (Kd.R_newB ho20 (g := gb360) (o := .cells #[.int .i64 a1_0, .int .i64 a1_1, .int .i64 a1_2] 160 (0, 0)) (r2_ BK360.out)) (below_size (r4_ HB.out GE360.out)))
       replace BK360 := Aside0.mk (blk_below (g := gb360) (o := .cells #[.int .i64 a1_0, .int .i64 a1_1, .int .i64 a1_2] 160 (0, 0)) (r2_ BK360.out) hb)
       replace HB := Aside0.mk (below_step (r4_ HB.out GE360.out) hb)
       clear hb ho20
       refine hK.out _ _ ⟨(blk_cell BK360.out 0).trans rfl, (blk_cell BK360.out 1).trans rfl, (blk_cell BK360.out 2).trans rfl⟩ (fun hHeld => ?_)
       clear hK K
       refine norm_ (a' := ?_) ?_ ?_
       rotate_left
       ·show Act.put _ (some 28) _ = _
        simp only [pz_]
        rfl
       refine one_ (i := 0) (N := some 22) #[t_,t_,t_,t_,f_,t_,t_,f_,t_,t_,t_,f_,f_] rfl rfl (one_of HT_.out (by kernel_rfl)) (by decide) (fun K hK => ?_)
       refine Kd.R_lit_step k160 _ 160 ?hg (N := 22) ?hd (xs := ([] : List (S160))) (inner := []) (ok := fun _ => True) (okp := fun _ => True) ?hr ?hp (fun _ hk => hk) trivial (Below.refl _ _) (Nat.le_refl _) (by simp) ?_; (case hd => rfl); (case hg => rfl); (case hr => first | (go_simp; done) | (go_simp; rfl)); (case hp => exact (Reps.none _ _))
       intro v363 w21 ho22 hb hg_ hnew_
       clear hg_ hnew_
       (first | rw [← Ny362.out] at ho22 | (simp only [Int.reduceToNat] at ho22; rw [← Ny362.out] at ho22))
       have HO364 := Aside0.mk (Kd.R_lower (Kd.R_newB (Kd.R_new' ho22 (Kd.R_lt (rk_ HO374.out))) (g := gb360) (o := .cells #[.int .i64 a1_0, .int .i64 a1_1, .int .i64 a1_2] 160 (0, 0)) (r2_ BK360.out)) (below_size (r4_ HB.out GE360.out)))
       replace HO374 := Aside0.mk (Kd.R_elder' (rk_ HO374.out) (Kd.R_base ho22) hb)
       replace BK360 := Aside0.mk (blk_below (g := gb360) (o := .cells #[.int .i64 a1_0, .int .i64 a1_1, .int .i64 a1_2] 160 (0, 0)) (r2_ BK360.out) hb)
       replace HB := Aside0.mk (below_step (r4_ HB.out GE360.out) hb)
       clear hb ho22
       refine hK.out _ _ ⟨(blk_cell BK360.out 0).trans rfl, (blk_cell BK360.out 1).trans rfl, (blk_cell BK360.out 2).trans rfl⟩ (fun hHeld => ?_)
       clear hK K
       refine norm_ (a' := ?_) ?_ ?_
       rotate_left
       ·show Act.put _ (some 22) _ = _
        simp only [pz_]
        rfl
       refine one_ (i := 4) (N := some 26) #[t_,t_,t_,t_,t_,t_,t_,f_,t_,t_,t_,f_,f_] rfl rfl (one_of HT_.out (by kernel_rfl)) (by decide) (fun K hK => ?_)
       refine Kd.R_append_rows_step k160 (w0 := w) w.heap.size (by rfl) (.tmp 22) (.tmp 25) 44 160 (.agg #[(.int .i64 0), (.int .i64 0), (.int .i64 0)]) 24 rfl Try.underlying44 info160 rfl (by decide) (by omega) v363 y362 y365 _ _ _ (fun k_ => some k_ ≠ (v373 : Value).ownBlock ∧ k_ ≠ gb360) (fun _ => False) rfl rfl ?aO ?aR (fun _ _ h => h) (fun _ h => h.elim) ?aF ?aB ?aS ?aL ?_
       (case aR => exact r5_ HR368.out HB.out)
       (case aB => exact (r4_ HB.out GE360.out))
       (case aF => exact (fun k_ hk => ⟨Kd.fresh' (Kd.R_lt (rk_ HO374.out)) k_ hk, Kd.freshB (g := gb360) (o := .cells #[.int .i64 a1_0, .int .i64 a1_1, .int .i64 a1_2] 160 (0, 0)) (r2_ BK360.out) k_ hk⟩))
       (case aO => exact (rk_ (Kd.R_mono HO364.out (fun _ hk => ⟨hk.1.2, hk.2⟩))))
       (case aS => exact (below_size (r4_ HB.out GE360.out)))
       (case aL => have := LMc10.out; omega)
       intro v370 w23 ho hb hg hat
       rw [← Ny369.out] at ho
       have n0_ := Aside0.mk (blk_grown (g := gb360) (o := .cells #[.int .i64 a1_0, .int .i64 a1_1, .int .i64 a1_2] 160 (0, 0)) (r2_ BK360.out) hg (Kd.R_away HO364.out (fun _ hk => hk.2)))
       have n1_ := Aside0.mk (Kd.R_after (ok := (fun k_ => k_ ≠ gb360)) (rk_ (Kd.R_mono HO374.out (fun _ hk => ⟨hk.1.2, hk.2⟩))) hg hat)
       have n2_ := Aside0.mk (hb)
       have n3_ := Aside0.mk (ho)
       clear BK360
       clear HO374
       clear HB
       clear HO364
       have BK360 := n0_
       have HO374 := n1_
       have HB := n2_
       have HO371 := n3_
       clear n0_ n1_ n2_ n3_
       clear ho hb hg hat
       refine hK.out _ _ ⟨(blk_cell BK360.out 0).trans rfl, (blk_cell BK360.out 1).trans rfl, (blk_cell BK360.out 2).trans rfl⟩ (fun hHeld => ?_)
       clear hK K
       refine norm_ (a' := ?_) ?_ ?_
       rotate_left
       ·show Act.put _ (some 26) _ = _
        simp only [pz_]
        rfl
       exact norm_ (by simp only [putAll, Act.put, List.setIfInBounds_toArray, List.set_cons_zero, List.set_cons_succ]) (hCont (v363, v370, v373) _ ⟨hHeld, (rk_ HO371.out), (rk_ (Kd.R_mono HO374.out (fun _ hk => ⟨hk.2, hk.1⟩))), (r2_ BK360.out), (r4_ HB.out GE360.out)⟩)
     rintro ⟨v363, v370, v373⟩ w24 ⟨hS_, h0_, h1_, h2_, h3_⟩
     have n0_ : Aside0 (Kd.R k160 160 w24 w.heap.size (fun k_ => some k_ ≠ (v373 : Value).ownBlock ∧ k_ ≠ gb360) v370 y369) := ⟨h0_⟩
     have n1_ : Aside0 (Kd.R k160 160 w24 w.heap.size (fun k_ => some k_ ≠ (v370 : Value).ownBlock ∧ k_ ≠ gb360) v373 y372) := ⟨h1_⟩
     have n2_ : Aside0 (w24.heap[gb360]? = some (.cells #[.int .i64 a1_0, .int .i64 a1_1, .int .i64 a1_2] 160 (0, 0))) := ⟨h2_⟩
     have n3_ : Aside0 (Below w.heap.size w w24) := ⟨h3_⟩
     clear BK360
     clear HB
     clear h0_ h1_ h2_ h3_
     have HO371 := n0_
     have HO374 := n1_
     have BK360 := n2_
     have HB := n3_
     clear n0_ n1_ n2_ n3_
     have hHeld : w24.cell? ⟨gb360, 0, none⟩ = some (.int .i64 a1_0) ∧ w24.cell? ⟨gb360, 1, none⟩ = some (.int .i64 a1_1) ∧ w24.cell? ⟨gb360, 2, none⟩ = some (.int .i64 a1_2) := hS_
     obtain ⟨Ao26, co26, eo26⟩ := Kd.R_slice HO374.out
     (first | subst eo26 | (injection eo26 with f1_ f2_ f3_; have f4_ := f1_.symm; have f5_ := f3_.symm; clear f1_ f2_ f3_; subst f4_; subst f5_))
     refine norm_ (a' := ?_) ?_ ?_
     rotate_left
     ·simp only [putAll, Act.put, List.setIfInBounds_toArray, List.set_cons_zero, List.set_cons_succ]
      rfl
     refine one_ (i := 7) (N := some 29) #[t_,t_,t_,t_,t_,t_,t_,t_,t_,t_,t_,f_,f_] rfl rfl (one_of HT_.out (by kernel_rfl)) (by decide) (fun K hK => ?_)
     refine Kd.R_append_rows_step k160 (w0 := w) w.heap.size (by rfl) (.tmp 26) (.tmp 28) 44 160 (.agg #[(.int .i64 0), (.int .i64 0), (.int .i64 0)]) 24 rfl Try.underlying44 info160 rfl (by decide) (by omega) v370 y369 y372 _ _ _ (fun k_ => some k_ ≠ (.slice Ao26 y372.length co26 : Value).ownBlock ∧ k_ ≠ gb360) (fun _ => False) rfl rfl ?aO ?aR (fun _ _ h => h) (fun _ h => h.elim) ?aF ?aB ?aS ?aL ?_
     (case aR => exact r7_ HO374.out)
     (case aB => exact (r4_ HB.out GE360.out))
     (case aF => exact (fun k_ hk => ⟨Kd.fresh' (Kd.R_lt (rk_ HO374.out)) k_ hk, Kd.freshB (g := gb360) (o := .cells #[.int .i64 a1_0, .int .i64 a1_1, .int .i64 a1_2] 160 (0, 0)) (r2_ BK360.out) k_ hk⟩))
     (case aO => exact (rk_ HO371.out))
     (case aS => exact (below_size (r4_ HB.out GE360.out)))
     (case aL => have := LMc11.out; omega)
     intro v376 w25 ho hb hg hat
     rw [← Ny375.out] at ho
     have n0_ := Aside0.mk (blk_grown (g := gb360) (o := .cells #[.int .i64 a1_0, .int .i64 a1_1, .int .i64 a1_2] 160 (0, 0)) (r2_ BK360.out) hg (Kd.R_away HO371.out (fun _ hk => hk.2)))
     have n1_ := Aside0.mk (Kd.R_after (ok := (fun k_ => k_ ≠ gb360)) (rk_ (Kd.R_mono HO374.out (fun _ hk => ⟨hk.2, hk.1⟩))) hg hat)
     have n2_ := Aside0.mk (hb)
     have n3_ := Aside0.mk (ho)
     clear BK360
     clear HO374
     clear HB
     clear HO371
     have BK360 := n0_
     have HO374 := n1_
     have HB := n2_
     have HO377 := n3_
     clear n0_ n1_ n2_ n3_
     clear ho hb hg hat
     refine hK.out _ _ ⟨(blk_cell BK360.out 0).trans rfl, (blk_cell BK360.out 1).trans rfl, (blk_cell BK360.out 2).trans rfl⟩ (fun hHeld => ?_)
     clear hK K
     refine norm_ (a' := ?_) ?_ ?_
     rotate_left
     ·show Act.put _ (some 29) _ = _
      simp only [pz_]
      rfl
     refine one_ (i := 11) (N := some 33) #[t_,t_,t_,t_,t_,t_,t_,t_,t_,t_,t_,t_,f_] rfl rfl (one_of HT_.out (by kernel_rfl)) (by decide) (fun K hK => ?_)
     refine Kd.R_append_rows_step k160 (w0 := w) w.heap.size (by rfl) (.tmp 29) (.tmp 32) 44 160 (.agg #[(.int .i64 0), (.int .i64 0), (.int .i64 0)]) 24 rfl Try.underlying44 info160 rfl (by decide) (by omega) v376 y375 y378 _ _ _ (fun k_ => some k_ ≠ (.slice Ao26 y372.length co26 : Value).ownBlock ∧ k_ ≠ gb360) (fun _ => False) rfl rfl ?aO ?aR (fun _ _ h => h) (fun _ h => h.elim) ?aF ?aB ?aS ?aL ?_
     (case aR => exact r5_ HR381.out HB.out)
     (case aB => exact (r4_ HB.out GE360.out))
     (case aF => exact (fun k_ hk => ⟨Kd.fresh' (Kd.R_lt (rk_ HO374.out)) k_ hk, Kd.freshB (g := gb360) (o := .cells #[.int .i64 a1_0, .int .i64 a1_1, .int .i64 a1_2] 160 (0, 0)) (r2_ BK360.out) k_ hk⟩))
     (case aO => exact (rk_ HO377.out))
     (case aS => exact (below_size (r4_ HB.out GE360.out)))
     (case aL => have := LMc14.out; omega)
     intro v383 w27 ho hb hg hat
     rw [← Ny382.out] at ho
     have n0_ := Aside0.mk (blk_grown (g := gb360) (o := .cells #[.int .i64 a1_0, .int .i64 a1_1, .int .i64 a1_2] 160 (0, 0)) (r2_ BK360.out) hg (Kd.R_away HO377.out (fun _ hk => hk.2)))
     have n1_ := Aside0.mk (Kd.R_after (ok := (fun k_ => k_ ≠ gb360)) (rk_ HO374.out) hg hat)
     have n2_ := Aside0.mk (hb)
     have n3_ := Aside0.mk (ho)
     clear BK360
     clear HO374
     clear HB
     clear HO377
     have BK360 := n0_
     have HO374 := n1_
     have HB := n2_
     have HO384 := n3_
     clear n0_ n1_ n2_ n3_
     clear ho hb hg hat
     refine hK.out _ _ ⟨(blk_cell BK360.out 0).trans rfl, (blk_cell BK360.out 1).trans rfl, (blk_cell BK360.out 2).trans rfl⟩ (fun hHeld => ?_)
     clear hK K
     refine norm_ (a' := ?_) ?_ ?_
     rotate_left
     ·show Act.put _ (some 33) _ = _
      simp only [pz_]
      rfl
     refine pu_ 12 4 #[t_,t_,t_,t_,t_,t_,t_,t_,t_,t_,t_,t_,t_] HT_.out ?_
     refine done_ (done_of HT_.out (by kernel_rfl)) ?_
     try go_wp2
     go_ret
     exact ⟨_, by first | rfl | (simp [errW_none, errW_some] <;> rfl) | (simp [*, errW_none, errW_some] <;> rfl), rk_ (Kd.R_mono HO384.out (fun _ hk => trivial)), r4_ HB.out GE360.out⟩
   ·rw [if_neg c4] at H
    have c4b0 : decide (x5_1 < (l0.length : Int)) = false := decide_eq_false c4
    clear c4
    obtain ⟨y385, hy385⟩ : ∃ y_ : List (S160), y_ = (([] : List (S160))) := ⟨_, rfl⟩
    replace H : (if 0 ≤ x5_1 then (if x5_1 ≤ (l0.length : Int) then ((some (l0.take (x5_1 : Int).toNat : List (S160))).bind fun y388 => (if y385.length + y388.length < 5864062014805 then ((some (y385 ++ y388 : List (S160))).bind fun y392 => ((some (([(⟨a1_0, a1_1, a1_2⟩ : S160)] : List (S160)) : List (S160))).bind fun y395 => (if y392.length + y395.length < 5864062014805 then ((some (y392 ++ y395 : List (S160))).bind fun y398 => ((some (l0.drop (x5_1 : Int).toNat : List (S160))).bind fun y401 => (if y398.length + y401.length < 5864062014805 then (some (y398 ++ y401)) else (none)))) else (none)))) else (none))) else (none)) else (none)) = some r := by first | (rw [hy385]; with_reducible exact H) | (have H2_ := (Option.bind_some _ _).symm.trans H; rw [hy385]; with_reducible exact H2_) | (have H2_ := (Option.bind_some _ _).symm.trans H; with_reducible exact H2_) | with_reducible exact H | (rw [hy385]; exact H) | exact H
    have Ny385 := Aside0.mk hy385
    clear hy385
    by_cases c28 : 0 ≤ x5_1
    case neg =>
     rw [if_neg c28] at H
     exact absurd H (by simp)


    rw [if_pos c28] at H
    have c28b0 := eq_true c28
    have c28b1 : decide (0 ≤ x5_1) = true := decide_eq_true c28
    clear c28
    by_cases c29 : x5_1 ≤ (l0.length : Int)
    case neg =>
     rw [if_neg c29] at H
     exact absurd H (by simp)
    rw [if_pos c29] at H
    have c29b0 := eq_true c29
    have c29b1 : decide (x5_1 ≤ (l0.length : Int)) = true := decide_eq_true c29
    clear c29
    obtain ⟨y388, hy388⟩ : ∃ y_ : List (S160), y_ = (l0.take (x5_1 : Int).toNat) := ⟨_, rfl⟩
    replace H : (if y385.length + y388.length < 5864062014805 then ((some (y385 ++ y388 : List (S160))).bind fun y392 => ((some (([(⟨a1_0, a1_1, a1_2⟩ : S160)] : List (S160)) : List (S160))).bind fun y395 => (if y392.length + y395.length < 5864062014805 then ((some (y392 ++ y395 : List (S160))).bind fun y398 => ((some (l0.drop (x5_1 : Int).toNat : List (S160))).bind fun y401 => (if y398.length + y401.length < 5864062014805 then (some (y398 ++ y401)) else (none)))) else (none)))) else (none)) = some r := by first | (rw [hy388]; with_reducible exact H) | (have H2_ := (Option.bind_some _ _).symm.trans H; rw [hy388]; with_reducible exact H2_) | (have H2_ := (Option.bind_some _ _).symm.trans H; with_reducible exact H2_) | with_reducible exact H | (rw [hy388]; exact H) | exact H
    have Ny388 := Aside0.mk hy388
    clear hy388
    by_cases c30 : y385.length + y388.length < 5864062014805
    case neg =>
     rw [if_neg c30] at H
     exact absurd H (by simp)
    rw [if_pos c30] at H
    have LMc30 := Aside0.mk c30
    clear c30
    obtain ⟨y392, hy392⟩ : ∃ y_ : List (S160), y_ = (y385 ++ y388) := ⟨_, rfl⟩
    replace H : ((some (([(⟨a1_0, a1_1, a1_2⟩ : S160)] : List (S160)) : List (S160))).bind fun y395 => (if y392.length + y395.length < 5864062014805 then ((some (y392 ++ y395 : List (S160))).bind fun y398 => ((some (l0.drop (x5_1 : Int).toNat : List (S160))).bind fun y401 => (if y398.length + y401.length < 5864062014805 then (some (y398 ++ y401)) else (none)))) else (none))) = some r := by first | (rw [hy392]; with_reducible exact H) | (have H2_ := (Option.bind_some _ _).symm.trans H; rw [hy392]; with_reducible exact H2_) | (have H2_ := (Option.bind_some _ _).symm.trans H; with_reducible exact H2_) | with_reducible exact H | (rw [hy392]; exact H) | exact H
    have Ny392 := Aside0.mk hy392
    clear hy392
    obtain ⟨y395, hy395⟩ : ∃ y_ : List (S160), y_ = (([(⟨a1_0, a1_1, a1_2⟩ : S160)] : List (S160))) := ⟨_, rfl⟩
    replace H : (if y392.length + y395.length < 5864062014805 then ((some (y392 ++ y395 : List (S160))).bind fun y398 => ((some (l0.drop (x5_1 : Int).toNat : List (S160))).bind fun y401 => (if y398.length + y401.length < 5864062014805 then (some (y398 ++ y401)) else (none)))) else (none)) = some r := by first | (rw [hy395]; with_reducible exact H) | (have H2_ := (Option.bind_some _ _).symm.trans H; rw [hy395]; with_reducible exact H2_) | (have H2_ := (Option.bind_some _ _).symm.trans H; with_reducible exact H2_) | with_reducible exact H | (rw [hy395]; exact H) | exact H
    have Ny395 := Aside0.mk hy395
    clear hy395
    by_cases c31 : y392.length + y395.length < 5864062014805
    case neg =>
     rw [if_neg c31] at H
     exact absurd H (by simp)
    rw [if_pos c31] at H
    have LMc31 := Aside0.mk c31
    clear c31
    obtain ⟨y398, hy398⟩ : ∃ y_ : List (S160), y_ = (y392 ++ y395) := ⟨_, rfl⟩
    replace H : ((some (l0.drop (x5_1 : Int).toNat : List (S160))).bind fun y401 => (if y398.length + y401.length < 5864062014805 then (some (y398 ++ y401)) else (none))) = some r := by first | (rw [hy398]; with_reducible exact H) | (have H2_ := (Option.bind_some _ _).symm.trans H; rw [hy398]; with_reducible exact H2_) | (have H2_ := (Option.bind_some _ _).symm.trans H; with_reducible exact H2_) | with_reducible exact H | (rw [hy398]; exact H) | exact H
    have Ny398 := Aside0.mk hy398
    clear hy398
    have c32b0 := eq_true (od_ : 0 ≤ x5_1)
    have c33b0 := eq_true (od_ : x5_1 ≤ (l0.length : Int))
    obtain ⟨y401, hy401⟩ : ∃ y_ : List (S160), y_ = (l0.drop (x5_1 : Int).toNat) := ⟨_, rfl⟩
    replace H : (if y398.length + y401.length < 5864062014805 then (some (y398 ++ y401)) else (none)) = some r := by first | (rw [hy401]; with_reducible exact H) | (have H2_ := (Option.bind_some _ _).symm.trans H; rw [hy401]; with_reducible exact H2_) | (have H2_ := (Option.bind_some _ _).symm.trans H; with_reducible exact H2_) | with_reducible exact H | (rw [hy401]; exact H) | exact H
    have Ny401 := Aside0.mk hy401
    clear hy401
    by_cases c34 : y398.length + y401.length < 5864062014805
    case neg =>
     rw [if_neg c34] at H
     exact absurd H (by simp)
    rw [if_pos c34] at H
    have LMc34 := Aside0.mk c34
    clear c34
    obtain ⟨y405, hy405⟩ : ∃ y_ : List (S160), y_ = (y398 ++ y401) := ⟨_, rfl⟩
    replace H : (some y405) = some r := by first | (rw [hy405]; with_reducible exact H) | (have H2_ := (Option.bind_some _ _).symm.trans H; rw [hy405]; with_reducible exact H2_) | (have H2_ := (Option.bind_some _ _).symm.trans H; with_reducible exact H2_) | with_reducible exact H | (rw [hy405]; exact H) | exact H
    have Ny405 := Aside0.mk hy405
    clear hy405
    obtain rfl := Option.some.inj H
    try go_wp2
    replace BK360 := Aside0.mk (blk_drew BK360.out)
    replace HB := Aside0.mk (below_drew1 HB.out)
    refine start_ (n := 14) (S := fun w' => True) (ds := []) #[f_,f_,f_,f_,f_,f_,f_,f_,f_,f_,f_,f_,f_,f_] (by kernel_rfl) rfl rfl trivial (fun hHeld => ?_); refine with_tabW spec_l13With.tab2 spec_l13With.bits2 (fun HT_ HW_ => ?_)
    generalize wr.drew = w35 at BK360 HB hHeld ⊢
    refine pu_ 0 6 #[t_,f_,f_,f_,f_,f_,f_,f_,f_,f_,f_,f_,f_,f_] HT_.out ?_
    refine pu_ 1 7 #[t_,t_,f_,f_,f_,f_,f_,f_,f_,f_,f_,f_,f_,f_] HT_.out ?_
    refine pu_ 2 8 #[t_,t_,t_,f_,f_,f_,f_,f_,f_,f_,f_,f_,f_,f_] HT_.out ?_
    refine pu_ 3 9 #[t_,t_,t_,t_,f_,f_,f_,f_,f_,f_,f_,f_,f_,f_] HT_.out ?_
    refine pu_ 4 10 #[t_,t_,t_,t_,t_,f_,f_,f_,f_,f_,f_,f_,f_,f_] HT_.out ?_
    refine un_ 5 11 #[t_,t_,t_,t_,t_,t_,f_,f_,f_,f_,f_,f_,f_,f_] HT_.out ?_
    refine un_ 6 12 #[t_,t_,t_,t_,t_,t_,t_,f_,f_,f_,f_,f_,f_,f_] HT_.out ?_
    refine un_ 7 13 #[t_,t_,t_,t_,t_,t_,t_,t_,f_,f_,f_,f_,f_,f_] HT_.out ?_
    refine un_ 8 14 #[t_,t_,t_,t_,t_,t_,t_,t_,t_,f_,f_,f_,f_,f_] HT_.out ?_
    refine un_ 9 15 #[t_,t_,t_,t_,t_,t_,t_,t_,t_,t_,f_,f_,f_,f_] HT_.out ?_
    refine un_ 10 16 #[t_,t_,t_,t_,t_,t_,t_,t_,t_,t_,t_,f_,f_,f_] HT_.out ?_
    refine un_ 11 17 #[t_,t_,t_,t_,t_,t_,t_,t_,t_,t_,t_,t_,f_,f_] HT_.out ?_
    refine un_ 12 18 #[t_,t_,t_,t_,t_,t_,t_,t_,t_,t_,t_,t_,t_,f_] HT_.out ?_
    refine pu_ 13 19 #[t_,t_,t_,t_,t_,t_,t_,t_,t_,t_,t_,t_,t_,t_] HT_.out ?_
    refine done_ (done_of HT_.out (by kernel_rfl)) ?_
    try go_wp2
    replace BK360 := Aside0.mk (blk_drew BK360.out)
    replace HB := Aside0.mk (below_drew1 HB.out)
    have q37 : (x5_1 : Int) ≤ ((l0.length : Int) : Int) := od_
    obtain ⟨i037, hi037, _, hsz37, _⟩ := info_parts info160
    have hroom37 : l0.length ≤ c0 := HC0.out
    have hC37 : Kd.C k160 _ A0 l0.length l0 := HR0.out
    have hcut37 := cut_to (P := Try.prog) 44 160 .i64 Try.underlying44 hi037 A0 l0.length c0 x5_1 od_ q37 hroom37
    have hr37 := Kd.C_take (m := (x5_1 : Int).toNat) hC37 (by omega)
    have hy37 : y388.length = (x5_1 : Int).toNat := (by rw [Ny388.out, List.length_take]; omega)
    rw [← Ny388.out] at hr37
    rw [← hy37] at hcut37
    have HR391 := Aside0.mk hr37
    have HC391 := Aside0.mk (show y388.length ≤ c0 from by omega)
    clear hr37 hC37 hroom37 hi037 hsz37
    have KY37 := Aside0.mk hy37
    clear hy37
    replace q37 := eq_true q37
    have q38 : (x5_1 : Int) ≤ ((l0.length : Int) : Int) := od_
    obtain ⟨i038, hi038, _, hsz38, _⟩ := info_parts info160
    have hroom38 : l0.length ≤ c0 := HC0.out
    have hC38 : Kd.C k160 _ A0 l0.length l0 := HR0.out
    have q038 : (0 : Int) ≤ (x5_1 : Int) := od_
    have hcut38 := cut_from (P := Try.prog) 44 160 .i64 Try.underlying44 hi038 3 hsz38 A0 l0.length c0 x5_1 q038 q38
    have hr38 := Kd.C_drop (m := (x5_1 : Int).toNat) (c := c0) hC38 (by omega) hroom38
    obtain ⟨A38, hA38⟩ : ∃ A1, A1 = (if c0 = (x5_1 : Int).toNat then A0 else (A0 : Option Addr).map (·.add ((x5_1 : Int).toNat * 3))) := ⟨_, rfl⟩
    obtain ⟨c38, hc38⟩ : ∃ c1, c1 = c0 - (x5_1 : Int).toNat := ⟨_, rfl⟩
    have hy38 : y401.length = l0.length - (x5_1 : Int).toNat := (by rw [Ny401.out, List.length_drop] <;> omega)
    rw [show (l0).drop (x5_1 : Int).toNat = y401 from Ny401.out.symm] at hr38
    replace hr38 : Kd.C k160 _ A38 y401.length y401 := (by rw [hA38]; exact hr38)
    rw [← hy38, ← hA38, ← hc38] at hcut38
    have HR404 := Aside0.mk hr38
    have HC404 := Aside0.mk (show y401.length ≤ c38 from by rw [hy38, hc38]; exact Nat.sub_le_sub_right hroom38 _)
    clear hr38 hC38 hroom38 hi038 hsz38 hc38
    have KY38 := Aside0.mk hy38
    have KA38 := Aside0.mk hA38
    clear hy38 hA38
    replace q38 := eq_true q38
    refine start_ (n := 13) (S := fun w' => w'.cell? ⟨gb360, 0, none⟩ = some (.int .i64 a1_0) ∧ w'.cell? ⟨gb360, 1, none⟩ = some (.int .i64 a1_1) ∧ w'.cell? ⟨gb360, 2, none⟩ = some (.int .i64 a1_2)) (ds := []) #[f_,f_,f_,f_,f_,f_,f_,f_,f_,f_,f_,f_,f_] (by kernel_rfl) rfl rfl ⟨(blk_cell BK360.out 0).trans rfl, (blk_cell BK360.out 1).trans rfl, (blk_cell BK360.out 2).trans rfl⟩ (fun hHeld => ?_); refine with_tabW spec_l13With.tab4 spec_l13With.bits4 (fun HT_ HW_ => ?_)
    generalize w35.drew = w36 at BK360 HB HR391 HR404 hHeld ⊢
    refine pu_ 1 23 #[f_,t_,f_,f_,f_,f_,f_,f_,f_,f_,f_,f_,f_] HT_.out ?_
    refine pu_ 2 24 #[f_,t_,t_,f_,f_,f_,f_,f_,f_,f_,f_,f_,f_] HT_.out ?_
    refine pu_ 3 25 #[f_,t_,t_,t_,f_,f_,f_,f_,f_,f_,f_,f_,f_] HT_.out ?_
    refine pu_ 8 30 #[f_,t_,t_,t_,f_,f_,f_,f_,t_,f_,f_,f_,f_] HT_.out ?_
    refine pu_ 9 31 #[f_,t_,t_,t_,f_,f_,f_,f_,t_,t_,f_,f_,f_] HT_.out ?_
    refine pu_ 10 32 #[f_,t_,t_,t_,f_,f_,f_,f_,t_,t_,t_,f_,f_] HT_.out ?_
    refine take_ (i := 5) (N := some 27) (v := ?_) (a' := ?_) #[f_,t_,t_,t_,f_,t_,f_,f_,t_,t_,t_,f_,f_] rfl rfl (take_ofW HT_.out HW_.out (by kernel_rfl)) (fun _ _ _ h => h) (Or.inl ⟨by rfl, ?_⟩) hHeld ?_ ?_
    rotate_left
    ·rintro w' ⟨s0, s1, s2⟩
     go_simp
     with_reducible rfl
    rotate_left
    ·simp only [pz_]
     rfl
    refine join_ (σ := Value × Value × Value) 3 #[t_,t_,t_,t_,t_,t_,t_,f_,t_,t_,t_,f_,f_] (fun s_ => [(22, s_.1), (26, s_.2.1), (28, s_.2.2)]) (fun s_ w' => (w'.cell? ⟨gb360, 0, none⟩ = some (.int .i64 a1_0) ∧ w'.cell? ⟨gb360, 1, none⟩ = some (.int .i64 a1_1) ∧ w'.cell? ⟨gb360, 2, none⟩ = some (.int .i64 a1_2)) ∧ (Kd.R k160 160 w' w.heap.size (fun k_ => some k_ ≠ (s_.2.2 : Value).ownBlock ∧ k_ ≠ gb360) s_.2.1 y392) ∧ (Kd.R k160 160 w' w.heap.size (fun k_ => some k_ ≠ (s_.2.1 : Value).ownBlock ∧ k_ ≠ gb360) s_.2.2 y395) ∧ (w'.heap[gb360]? = some (.cells #[.int .i64 a1_0, .int .i64 a1_1, .int .i64 a1_2] 160 (0, 0))) ∧ (Below w.heap.size w w')) ?_ ?_
    rotate_left
    ·intro hCont
     refine two_ (i := 0) (j := 6) (Ni := some 22) (Nj := some 28) #[t_,t_,t_,t_,f_,t_,f_,f_,t_,t_,t_,f_,f_] #[f_,t_,t_,t_,f_,t_,t_,f_,t_,t_,t_,f_,f_] rfl rfl rfl rfl (two_of HT_.out (by kernel_rfl)) (by decide) (by decide) (fun K hK => ?_) (fun K hK => ?_)
     ·skip
      refine Kd.R_lit_step k160 _ 160 ?hg (N := 22) ?hd (xs := ([] : List (S160))) (inner := []) (ok := fun _ => True) (okp := fun _ => True) ?hr ?hp (fun _ hk => hk) trivial (Below.refl _ _) (Nat.le_refl _) (by simp) ?_; (case hd => rfl); (case hg => rfl); (case hr => first | (go_simp; done) | (go_simp; rfl)); (case hp => exact (Reps.none _ _))
      intro v386 w39 ho40 hb hg_ hnew_
      clear hg_ hnew_
      (first | rw [← Ny385.out] at ho40 | (simp only [Int.reduceToNat] at ho40; rw [← Ny385.out] at ho40))
      have HO387 := Aside0.mk (Kd.R_lower (Kd.R_newB ho40 (g := gb360) (o := .cells #[.int .i64 a1_0, .int .i64 a1_1, .int .i64 a1_2] 160 (0, 0)) (r2_ BK360.out)) (below_size (r4_ HB.out GE360.out)))
      replace BK360 := Aside0.mk (blk_below (g := gb360) (o := .cells #[.int .i64 a1_0, .int .i64 a1_1, .int .i64 a1_2] 160 (0, 0)) (r2_ BK360.out) hb)
      replace HB := Aside0.mk (below_step (r4_ HB.out GE360.out) hb)
      clear hb ho40
      refine hK.out _ _ ⟨(blk_cell BK360.out 0).trans rfl, (blk_cell BK360.out 1).trans rfl, (blk_cell BK360.out 2).trans rfl⟩ (fun hHeld => ?_)
      clear hK K
      refine norm_ (a' := ?_) ?_ ?_
      rotate_left
      ·show Act.put _ (some 22) _ = _
       simp only [pz_]
       rfl
      refine two_ (i := 4) (j := 6) (Ni := some 26) (Nj := some 28) #[t_,t_,t_,t_,t_,t_,f_,f_,t_,t_,t_,f_,f_] #[t_,t_,t_,t_,f_,t_,t_,f_,t_,t_,t_,f_,f_] rfl rfl rfl rfl (two_of HT_.out (by kernel_rfl)) (by decide) (by decide) (fun K hK => ?_) (fun K hK => ?_)
      ·skip
       refine Kd.R_append_rows_step k160 (w0 := w) w.heap.size (by rfl) (.tmp 22) (.tmp 25) 44 160 (.agg #[(.int .i64 0), (.int .i64 0), (.int .i64 0)]) 24 rfl Try.underlying44 info160 rfl (by decide) (by omega) v386 y385 y388 _ _ _ (fun k_ => k_ ≠ gb360) (fun _ => False) rfl rfl ?aO ?aR (fun _ _ h => h) (fun _ h => h.elim) ?aF ?aB ?aS ?aL ?_
       (case aR => exact r5_ HR391.out HB.out)
       (case aB => exact (r4_ HB.out GE360.out))
       (case aF => exact (fun k_ hk => Kd.freshB (g := gb360) (o := .cells #[.int .i64 a1_0, .int .i64 a1_1, .int .i64 a1_2] 160 (0, 0)) (r2_ BK360.out) k_ hk))
       (case aO => exact (rk_ (Kd.R_mono HO387.out (fun _ hk => hk.2))))
       (case aS => exact (below_size (r4_ HB.out GE360.out)))
       (case aL => have := LMc30.out; omega)
       intro v393 w41 ho hb hg hat
       rw [← Ny392.out] at ho
       have n0_ := Aside0.mk (blk_grown (g := gb360) (o := .cells #[.int .i64 a1_0, .int .i64 a1_1, .int .i64 a1_2] 160 (0, 0)) (r2_ BK360.out) hg (Kd.R_away HO387.out (fun _ hk => hk.2)))
       have n1_ := Aside0.mk (hb)
       have n2_ := Aside0.mk (ho)
       clear BK360
       clear HB
       clear HO387
       have BK360 := n0_
       have HB := n1_
       have HO394 := n2_
       clear n0_ n1_ n2_
       clear ho hb hg hat
       refine hK.out _ _ ⟨(blk_cell BK360.out 0).trans rfl, (blk_cell BK360.out 1).trans rfl, (blk_cell BK360.out 2).trans rfl⟩ (fun hHeld => ?_)
       clear hK K
       refine norm_ (a' := ?_) ?_ ?_
       rotate_left
       ·show Act.put _ (some 26) _ = _
        simp only [pz_]
        rfl
       refine one_ (i := 6) (N := some 28) #[t_,t_,t_,t_,t_,t_,t_,f_,t_,t_,t_,f_,f_] rfl rfl (one_of HT_.out (by kernel_rfl)) (by decide) (fun K hK => ?_)
       refine Kd.R_lit_step k160 _ 160 ?hg (N := 28) ?hd (xs := ([(⟨a1_0, a1_1, a1_2⟩ : S160)] : List (S160))) (inner := [.int .i64 a1_0, .int .i64 a1_1, .int .i64 a1_2]) (ok := fun _ => True) (okp := fun _ => True) ?hr ?hp (fun _ hk => hk) trivial (Below.refl _ _) (Nat.le_refl _) (by simp) ?_; (case hd => rfl); (case hg => rfl); (case hr => first | (go_simp; done) | (go_simp; rfl)); (case hp => exact (Reps.c3 (show Kd.M k160 _ _ _ (⟨a1_0, a1_1, a1_2⟩ : S160) [.int .i64 a1_0, .int .i64 a1_1, .int .i64 a1_2] from (k160_mkM _ _ _ (⟨a1_0, a1_1, a1_2⟩ : S160) )) (Reps.none _ _)))
       intro v396 w42 ho43 hb hg_ hnew_
       clear hg_ hnew_
       (first | rw [← Ny395.out] at ho43 | (simp only [Int.reduceToNat] at ho43; rw [← Ny395.out] at ho43))
       have HO397 := Aside0.mk (Kd.R_lower (Kd.R_newB (Kd.R_new' ho43 (Kd.R_lt (rk_ HO394.out))) (g := gb360) (o := .cells #[.int .i64 a1_0, .int .i64 a1_1, .int .i64 a1_2] 160 (0, 0)) (r2_ BK360.out)) (below_size (r4_ HB.out GE360.out)))
       replace HO394 := Aside0.mk (Kd.R_elder' (rk_ HO394.out) (Kd.R_base ho43) hb)
       replace BK360 := Aside0.mk (blk_below (g := gb360) (o := .cells #[.int .i64 a1_0, .int .i64 a1_1, .int .i64 a1_2] 160 (0, 0)) (r2_ BK360.out) hb)
       replace HB := Aside0.mk (below_step (r4_ HB.out GE360.out) hb)
       clear hb ho43
       refine hK.out _ _ ⟨(blk_cell BK360.out 0).trans rfl, (blk_cell BK360.out 1).trans rfl, (blk_cell BK360.out 2).trans rfl⟩ (fun hHeld => ?_)
       clear hK K
       refine norm_ (a' := ?_) ?_ ?_
       rotate_left
       ·show Act.put _ (some 28) _ = _
        simp only [pz_]
        rfl
       exact norm_ (by simp only [putAll, Act.put, List.setIfInBounds_toArray, List.set_cons_zero, List.set_cons_succ]) (hCont (v386, v393, v396) _ ⟨hHeld, (rk_ (Kd.R_mono HO394.out (fun _ hk => ⟨hk.2, hk.1⟩))), (rk_ (Kd.R_mono HO397.out (fun _ hk => ⟨hk.1.2, hk.2⟩))), (r2_ BK360.out), (r4_ HB.out GE360.out)⟩)
      ·skip
       refine Kd.R_lit_step k160 _ 160 ?hg (N := 28) ?hd (xs := ([(⟨a1_0, a1_1, a1_2⟩ : S160)] : List (S160))) (inner := [.int .i64 a1_0, .int .i64 a1_1, .int .i64 a1_2]) (ok := fun _ => True) (okp := fun _ => True) ?hr ?hp (fun _ hk => hk) trivial (Below.refl _ _) (Nat.le_refl _) (by simp) ?_; (case hd => rfl); (case hg => rfl); (case hr => first | (go_simp; done) | (go_simp; rfl)); (case hp => exact (Reps.c3 (show Kd.M k160 _ _ _ (⟨a1_0, a1_1, a1_2⟩ : S160) [.int .i64 a1_0, .int .i64 a1_1, .int .i64 a1_2] from (k160_mkM _ _ _ (⟨a1_0, a1_1, a1_2⟩ : S160) )) (Reps.none _ _)))
       intro v396 w41 ho42 hb hg_ hnew_
       clear hg_ hnew_
       (first | rw [← Ny395.out] at ho42 | (simp only [Int.reduceToNat] at ho42; rw [← Ny395.out] at ho42))
       have HO397 := Aside0.mk (Kd.R_lower (Kd.R_newB (Kd.R_new' ho42 (Kd.R_lt (rk_ HO387.out))) (g := gb360) (o := .cells #[.int .i64 a1_0, .int .i64 a1_1, .int .i64 a1_2] 160 (0, 0)) (r2_ BK360.out)) (below_size (r4_ HB.out GE360.out)))
       replace HO387 := Aside0.mk (Kd.R_elder' (rk_ HO387.out) (Kd.R_base ho42) hb)
       replace BK360 := Aside0.mk (blk_below (g := gb360) (o := .cells #[.int .i64 a1_0, .int .i64 a1_1, .int .i64 a1_2] 160 (0, 0)) (r2_ BK360.out) hb)
       replace HB := Aside0.mk (below_step (r4_ HB.out GE360.out) hb)
       clear hb ho42
       refine hK.out _ _ ⟨(blk_cell BK360.out 0).trans rfl, (blk_cell BK360.out 1).trans rfl, (blk_cell BK360.out 2).trans rfl⟩ (fun hHeld => ?_)
       clear hK K
       refine norm_ (a' := ?_) ?_ ?_
       rotate_left
       ·show Act.put _ (some 28) _ = _
        simp only [pz_]
        rfl
       refine one_ (i := 4) (N := some 26) #[t_,t_,t_,t_,t_,t_,t_,f_,t_,t_,t_,f_,f_] rfl rfl (one_of HT_.out (by kernel_rfl)) (by decide) (fun K hK => ?_)
       refine Kd.R_append_rows_step k160 (w0 := w) w.heap.size (by rfl) (.tmp 22) (.tmp 25) 44 160 (.agg #[(.int .i64 0), (.int .i64 0), (.int .i64 0)]) 24 rfl Try.underlying44 info160 rfl (by decide) (by omega) v386 y385 y388 _ _ _ (fun k_ => some k_ ≠ (v396 : Value).ownBlock ∧ k_ ≠ gb360) (fun _ => False) rfl rfl ?aO ?aR (fun _ _ h => h) (fun _ h => h.elim) ?aF ?aB ?aS ?aL ?_
       (case aR => exact r5_ HR391.out HB.out)
       (case aB => exact (r4_ HB.out GE360.out))
       (case aF => exact (fun k_ hk => ⟨Kd.fresh' (Kd.R_lt (rk_ HO397.out)) k_ hk, Kd.freshB (g := gb360) (o := .cells #[.int .i64 a1_0, .int .i64 a1_1, .int .i64 a1_2] 160 (0, 0)) (r2_ BK360.out) k_ hk⟩))
       (case aO => exact (rk_ (Kd.R_mono HO387.out (fun _ hk => ⟨hk.2, hk.1.2⟩))))
       (case aS => exact (below_size (r4_ HB.out GE360.out)))
       (case aL => have := LMc30.out; omega)
       intro v393 w43 ho hb hg hat
       rw [← Ny392.out] at ho
       have n0_ := Aside0.mk (blk_grown (g := gb360) (o := .cells #[.int .i64 a1_0, .int .i64 a1_1, .int .i64 a1_2] 160 (0, 0)) (r2_ BK360.out) hg (Kd.R_away HO387.out (fun _ hk => hk.1.2)))
       have n1_ := Aside0.mk (Kd.R_after (ok := (fun k_ => k_ ≠ gb360)) (rk_ (Kd.R_mono HO397.out (fun _ hk => ⟨hk.2, hk.1.2⟩))) hg hat)
       have n2_ := Aside0.mk (hb)
       have n3_ := Aside0.mk (ho)
       clear BK360
       clear HO397
       clear HB
       clear HO387
       have BK360 := n0_
       have HO397 := n1_
       have HB := n2_
       have HO394 := n3_
       clear n0_ n1_ n2_ n3_
       clear ho hb hg hat
       refine hK.out _ _ ⟨(blk_cell BK360.out 0).trans rfl, (blk_cell BK360.out 1).trans rfl, (blk_cell BK360.out 2).trans rfl⟩ (fun hHeld => ?_)
       clear hK K
       refine norm_ (a' := ?_) ?_ ?_
       rotate_left
       ·show Act.put _ (some 26) _ = _
        simp only [pz_]
        rfl
       exact norm_ (by simp only [putAll, Act.put, List.setIfInBounds_toArray, List.set_cons_zero, List.set_cons_succ]) (hCont (v386, v393, v396) _ ⟨hHeld, (rk_ HO394.out), (rk_ (Kd.R_mono HO397.out (fun _ hk => ⟨hk.2, hk.1⟩))), (r2_ BK360.out), (r4_ HB.out GE360.out)⟩)
     ·skip
      refine Kd.R_lit_step k160 _ 160 ?hg (N := 28) ?hd (xs := ([(⟨a1_0, a1_1, a1_2⟩ : S160)] : List (S160))) (inner := [.int .i64 a1_0, .int .i64 a1_1, .int .i64 a1_2]) (ok := fun _ => True) (okp := fun _ => True) ?hr ?hp (fun _ hk => hk) trivial (Below.refl _ _) (Nat.le_refl _) (by simp) ?_; (case hd => rfl); (case hg => rfl); (case hr => first | (go_simp; done) | (go_simp; rfl)); (case hp => exact (Reps.c3 (show Kd.M k160 _ _ _ (⟨a1_0, a1_1, a1_2⟩ : S160) [.int .i64 a1_0, .int .i64 a1_1, .int .i64 a1_2] from (k160_mkM _ _ _ (⟨a1_0, a1_1, a1_2⟩ : S160) )) (Reps.none _ _)))
      intro v396 w39 ho40 hb hg_ hnew_
      clear hg_ hnew_
      (first | rw [← Ny395.out] at ho40 | (simp only [Int.reduceToNat] at ho40; rw [← Ny395.out] at ho40))
      have HO397 := Aside0.mk (Kd.R_lower (Kd.R_newB ho40 (g := gb360) (o := .cells #[.int .i64 a1_0, .int .i64 a1_1, .int .i64 a1_2] 160 (0, 0)) (r2_ BK360.out)) (below_size (r4_ HB.out GE360.out)))
      replace BK360 := Aside0.mk (blk_below (g := gb360) (o := .cells #[.int .i64 a1_0, .int .i64 a1_1, .int .i64 a1_2] 160 (0, 0)) (r2_ BK360.out) hb)
      replace HB := Aside0.mk (below_step (r4_ HB.out GE360.out) hb)
      clear hb ho40
      refine hK.out _ _ ⟨(blk_cell BK360.out 0).trans rfl, (blk_cell BK360.out 1).trans rfl, (blk_cell BK360.out 2).trans rfl⟩ (fun hHeld => ?_)
      clear hK K
      refine norm_ (a' := ?_) ?_ ?_
      rotate_left
      ·show Act.put _ (some 28) _ = _
       simp only [pz_]
       rfl
      refine one_ (i := 0) (N := some 22) #[t_,t_,t_,t_,f_,t_,t_,f_,t_,t_,t_,f_,f_] rfl rfl (one_of HT_.out (by kernel_rfl)) (by decide) (fun K hK => ?_)
      refine Kd.R_lit_step k160 _ 160 ?hg (N := 22) ?hd (xs := ([] : List (S160))) (inner := []) (ok := fun _ => True) (okp := fun _ => True) ?hr ?hp (fun _ hk => hk) trivial (Below.refl _ _) (Nat.le_refl _) (by simp) ?_; (case hd => rfl); (case hg => rfl); (case hr => first | (go_simp; done) | (go_simp; rfl)); (case hp => exact (Reps.none _ _))
      intro v386 w41 ho42 hb hg_ hnew_
      clear hg_ hnew_
      (first | rw [← Ny385.out] at ho42 | (simp only [Int.reduceToNat] at ho42; rw [← Ny385.out] at ho42))
      have HO387 := Aside0.mk (Kd.R_lower (Kd.R_newB (Kd.R_new' ho42 (Kd.R_lt (rk_ HO397.out))) (g := gb360) (o := .cells #[.int .i64 a1_0, .int .i64 a1_1, .int .i64 a1_2] 160 (0, 0)) (r2_ BK360.out)) (below_size (r4_ HB.out GE360.out)))
      replace HO397 := Aside0.mk (Kd.R_elder' (rk_ HO397.out) (Kd.R_base ho42) hb)
      replace BK360 := Aside0.mk (blk_below (g := gb360) (o := .cells #[.int .i64 a1_0, .int .i64 a1_1, .int .i64 a1_2] 160 (0, 0)) (r2_ BK360.out) hb)
      replace HB := Aside0.mk (below_step (r4_ HB.out GE360.out) hb)
      clear hb ho42
      refine hK.out _ _ ⟨(blk_cell BK360.out 0).trans rfl, (blk_cell BK360.out 1).trans rfl, (blk_cell BK360.out 2).trans rfl⟩ (fun hHeld => ?_)
      clear hK K
      refine norm_ (a' := ?_) ?_ ?_
      rotate_left
      ·show Act.put _ (some 22) _ = _
       simp only [pz_]
       rfl
      refine one_ (i := 4) (N := some 26) #[t_,t_,t_,t_,t_,t_,t_,f_,t_,t_,t_,f_,f_] rfl rfl (one_of HT_.out (by kernel_rfl)) (by decide) (fun K hK => ?_)
      refine Kd.R_append_rows_step k160 (w0 := w) w.heap.size (by rfl) (.tmp 22) (.tmp 25) 44 160 (.agg #[(.int .i64 0), (.int .i64 0), (.int .i64 0)]) 24 rfl Try.underlying44 info160 rfl (by decide) (by omega) v386 y385 y388 _ _ _ (fun k_ => some k_ ≠ (v396 : Value).ownBlock ∧ k_ ≠ gb360) (fun _ => False) rfl rfl ?aO ?aR (fun _ _ h => h) (fun _ h => h.elim) ?aF ?aB ?aS ?aL ?_
      (case aR => exact r5_ HR391.out HB.out)
      (case aB => exact (r4_ HB.out GE360.out))
      (case aF => exact (fun k_ hk => ⟨Kd.fresh' (Kd.R_lt (rk_ HO397.out)) k_ hk, Kd.freshB (g := gb360) (o := .cells #[.int .i64 a1_0, .int .i64 a1_1, .int .i64 a1_2] 160 (0, 0)) (r2_ BK360.out) k_ hk⟩))
      (case aO => exact (rk_ (Kd.R_mono HO387.out (fun _ hk => ⟨hk.1.2, hk.2⟩))))
      (case aS => exact (below_size (r4_ HB.out GE360.out)))
      (case aL => have := LMc30.out; omega)
      intro v393 w43 ho hb hg hat
      rw [← Ny392.out] at ho
      have n0_ := Aside0.mk (blk_grown (g := gb360) (o := .cells #[.int .i64 a1_0, .int .i64 a1_1, .int .i64 a1_2] 160 (0, 0)) (r2_ BK360.out) hg (Kd.R_away HO387.out (fun _ hk => hk.2)))
      have n1_ := Aside0.mk (Kd.R_after (ok := (fun k_ => k_ ≠ gb360)) (rk_ (Kd.R_mono HO397.out (fun _ hk => ⟨hk.1.2, hk.2⟩))) hg hat)
      have n2_ := Aside0.mk (hb)
      have n3_ := Aside0.mk (ho)
      clear BK360
      clear HO397
      clear HB
      clear HO387
      have BK360 := n0_
      have HO397 := n1_
      have HB := n2_
      have HO394 := n3_
      clear n0_ n1_ n2_ n3_
      clear ho hb hg hat
      refine hK.out _ _ ⟨(blk_cell BK360.out 0).trans rfl, (blk_cell BK360.out 1).trans rfl, (blk_cell BK360.out 2).trans rfl⟩ (fun hHeld => ?_)
      clear hK K
      refine norm_ (a' := ?_) ?_ ?_
      rotate_left
      ·show Act.put _ (some 26) _ = _
       simp only [pz_]
       rfl
      exact norm_ (by simp only [putAll, Act.put, List.setIfInBounds_toArray, List.set_cons_zero, List.set_cons_succ]) (hCont (v386, v393, v396) _ ⟨hHeld, (rk_ HO394.out), (rk_ (Kd.R_mono HO397.out (fun _ hk => ⟨hk.2, hk.1⟩))), (r2_ BK360.out), (r4_ HB.out GE360.out)⟩)
    rintro ⟨v386, v393, v396⟩ w44 ⟨hS_, h0_, h1_, h2_, h3_⟩
    have n0_ : Aside0 (Kd.R k160 160 w44 w.heap.size (fun k_ => some k_ ≠ (v396 : Value).ownBlock ∧ k_ ≠ gb360) v393 y392) := ⟨h0_⟩
    have n1_ : Aside0 (Kd.R k160 160 w44 w.heap.size (fun k_ => some k_ ≠ (v393 : Value).ownBlock ∧ k_ ≠ gb360) v396 y395) := ⟨h1_⟩
    have n2_ : Aside0 (w44.heap[gb360]? = some (.cells #[.int .i64 a1_0, .int .i64 a1_1, .int .i64 a1_2] 160 (0, 0))) := ⟨h2_⟩
    have n3_ : Aside0 (Below w.heap.size w w44) := ⟨h3_⟩
    clear BK360
    clear HB
    clear h0_ h1_ h2_ h3_
    have HO394 := n0_
    have HO397 := n1_
    have BK360 := n2_
    have HB := n3_
    clear n0_ n1_ n2_ n3_
    have hHeld : w44.cell? ⟨gb360, 0, none⟩ = some (.int .i64 a1_0) ∧ w44.cell? ⟨gb360, 1, none⟩ = some (.int .i64 a1_1) ∧ w44.cell? ⟨gb360, 2, none⟩ = some (.int .i64 a1_2) := hS_
    obtain ⟨Ao46, co46, eo46⟩ := Kd.R_slice HO397.out
    (first | subst eo46 | (injection eo46 with f1_ f2_ f3_; have f4_ := f1_.symm; have f5_ := f3_.symm; clear f1_ f2_ f3_; subst f4_; subst f5_))
    refine norm_ (a' := ?_) ?_ ?_
    rotate_left
    ·simp only [putAll, Act.put, List.setIfInBounds_toArray, List.set_cons_zero, List.set_cons_succ]
     rfl
    refine one_ (i := 7) (N := some 29) #[t_,t_,t_,t_,t_,t_,t_,t_,t_,t_,t_,f_,f_] rfl rfl (one_of HT_.out (by kernel_rfl)) (by decide) (fun K hK => ?_)
    refine Kd.R_append_rows_step k160 (w0 := w) w.heap.size (by rfl) (.tmp 26) (.tmp 28) 44 160 (.agg #[(.int .i64 0), (.int .i64 0), (.int .i64 0)]) 24 rfl Try.underlying44 info160 rfl (by decide) (by omega) v393 y392 y395 _ _ _ (fun k_ => some k_ ≠ (.slice Ao46 y395.length co46 : Value).ownBlock ∧ k_ ≠ gb360) (fun _ => False) rfl rfl ?aO ?aR (fun _ _ h => h) (fun _ h => h.elim) ?aF ?aB ?aS ?aL ?_
    (case aR => exact r7_ HO397.out)
    (case aB => exact (r4_ HB.out GE360.out))
    (case aF => exact (fun k_ hk => ⟨Kd.fresh' (Kd.R_lt (rk_ HO397.out)) k_ hk, Kd.freshB (g := gb360) (o := .cells #[.int .i64 a1_0, .int .i64 a1_1, .int .i64 a1_2] 160 (0, 0)) (r2_ BK360.out) k_ hk⟩))
    (case aO => exact (rk_ HO394.out))
    (case aS => exact (below_size (r4_ HB.out GE360.out)))
    (case aL => have := LMc31.out; omega)
    intro v399 w45 ho hb hg hat
    rw [← Ny398.out] at ho
    have n0_ := Aside0.mk (blk_grown (g := gb360) (o := .cells #[.int .i64 a1_0, .int .i64 a1_1, .int .i64 a1_2] 160 (0, 0)) (r2_ BK360.out) hg (Kd.R_away HO394.out (fun _ hk => hk.2)))
    have n1_ := Aside0.mk (Kd.R_after (ok := (fun k_ => k_ ≠ gb360)) (rk_ (Kd.R_mono HO397.out (fun _ hk => ⟨hk.2, hk.1⟩))) hg hat)
    have n2_ := Aside0.mk (hb)
    have n3_ := Aside0.mk (ho)
    clear BK360
    clear HO397
    clear HB
    clear HO394
    have BK360 := n0_
    have HO397 := n1_
    have HB := n2_
    have HO400 := n3_
    clear n0_ n1_ n2_ n3_
    clear ho hb hg hat
    refine hK.out _ _ ⟨(blk_cell BK360.out 0).trans rfl, (blk_cell BK360.out 1).trans rfl, (blk_cell BK360.out 2).trans rfl⟩ (fun hHeld => ?_)
    clear hK K
    refine norm_ (a' := ?_) ?_ ?_
    rotate_left
    ·show Act.put _ (some 29) _ = _
     simp only [pz_]
     rfl
    refine one_ (i := 11) (N := some 33) #[t_,t_,t_,t_,t_,t_,t_,t_,t_,t_,t_,t_,f_] rfl rfl (one_of HT_.out (by kernel_rfl)) (by decide) (fun K hK => ?_)
    refine Kd.R_append_rows_step k160 (w0 := w) w.heap.size (by rfl) (.tmp 29) (.tmp 32) 44 160 (.agg #[(.int .i64 0), (.int .i64 0), (.int .i64 0)]) 24 rfl Try.underlying44 info160 rfl (by decide) (by omega) v399 y398 y401 _ _ _ (fun k_ => some k_ ≠ (.slice Ao46 y395.length co46 : Value).ownBlock ∧ k_ ≠ gb360) (fun _ => False) rfl rfl ?aO ?aR (fun _ _ h => h) (fun _ h => h.elim) ?aF ?aB ?aS ?aL ?_
    (case aR => exact r5_ HR404.out HB.out)
    (case aB => exact (r4_ HB.out GE360.out))
    (case aF => exact (fun k_ hk => ⟨Kd.fresh' (Kd.R_lt (rk_ HO397.out)) k_ hk, Kd.freshB (g := gb360) (o := .cells #[.int .i64 a1_0, .int .i64 a1_1, .int .i64 a1_2] 160 (0, 0)) (r2_ BK360.out) k_ hk⟩))
    (case aO => exact (rk_ HO400.out))
    (case aS => exact (below_size (r4_ HB.out GE360.out)))
    (case aL => have := LMc34.out; omega)
    intro v406 w47 ho hb hg hat
    rw [← Ny405.out] at ho
    have n0_ := Aside0.mk (blk_grown (g := gb360) (o := .cells #[.int .i64 a1_0, .int .i64 a1_1, .int .i64 a1_2] 160 (0, 0)) (r2_ BK360.out) hg (Kd.R_away HO400.out (fun _ hk => hk.2)))
    have n1_ := Aside0.mk (Kd.R_after (ok := (fun k_ => k_ ≠ gb360)) (rk_ HO397.out) hg hat)
    have n2_ := Aside0.mk (hb)
    have n3_ := Aside0.mk (ho)
    clear BK360
    clear HO397
    clear HB
    clear HO400
    have BK360 := n0_
    have HO397 := n1_
    have HB := n2_
    have HO407 := n3_
    clear n0_ n1_ n2_ n3_
    clear ho hb hg hat
    refine hK.out _ _ ⟨(blk_cell BK360.out 0).trans rfl, (blk_cell BK360.out 1).trans rfl, (blk_cell BK360.out 2).trans rfl⟩ (fun hHeld => ?_)
    clear hK K
    refine norm_ (a' := ?_) ?_ ?_
    rotate_left
    ·show Act.put _ (some 33) _ = _
     simp only [pz_]
     rfl
    refine pu_ 12 4 #[t_,t_,t_,t_,t_,t_,t_,t_,t_,t_,t_,t_,t_] HT_.out ?_
    refine done_ (done_of HT_.out (by kernel_rfl)) ?_
    try go_wp2
    go_ret
    exact ⟨_, by first | rfl | (simp [errW_none, errW_some] <;> rfl) | (simp [*, errW_none, errW_some] <;> rfl), rk_ (Kd.R_mono HO407.out (fun _ hk => trivial)), r4_ HB.out GE360.out⟩
end Go.Proofs.Ytedcdhnbceaaeaa.PFnWired
