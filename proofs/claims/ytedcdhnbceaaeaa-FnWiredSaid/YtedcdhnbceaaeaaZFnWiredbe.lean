/- QFnWiredh of the law FnWired: taken over, declaration by declaration, as far as the law leans on it (the words and the printed functions are the kit's own print). No condition but what each says. -/
import Derived.Test.YtedcdhnbceaaeaaZFnWiredav
import Derived.Test.YtedcdhnbceaaeaaZFnWiredaw
import Derived.Test.YtedcdhnbceaaeaaZFnWiredax
import Derived.Test.YtedcdhnbceaaeaaZFnWiredaz
import Derived.Test.YtedcdhnbceaaeaaZFnWiredba
import Derived.Test.YtedcdhnbceaaeaaZFnWiredbc
import Derived.Test.YtedcdhnbceaaeaaZFnWiredbd
namespace Go.Proofs.Ytedcdhnbceaaeaa.PFnWired
open Go.RowKit Go.Proofs.YtedcdhnbceaaeaaW.PrintWords Go.Proofs.YtedcdhnbceaaeaaW.PrintLast Go.Proofs.YtedcdhnbceaaeaaW.PrintMore
attribute [local go_sem] max2_int min2_int max_two min_two max_three min_three max_four min_four   -- for this text's walks alone
set_option linter.unusedVariables false
set_option linter.unusedSimpArgs false
open Bool renaming true → t_, false → f_
mutual
def spec_MoveWire.j0 : Nat → List (S160) → Int → Int → Int → Int → Bool → Option ((List (S160)) × Int)
 | 0, _, _, _, _, _, _ => none
 | k + 1, x2, x3, x4, x5, x14, x31 => if x31 = true then (spec_MoveWire.j1 k x2 x3 x4 x5 2) else (spec_MoveWire.j1 k x2 x3 x4 x5 x14)
def spec_MoveWire.j1 : Nat → List (S160) → Int → Int → Int → Int → Option ((List (S160)) × Int)
 | 0, _, _, _, _, _ => none
 | k + 1, x2, x3, x4, x5, x14 => (spec_l13Find.f k x2 x3).bind fun t482 => (if x14 = 0 then (spec_MoveWire.j2 k x2 x4 x5 x14 t482 (decide (t482 < 0))) else (spec_MoveWire.j2 k x2 x4 x5 x14 t482 false))
def spec_MoveWire.j2 : Nat → List (S160) → Int → Int → Int → Int → Bool → Option ((List (S160)) × Int)
 | 0, _, _, _, _, _, _ => none
 | k + 1, x2, x4, x5, x14, x15, x40 => if x40 = true then (spec_MoveWire.j3 k x2 x4 x5 4 x15) else (spec_MoveWire.j3 k x2 x4 x5 x14 x15)
def spec_MoveWire.j3 : Nat → List (S160) → Int → Int → Int → Int → Option ((List (S160)) × Int)
 | 0, _, _, _, _, _ => none
 | k + 1, x2, x4, x5, x14, x15 => if x14 = 0 then ((spec_l13At.f k x2 x4 x5).bind fun t483 => (if t483 ≥ 0 then (if t483 = x15 then ((some (([] : List (S160)) : List (S160))).bind fun y484 => (if y484.length + x2.length < 5864062014805 then ((some (y484 ++ x2 : List (S160))).bind fun y487 => (if 0 ≤ x15 then (if x15 < (y487.length : Int) then ((some (y487.set (x15 : Int).toNat (⟨(rd_T160 y487 x15).f0, x4, (rd_T160 y487 x15).f2⟩ : S160) : List (S160))).bind fun y490 => (some ((y490.set (x15 : Int).toNat (⟨(rd_T160 y490 x15).f0, (rd_T160 y490 x15).f1, x5⟩ : S160)), 0))) else (none)) else (none))) else (none))) else (some (([] : List (S160)), 5))) else ((some (([] : List (S160)) : List (S160))).bind fun y492 => (if y492.length + x2.length < 5864062014805 then ((some (y492 ++ x2 : List (S160))).bind fun y495 => (if 0 ≤ x15 then (if x15 < (y495.length : Int) then ((some (y495.set (x15 : Int).toNat (⟨(rd_T160 y495 x15).f0, x4, (rd_T160 y495 x15).f2⟩ : S160) : List (S160))).bind fun y498 => (some ((y498.set (x15 : Int).toNat (⟨(rd_T160 y498 x15).f0, (rd_T160 y498 x15).f1, x5⟩ : S160)), 0))) else (none)) else (none))) else (none))))) else (some (([] : List (S160)), x14))
end
def spec_MoveWire.f (k : Nat) (l0 : List (S200)) (a1 : Int) (l2 : List (S160)) (a3 : Int) (a4 : Int) (a5 : Int) : Option ((List (S160)) × Int) := (spec_l13Cue.f k l0 a1 l2 a3).bind fun t480 => (if t480 = 0 then ((spec_l13Pin.f l0 a4 a5).bind fun t481 => (spec_MoveWire.j0 k l2 a3 a4 a5 t480 (!t481))) else (spec_MoveWire.j0 k l2 a3 a4 a5 t480 false))
set_option maxHeartbeats 8000000 in
set_option maxRecDepth 100000 in
theorem spec_MoveWire.calls (k : Nat) (A0 : Option Addr) (c0 : Nat) (l0 : List (S200)) (a1 : Int) (A2 : Option Addr) (c2 : Nat) (l2 : List (S160)) (a3 : Int) (a4 : Int) (a5 : Int) (r1 : List (S160)) (r2 : Int) (w : World) (hr0 : Kd.C k200 w A0 l0.length l0) (hc0 : l0.length ≤ c0) (hr2 : Kd.C k160 w A2 l2.length l2) (hc2 : l2.length ≤ c2) (h : spec_MoveWire.f k l0 a1 l2 a3 a4 a5 = some (r1, r2)) :
  Calls Try.prog 35 #[.slice A0 l0.length c0, .int .i64 a1, .slice A2 l2.length c2, .int .i64 a3, .int .i64 a4, .int .i64 a5] w fun e w' => ∃ v0_ : Value, e = .returned (.tuple #[v0_, .int .i64 r2]) ∧ Kd.R k160 160 w' w.heap.size (fun _ => True) v0_ r1 ∧ Below w.heap.size w w' := by
 have HR0 := Aside0.mk hr0
 have HC0 := Aside0.mk hc0
 clear hr0 hc0
 have HR2 := Aside0.mk hr2
 have HC2 := Aside0.mk hc2
 clear hr2 hc2
 have HB := Aside0.mk (Below.refl w.heap.size w)
 have H : ((spec_l13Cue.f k l0 a1 l2 a3).bind fun t480 => (if t480 = 0 then ((spec_l13Pin.f l0 a4 a5).bind fun t481 => (spec_MoveWire.j0 k l2 a3 a4 a5 t480 (!t481))) else (spec_MoveWire.j0 k l2 a3 a4 a5 t480 false))) = some (r1, r2) := h
 clear h
 replace H := Option.bind_eq_some_iff.mp H
 obtain ⟨t480, A70, H⟩ := H
 replace H : (if t480 = 0 then ((spec_l13Pin.f l0 a4 a5).bind fun t481 => (spec_MoveWire.j0 k l2 a3 a4 a5 t480 (!t481))) else (spec_MoveWire.j0 k l2 a3 a4 a5 t480 false)) = some (r1, r2) := H
 have A7 := Aside0.mk A70
 clear A70
 have HC8 := Aside0.mk H
 clear H
 go_enter Try.func35, Try.ntmps35
 go_upto_region 2 with (first | ((with_reducible refine gate_callee (f := 134) rfl ?_); refine goesL_ (some 22) rfl rfl Try.func134 (by kernel_rfl) rfl #[.slice A0 l0.length c0, .int .i64 a1, .slice A2 l2.length c2, .int .i64 a3] rfl ag_ ?_; (with_reducible refine (spec_l13Cue.calls k _ _ l0 a1 _ _ l2 a3 t480 _ ?side1 ?side2 ?side3 ?side4 A7.out).mono ?_); (case side1 => exact r9_ HR0.out); (case side2 => exact HC0.out); (case side3 => exact r9_ HR2.out); (case side4 => exact HC2.out); rintro e w9 ⟨rfl, hb⟩; refine ⟨_, rfl, ?_⟩; replace HB := Aside0.mk (below_step (bl_ HB.out) hb); (try clear hb); (try clear hb2); (try clear hk); (try clear hi)))
 (try simp only [Act.put, List.setIfInBounds_toArray, List.set_cons_zero, List.set_cons_succ])
 go_cut [31] (fun v31 wc => ∃ (kq : Nat) (x31_7 : Bool), v31 = .bool x31_7 ∧ Aside0 (spec_MoveWire.j0 kq l2 a3 a4 a5 t480 x31_7 = some (r1, r2)) ∧ Aside0 (kq ≤ k) ∧ Aside0 (Below w.heap.size w wc))
 case first =>
  have H := HC8.out
  clear HC8
  by_cases c10 : t480 = 0
  ·rw [if_pos c10] at H
   have c10b0 : (t480 == 0) = true := beq_iff_eq.mpr c10
   have c10b1 : (t480 != 0) = false := bne_eq_false_iff_eq.mpr c10
   clear c10
   (first | rw [c10b0] | (simp only [i64_w, i32_w]; rw [c10b0]) | skip)
   replace H := Option.bind_eq_some_iff.mp H
   obtain ⟨t481, A110, H⟩ := H
   replace H : (spec_MoveWire.j0 k l2 a3 a4 a5 t480 (!t481)) = some (r1, r2) := H
   have A11 := Aside0.mk A110
   clear A110
   have H' := Aside0.mk H
   clear H
   go_wp2_with (first | (go_at_call 135; (with_reducible refine (spec_l13Pin.calls _ _ l0 a4 a5 t481 _ ?side1 ?side2 A11.out).mono ?_); (case side1 => exact r5_ HR0.out HB.out); (case side2 => exact HC0.out); rintro e w' ⟨rfl, ⟨nd, rfl⟩⟩))
   go_meet
   case rel => exact ⟨_, (!t481), (by first | rfl | (simp; done) | (simp [*]; done)), H', ⟨by first | omega | exact Nat.le_refl _⟩, ⟨bl_ HB.out⟩⟩
  ·rw [if_neg c10] at H
   have c10b0 : (t480 == 0) = false := beq_eq_false_iff_ne.mpr c10
   have c10b1 : (t480 != 0) = true := bne_iff_ne.mpr c10
   (first | rw [c10b0] | (simp only [i64_w, i32_w]; rw [c10b0]) | skip)
   have H' := Aside0.mk H
   clear H
   go_wp2
   go_meet
   case rel => exact ⟨_, (false), (by first | rfl | (simp; done) | (simp [*]; done)), H', ⟨by first | omega | exact Nat.le_refl _⟩, ⟨bl_ HB.out⟩⟩
 case rest =>
  clear HC8
  try clear c1
  try clear c2
  try clear p2
  try clear c3
  try clear c10
  try clear c10b0
  try clear c10b1
  obtain ⟨kq, x31_7, rfl, HA, HJ7, HB⟩ := hcut
  cases kq with
  | zero => exact absurd HA.out (by simp [spec_MoveWire.j0])
  | succ kj7 =>
   have H := HA.out
   clear HA
   simp only [spec_MoveWire.j0] at H
   have HC12 := Aside0.mk H
   clear H
   go_upto_if 31 with (fail)
   go_cut [14] (fun v14 wc => ∃ (kq : Nat) (x14_11 : Int), v14 = .int .i64 x14_11 ∧ Aside0 (spec_MoveWire.j1 kq l2 a3 a4 a5 x14_11 = some (r1, r2)) ∧ Aside0 (kq ≤ kj7) ∧ Aside0 (Below w.heap.size w wc))
   case first =>
    have H := HC12.out
    clear HC12
    by_cases c13 : x31_7 = true
    ·subst c13
     replace H : (spec_MoveWire.j1 kj7 l2 a3 a4 a5 2) = some (r1, r2) := by rw [if_pos rfl] at H; exact H
     have H' := Aside0.mk H
     clear H
     go_wp2
     go_meet
     case rel => exact ⟨_, (2), (by first | rfl | (simp; done) | (simp [*]; done)), H', ⟨by have := HJ7.out; first | omega | exact Nat.le_refl _⟩, ⟨bl_ HB.out⟩⟩
    ·replace c13 := Bool.eq_false_iff.mpr c13
     subst c13
     replace H : (spec_MoveWire.j1 kj7 l2 a3 a4 a5 t480) = some (r1, r2) := by rw [if_neg (show ¬ (false = true) by decide)] at H; exact H
     have H' := Aside0.mk H
     clear H
     go_wp2
     go_meet
     case rel => exact ⟨_, (t480), (by first | rfl | (simp; done) | (simp [*]; done)), H', ⟨by have := HJ7.out; first | omega | exact Nat.le_refl _⟩, ⟨bl_ HB.out⟩⟩
   case rest =>
    clear HC12
    try clear c1
    try clear c2
    try clear p2
    try clear c3
    try clear c10
    try clear c10b0
    try clear c10b1
    try clear c13
    try clear p2
    obtain ⟨kq, x14_11, rfl, HA, HJ11, HB⟩ := hcut
    cases kq with
    | zero => exact absurd HA.out (by simp [spec_MoveWire.j1])
    | succ kj11 =>
     have H := HA.out
     clear HA
     simp only [spec_MoveWire.j1] at H
     replace H := Option.bind_eq_some_iff.mp H
     obtain ⟨t482, A140, H⟩ := H
     replace H : (if x14_11 = 0 then (spec_MoveWire.j2 kj11 l2 a4 a5 x14_11 t482 (decide (t482 < 0))) else (spec_MoveWire.j2 kj11 l2 a4 a5 x14_11 t482 false)) = some (r1, r2) := H
     have A14 := Aside0.mk A140
     clear A140
     have HC15 := Aside0.mk H
     clear H
     go_upto_region 5 with (first | ((with_reducible refine gate_callee (f := 136) rfl ?_); refine goesL_ (some 34) rfl rfl Try.func136 (by kernel_rfl) rfl #[.slice A2 l2.length c2, .int .i64 a3] rfl ag_ ?_; (with_reducible refine (spec_l13Find.calls kj11 _ _ l2 a3 t482 _ ?side1 ?side2 A14.out).mono ?_); (case side1 => exact r5_ HR2.out HB.out); (case side2 => exact HC2.out); rintro e w' ⟨rfl, ⟨nd, rfl⟩⟩; refine ⟨_, rfl, ?_⟩))
     (try simp only [Act.put, List.setIfInBounds_toArray, List.set_cons_zero, List.set_cons_succ])
     go_cut [40] (fun v40 wc => ∃ (kq : Nat) (x40_14 : Bool), v40 = .bool x40_14 ∧ Aside0 (spec_MoveWire.j2 kq l2 a4 a5 x14_11 t482 x40_14 = some (r1, r2)) ∧ Aside0 (kq ≤ kj11) ∧ Aside0 (Below w.heap.size w wc))
     case first =>
      have H := HC15.out
      clear HC15
      by_cases c16 : x14_11 = 0
      ·rw [if_pos c16] at H
       have c16b0 : (x14_11 == 0) = true := beq_iff_eq.mpr c16
       have c16b1 : (x14_11 != 0) = false := bne_eq_false_iff_eq.mpr c16
       clear c16
       (first | rw [c16b0] | (simp only [i64_w, i32_w]; rw [c16b0]) | skip)
       have H' := Aside0.mk H
       clear H
       go_wp2
       go_meet
       case rel => exact ⟨_, (decide (t482 < 0)), (by first | rfl | (simp; done) | (simp [*]; done)), H', ⟨by have := HJ7.out; have := HJ11.out; first | omega | exact Nat.le_refl _⟩, ⟨bl_ HB.out⟩⟩
      ·rw [if_neg c16] at H
       have c16b0 : (x14_11 == 0) = false := beq_eq_false_iff_ne.mpr c16
       have c16b1 : (x14_11 != 0) = true := bne_iff_ne.mpr c16
       (first | rw [c16b0] | (simp only [i64_w, i32_w]; rw [c16b0]) | skip)
       have H' := Aside0.mk H
       clear H
       go_wp2
       go_meet
       case rel => exact ⟨_, (false), (by first | rfl | (simp; done) | (simp [*]; done)), H', ⟨by have := HJ7.out; have := HJ11.out; first | omega | exact Nat.le_refl _⟩, ⟨bl_ HB.out⟩⟩
     case rest =>
      clear HC15
      try clear c1
      try clear c2
      try clear p2
      try clear c3
      try clear c10
      try clear c10b0
      try clear c10b1
      try clear c13
      try clear c16
      try clear c16b0
      try clear c16b1
      try clear p2
      obtain ⟨kq, x40_14, rfl, HA, HJ14, HB⟩ := hcut
      cases kq with
      | zero => exact absurd HA.out (by simp [spec_MoveWire.j2])
      | succ kj14 =>
       have H := HA.out
       clear HA
       simp only [spec_MoveWire.j2] at H
       have HC17 := Aside0.mk H
       clear H
       go_upto_if 40 with (fail)
       go_cut [14] (fun v14 wc => ∃ (kq : Nat) (x14_16 : Int), v14 = .int .i64 x14_16 ∧ Aside0 (spec_MoveWire.j3 kq l2 a4 a5 x14_16 t482 = some (r1, r2)) ∧ Aside0 (kq ≤ kj14) ∧ Aside0 (Below w.heap.size w wc))
       case first =>
        have H := HC17.out
        clear HC17
        by_cases c18 : x40_14 = true
        ·subst c18
         replace H : (spec_MoveWire.j3 kj14 l2 a4 a5 4 t482) = some (r1, r2) := by rw [if_pos rfl] at H; exact H
         have H' := Aside0.mk H
         clear H
         go_wp2
         go_meet
         case rel => exact ⟨_, (4), (by first | rfl | (simp; done) | (simp [*]; done)), H', ⟨by have := HJ7.out; have := HJ11.out; have := HJ14.out; first | omega | exact Nat.le_refl _⟩, ⟨bl_ HB.out⟩⟩
        ·replace c18 := Bool.eq_false_iff.mpr c18
         subst c18
         replace H : (spec_MoveWire.j3 kj14 l2 a4 a5 x14_11 t482) = some (r1, r2) := by rw [if_neg (show ¬ (false = true) by decide)] at H; exact H
         have H' := Aside0.mk H
         clear H
         go_wp2
         go_meet
         case rel => exact ⟨_, (x14_11), (by first | rfl | (simp; done) | (simp [*]; done)), H', ⟨by have := HJ7.out; have := HJ11.out; have := HJ14.out; first | omega | exact Nat.le_refl _⟩, ⟨bl_ HB.out⟩⟩
       case rest =>
        clear HC17
        try clear c1
        try clear c2
        try clear p2
        try clear c3
        try clear c10
        try clear c10b0
        try clear c10b1
        try clear c13
        try clear c16
        try clear c16b0
        try clear c16b1
        try clear c18
        try clear p2
        obtain ⟨kq, x14_16, rfl, HA, HJ16, HB⟩ := hcut
        cases kq with
        | zero => exact absurd HA.out (by simp [spec_MoveWire.j3])
        | succ kj16 =>
         have H := HA.out
         clear HA
         simp only [spec_MoveWire.j3] at H
         by_cases c19 : x14_16 = 0
         ·rw [if_pos c19] at H
          have c19b0 : (x14_16 == 0) = true := beq_iff_eq.mpr c19
          have c19b1 : (x14_16 != 0) = false := bne_eq_false_iff_eq.mpr c19
          clear c19
          replace H := Option.bind_eq_some_iff.mp H
          obtain ⟨t483, A200, H⟩ := H
          replace H : (if t483 ≥ 0 then (if t483 = t482 then ((some (([] : List (S160)) : List (S160))).bind fun y484 => (if y484.length + l2.length < 5864062014805 then ((some (y484 ++ l2 : List (S160))).bind fun y487 => (if 0 ≤ t482 then (if t482 < (y487.length : Int) then ((some (y487.set (t482 : Int).toNat (⟨(rd_T160 y487 t482).f0, a4, (rd_T160 y487 t482).f2⟩ : S160) : List (S160))).bind fun y490 => (some ((y490.set (t482 : Int).toNat (⟨(rd_T160 y490 t482).f0, (rd_T160 y490 t482).f1, a5⟩ : S160)), 0))) else (none)) else (none))) else (none))) else (some (([] : List (S160)), 5))) else ((some (([] : List (S160)) : List (S160))).bind fun y492 => (if y492.length + l2.length < 5864062014805 then ((some (y492 ++ l2 : List (S160))).bind fun y495 => (if 0 ≤ t482 then (if t482 < (y495.length : Int) then ((some (y495.set (t482 : Int).toNat (⟨(rd_T160 y495 t482).f0, a4, (rd_T160 y495 t482).f2⟩ : S160) : List (S160))).bind fun y498 => (some ((y498.set (t482 : Int).toNat (⟨(rd_T160 y498 t482).f0, (rd_T160 y498 t482).f1, a5⟩ : S160)), 0))) else (none)) else (none))) else (none)))) = some (r1, r2) := H
          have A20 := Aside0.mk A200
          clear A200
          by_cases c21 : t483 ≥ 0
          ·rw [if_pos c21] at H
           have c21b0 : decide (0 ≤ t483) = true := decide_eq_true c21
           clear c21
           by_cases c22 : t483 = t482
           ·rw [if_pos c22] at H
            have c22b0 : (t483 == t482) = true := beq_iff_eq.mpr c22
            have c22b1 : (t483 != t482) = false := bne_eq_false_iff_eq.mpr c22
            clear c22
            obtain ⟨y484, hy484⟩ : ∃ y_ : List (S160), y_ = (([] : List (S160))) := ⟨_, rfl⟩
            replace H : (if y484.length + l2.length < 5864062014805 then ((some (y484 ++ l2 : List (S160))).bind fun y487 => (if 0 ≤ t482 then (if t482 < (y487.length : Int) then ((some (y487.set (t482 : Int).toNat (⟨(rd_T160 y487 t482).f0, a4, (rd_T160 y487 t482).f2⟩ : S160) : List (S160))).bind fun y490 => (some ((y490.set (t482 : Int).toNat (⟨(rd_T160 y490 t482).f0, (rd_T160 y490 t482).f1, a5⟩ : S160)), 0))) else (none)) else (none))) else (none)) = some (r1, r2) := by first | (rw [hy484]; with_reducible exact H) | (have H2_ := (Option.bind_some _ _).symm.trans H; rw [hy484]; with_reducible exact H2_) | (have H2_ := (Option.bind_some _ _).symm.trans H; with_reducible exact H2_) | with_reducible exact H | (rw [hy484]; exact H) | exact H
            have Ny484 := Aside0.mk hy484
            clear hy484
            by_cases c23 : y484.length + l2.length < 5864062014805
            case neg =>
             rw [if_neg c23] at H
             exact absurd H (by simp)
            rw [if_pos c23] at H
            have LMc23 := Aside0.mk c23
            clear c23
            obtain ⟨y487, hy487⟩ : ∃ y_ : List (S160), y_ = (y484 ++ l2) := ⟨_, rfl⟩
            replace H : (if 0 ≤ t482 then (if t482 < (y487.length : Int) then ((some (y487.set (t482 : Int).toNat (⟨(rd_T160 y487 t482).f0, a4, (rd_T160 y487 t482).f2⟩ : S160) : List (S160))).bind fun y490 => (some ((y490.set (t482 : Int).toNat (⟨(rd_T160 y490 t482).f0, (rd_T160 y490 t482).f1, a5⟩ : S160)), 0))) else (none)) else (none)) = some (r1, r2) := by first | (rw [hy487]; with_reducible exact H) | (have H2_ := (Option.bind_some _ _).symm.trans H; rw [hy487]; with_reducible exact H2_) | (have H2_ := (Option.bind_some _ _).symm.trans H; with_reducible exact H2_) | with_reducible exact H | (rw [hy487]; exact H) | exact H
            have Ny487 := Aside0.mk hy487
            clear hy487
            by_cases c24 : 0 ≤ t482
            case neg =>
             rw [if_neg c24] at H
             exact absurd H (by simp)
            rw [if_pos c24] at H
            have c24b0 : decide (0 ≤ t482) = true := decide_eq_true c24
            clear c24
            by_cases c25 : t482 < (y487.length : Int)
            case neg =>
             rw [if_neg c25] at H
             exact absurd H (by simp)
            rw [if_pos c25] at H
            have c25b0 : decide (t482 < (y487.length : Int)) = true := decide_eq_true c25
            clear c25
            obtain ⟨y490, hy490⟩ : ∃ y_ : List (S160), y_ = (y487.set (t482 : Int).toNat (⟨(rd_T160 y487 t482).f0, a4, (rd_T160 y487 t482).f2⟩ : S160)) := ⟨_, rfl⟩
            replace H : (some ((y490.set (t482 : Int).toNat (⟨(rd_T160 y490 t482).f0, (rd_T160 y490 t482).f1, a5⟩ : S160)), 0)) = some (r1, r2) := by first | (rw [hy490]; with_reducible exact H) | (have H2_ := (Option.bind_some _ _).symm.trans H; rw [hy490]; with_reducible exact H2_) | (have H2_ := (Option.bind_some _ _).symm.trans H; with_reducible exact H2_) | with_reducible exact H | (rw [hy490]; exact H) | exact H
            have Ny490 := Aside0.mk hy490
            clear hy490
            obtain ⟨y491, hy491⟩ : ∃ y_ : List (S160), y_ = (y490.set (t482 : Int).toNat (⟨(rd_T160 y490 t482).f0, (rd_T160 y490 t482).f1, a5⟩ : S160)) := ⟨_, rfl⟩
            replace H : (some (y491, 0)) = some (r1, r2) := by first | (rw [hy491]; with_reducible exact H) | (have H2_ := (Option.bind_some _ _).symm.trans H; rw [hy491]; with_reducible exact H2_) | (have H2_ := (Option.bind_some _ _).symm.trans H; with_reducible exact H2_) | with_reducible exact H | (rw [hy491]; exact H) | exact H
            have Ny491 := Aside0.mk hy491
            clear hy491
            simp only [Option.some.injEq, Prod.mk.injEq] at H
            obtain ⟨rfl, rfl⟩ := H
            go_wp2_with (first | ((with_reducible refine gate_callee (f := 137) rfl ?_); refine goesL_ (some 47) rfl rfl Try.func137 (by kernel_rfl) rfl #[.slice A2 l2.length c2, .int .i64 a4, .int .i64 a5] rfl ag_ ?_; (with_reducible refine (spec_l13At.calls kj16 _ _ l2 a4 a5 t483 _ ?side1 ?side2 A20.out).mono ?_); (case side1 => exact r5_ HR2.out HB.out); (case side2 => exact HC2.out); rintro e w' ⟨rfl, ⟨nd, rfl⟩⟩; refine ⟨_, rfl, ?_⟩; (try (rw [drewN_self wc]; generalize hq_ : World.drewN wc _ = wc; have n0_ : Aside0 (Below w.heap.size w wc) := ⟨by rw [← hq_]; exact (bl_ HB.out)⟩; clear HB hq_; have HB := n0_; clear n0_))) | ((with_reducible refine gate_dst (N := 55) rfl ?_); refine Kd.R_lit k160 _ 160 ?hg (N := 55) ?hd (xs := ([] : List (S160))) (inner := []) (ok := fun _ => True) (okp := fun _ => True) ?hr ?hp (fun _ hk => hk) trivial (Below.refl _ _) (Nat.le_refl _) (by simp) ?_; (case hd => rfl); (case hg => rfl); (case hr => first | (go_simp; done) | (go_simp; rfl)); (case hp => exact (Reps.none _ _)); intro v485 w28 ho29 hb hg_ hnew_; clear hg_ hnew_; (first | rw [← Ny484.out] at ho29 | (simp only [Int.reduceToNat] at ho29; rw [← Ny484.out] at ho29)); have HO486 := Aside0.mk (Kd.R_lower ho29 (below_size (bl_ HB.out))); replace HB := Aside0.mk (below_step (bl_ HB.out) hb); clear hb ho29) | ((with_reducible refine gate_builtin (b := .append) (xs := #[.tmp 55, .tmp 56]) rfl ?_); at_builtin; refine Kd.R_append_rows k160 (w0 := w) w.heap.size rfl (.tmp 55) (.tmp 56) 44 160 (.agg #[(.int .i64 0), (.int .i64 0), (.int .i64 0)]) 24 rfl Try.underlying44 info160 rfl (by decide) (by omega) v485 y484 l2 _ _ _ (fun _ => True) (fun _ => False) rfl rfl ?aO ?aR (fun _ _ h => h) (fun _ h => h.elim) ?aF ?aB ?aS ?aL ?_; (case aR => exact r5_ HR2.out HB.out); (case aB => exact (bl_ HB.out)); (case aF => exact (fun _ _ => trivial)); (case aO => exact (rk_ HO486.out)); (case aS => exact (below_size (bl_ HB.out))); (case aL => have := LMc23.out; omega); intro v488 w30 ho hb hg hat; rw [← Ny487.out] at ho; have n0_ := Aside0.mk (hb); have n1_ := Aside0.mk (ho); clear HB; clear HO486; have HB := n0_; have HO489 := n1_; clear n0_ n1_; clear ho hb hg hat; have p26 : 0 ≤ (t482 : Int) := od_; have q26 : (t482 : Int) < ((y487.length : Int) : Int) := od_; obtain ⟨go26, co26, eo26, gb26, gl26, cl26, HG26⟩ := Kd.R_form HO489.out (by omega); (first | cases eo26 | (injection eo26 with ea_ en_ ec_; (first | subst ea_ | (injection ea_ with ea_; subst ea_)); subst ec_; clear en_)); have GB26 := Aside0.mk gb26; have GG26 := Aside0.mk HG26; clear gb26 gl26 HG26; obtain ⟨ce26, hcl26, hM26, hcc26, hfr26⟩ := Kd.R_elem HO489.out z160 (t482 : Int) p26 q26; obtain rfl := k160_openM hM26; have hx26_0 : w30.cell? ⟨go26, (t482 : Int).toNat * 3, none⟩ = some (.int .i64 ((rd_T160 y487 t482).f0)) := hcc26 0 _ rfl; have hx26_1 : w30.cell? ⟨go26, (t482 : Int).toNat * 3 + 1, none⟩ = some (.int .i64 ((rd_T160 y487 t482).f1)) := hcc26 1 _ rfl; have hx26_2 : w30.cell? ⟨go26, (t482 : Int).toNat * 3 + 2, none⟩ = some (.int .i64 ((rd_T160 y487 t482).f2)) := hcc26 2 _ rfl; have hf26_0 : w30.frozen? ⟨go26, (t482 : Int).toNat * 3, none⟩ = false := hfr26 0; have hf26_1 : w30.frozen? ⟨go26, (t482 : Int).toNat * 3 + 1, none⟩ = false := hfr26 1; have hf26_2 : w30.frozen? ⟨go26, (t482 : Int).toNat * 3 + 2, none⟩ = false := hfr26 2; clear hcl26 hcc26 hfr26 hM26; replace p26 := eq_true p26; replace q26 := eq_true q26; have HX31 := Aside0.mk (show Kd.R k160 160 w30 w.heap.size (fun _ => True) (.slice (some ⟨go26, 0, none⟩) y487.length co26) y487 from (rk_ HO489.out)); obtain ⟨ce31, hcl31, hM31, hcc31, hfr31⟩ := Kd.R_elem HX31.out z160 (t482 : Int) od_ (by have h_ : (t482 : Int) < ((y487.length : Int) : Int) := od_; first | exact h_ | (have e_ := (Kd.R_reads' HO489.out).1; omega) | simpa using h_); obtain rfl := k160_openM hM31; have HP31 := Kd.R_seg HX31.out (t482 : Int) od_ (by have h_ : (t482 : Int) < ((y487.length : Int) : Int) := od_; first | exact h_ | (have e_ := (Kd.R_reads' HO489.out).1; omega) | simpa using h_) (seg := [.int .i64 a4]) (j := 1) hcl31 hcc31 (show 2 ≤ 3 from by decide) (x' := (⟨(rd_T160 y487 t482).f0, a4, (rd_T160 y487 t482).f2⟩ : S160)) (k160_mkM _ _ _ (⟨(rd_T160 y487 t482).f0, a4, (rd_T160 y487 t482).f2⟩ : S160) ) (fun _ hk => hk); have hx31_1 := hcc31 1 _ rfl; (try simp only [show (k160).sz = 3 from rfl, Nat.mul_one, Nat.add_zero] at hx31_1); have hf31_1 := hfr31 1; (try simp only [show (k160).sz = 3 from rfl, Nat.mul_one, Nat.add_zero] at hf31_1); clear hcl31 hcc31 hfr31 hM31) | ((with_reducible refine gate_store (t := 2) (p := 62) rfl ?_); refine store_event (t := 2) (p := 62) (v := ?vo_w32) (w1 := (w30.setCell ⟨go26, (t482 : Int).toNat * 3 + 1, none⟩ (.int .i64 a4))) ?hg ?ho ?hn ?hr ?_; (case ho => rfl); (case hg => rfl); (case hn => rfl); (case hr => first | (go_simp; done) | (go_simp; rfl)); intro w32 hw; have hg : w30.grownBy w32 (some go26) := (by rw [hw]; exact HP31.2); have hp_ : Kd.R k160 160 w32 w.heap.size (fun _ => True) (.slice (some ⟨go26, 0, none⟩) y487.length co26) y490 := (by rw [hw, Ny490.out]; exact HP31.1); clear HP31; replace HO489 := Aside0.mk (hp_); replace HB := Aside0.mk ((by rw [hw]; exact below_set (HB.out) GB26.out : Below w.heap.size w w32)); clear hg hw hp_; have p27 : 0 ≤ (t482 : Int) := od_; have q27 : (t482 : Int) < ((y487.length : Int) : Int) := od_; obtain ⟨ce27, hcl27, hM27, hcc27, hfr27⟩ := Kd.R_elem HO489.out z160 (t482 : Int) p27 q27; obtain rfl := k160_openM hM27; have hx27_0 : w32.cell? ⟨go26, (t482 : Int).toNat * 3, none⟩ = some (.int .i64 ((rd_T160 y490 t482).f0)) := hcc27 0 _ rfl; have hx27_1 : w32.cell? ⟨go26, (t482 : Int).toNat * 3 + 1, none⟩ = some (.int .i64 ((rd_T160 y490 t482).f1)) := hcc27 1 _ rfl; have hx27_2 : w32.cell? ⟨go26, (t482 : Int).toNat * 3 + 2, none⟩ = some (.int .i64 ((rd_T160 y490 t482).f2)) := hcc27 2 _ rfl; have hf27_0 : w32.frozen? ⟨go26, (t482 : Int).toNat * 3, none⟩ = false := hfr27 0; have hf27_1 : w32.frozen? ⟨go26, (t482 : Int).toNat * 3 + 1, none⟩ = false := hfr27 1; have hf27_2 : w32.frozen? ⟨go26, (t482 : Int).toNat * 3 + 2, none⟩ = false := hfr27 2; clear hcl27 hcc27 hfr27 hM27; replace p27 := eq_true p27; replace q27 := eq_true q27; have HX33 := Aside0.mk (show Kd.R k160 160 w32 w.heap.size (fun _ => True) (.slice (some ⟨go26, 0, none⟩) y487.length co26) y490 from (rk_ HO489.out)); obtain ⟨ce33, hcl33, hM33, hcc33, hfr33⟩ := Kd.R_elem HX33.out z160 (t482 : Int) od_ (by have h_ : (t482 : Int) < ((y487.length : Int) : Int) := od_; first | exact h_ | (have e_ := (Kd.R_reads' HO489.out).1; omega) | simpa using h_); obtain rfl := k160_openM hM33; have HP33 := Kd.R_seg HX33.out (t482 : Int) od_ (by have h_ : (t482 : Int) < ((y487.length : Int) : Int) := od_; first | exact h_ | (have e_ := (Kd.R_reads' HO489.out).1; omega) | simpa using h_) (seg := [.int .i64 a5]) (j := 2) hcl33 hcc33 (show 3 ≤ 3 from by decide) (x' := (⟨(rd_T160 y490 t482).f0, (rd_T160 y490 t482).f1, a5⟩ : S160)) (k160_mkM _ _ _ (⟨(rd_T160 y490 t482).f0, (rd_T160 y490 t482).f1, a5⟩ : S160) ) (fun _ hk => hk); have hx33_2 := hcc33 2 _ rfl; (try simp only [show (k160).sz = 3 from rfl, Nat.mul_one, Nat.add_zero] at hx33_2); have hf33_2 := hfr33 2; (try simp only [show (k160).sz = 3 from rfl, Nat.mul_one, Nat.add_zero] at hf33_2); clear hcl33 hcc33 hfr33 hM33) | ((with_reducible refine gate_store (t := 2) (p := 67) rfl ?_); refine store_event (t := 2) (p := 67) (v := ?vo_w34) (w1 := (w32.setCell ⟨go26, (t482 : Int).toNat * 3 + 2, none⟩ (.int .i64 a5))) ?hg ?ho ?hn ?hr ?_; (case ho => rfl); (case hg => rfl); (case hn => rfl); (case hr => first | (go_simp; done) | (go_simp; rfl)); intro w34 hw; have hg : w32.grownBy w34 (some go26) := (by rw [hw]; exact HP33.2); have hp_ : Kd.R k160 160 w34 w.heap.size (fun _ => True) (.slice (some ⟨go26, 0, none⟩) y487.length co26) y491 := (by rw [hw, Ny491.out]; exact HP33.1); clear HP33; replace HO489 := Aside0.mk (hp_); replace HB := Aside0.mk ((by rw [hw]; exact below_set (HB.out) GB26.out : Below w.heap.size w w34)); clear hg hw hp_))
            go_ret2
            exact ⟨_, by first | rfl | (simp [errW_none, errW_some] <;> rfl) | (simp [*, errW_none, errW_some] <;> rfl), rk_ HO489.out, bl_ HB.out⟩
           ·rw [if_neg c22] at H
            have c22b0 : (t483 == t482) = false := beq_eq_false_iff_ne.mpr c22
            have c22b1 : (t483 != t482) = true := bne_iff_ne.mpr c22
            simp only [Option.some.injEq, Prod.mk.injEq] at H
            obtain ⟨rfl, rfl⟩ := H
            go_wp2_with (first | ((with_reducible refine gate_callee (f := 137) rfl ?_); refine goesL_ (some 47) rfl rfl Try.func137 (by kernel_rfl) rfl #[.slice A2 l2.length c2, .int .i64 a4, .int .i64 a5] rfl ag_ ?_; (with_reducible refine (spec_l13At.calls kj16 _ _ l2 a4 a5 t483 _ ?side1 ?side2 A20.out).mono ?_); (case side1 => exact r5_ HR2.out HB.out); (case side2 => exact HC2.out); rintro e w' ⟨rfl, ⟨nd, rfl⟩⟩; refine ⟨_, rfl, ?_⟩))
            go_ret2
            exact ⟨_, by first | rfl | (simp [errW_none, errW_some] <;> rfl) | (simp [*, errW_none, errW_some] <;> rfl), by first | exact Kd.R_nil _ _ _ _ _ | exact Kd.N_nil _ _ _ _ _ | exact Kd.V_nil _ _ _ _ _ | exact Kd.Q_nil _ _ _ _ _ | exact Kd.S_nil _ _ _ _ _, bl_ HB.out⟩
          ·rw [if_neg c21] at H
           have c21b0 : decide (0 ≤ t483) = false := decide_eq_false c21
           clear c21
           obtain ⟨y492, hy492⟩ : ∃ y_ : List (S160), y_ = (([] : List (S160))) := ⟨_, rfl⟩
           replace H : (if y492.length + l2.length < 5864062014805 then ((some (y492 ++ l2 : List (S160))).bind fun y495 => (if 0 ≤ t482 then (if t482 < (y495.length : Int) then ((some (y495.set (t482 : Int).toNat (⟨(rd_T160 y495 t482).f0, a4, (rd_T160 y495 t482).f2⟩ : S160) : List (S160))).bind fun y498 => (some ((y498.set (t482 : Int).toNat (⟨(rd_T160 y498 t482).f0, (rd_T160 y498 t482).f1, a5⟩ : S160)), 0))) else (none)) else (none))) else (none)) = some (r1, r2) := by first | (rw [hy492]; with_reducible exact H) | (have H2_ := (Option.bind_some _ _).symm.trans H; rw [hy492]; with_reducible exact H2_) | (have H2_ := (Option.bind_some _ _).symm.trans H; with_reducible exact H2_) | with_reducible exact H | (rw [hy492]; exact H) | exact H
           have Ny492 := Aside0.mk hy492
           clear hy492
           by_cases c35 : y492.length + l2.length < 5864062014805
           case neg =>
            rw [if_neg c35] at H
            exact absurd H (by simp)
           rw [if_pos c35] at H
           have LMc35 := Aside0.mk c35
           clear c35
           obtain ⟨y495, hy495⟩ : ∃ y_ : List (S160), y_ = (y492 ++ l2) := ⟨_, rfl⟩
           replace H : (if 0 ≤ t482 then (if t482 < (y495.length : Int) then ((some (y495.set (t482 : Int).toNat (⟨(rd_T160 y495 t482).f0, a4, (rd_T160 y495 t482).f2⟩ : S160) : List (S160))).bind fun y498 => (some ((y498.set (t482 : Int).toNat (⟨(rd_T160 y498 t482).f0, (rd_T160 y498 t482).f1, a5⟩ : S160)), 0))) else (none)) else (none)) = some (r1, r2) := by first | (rw [hy495]; with_reducible exact H) | (have H2_ := (Option.bind_some _ _).symm.trans H; rw [hy495]; with_reducible exact H2_) | (have H2_ := (Option.bind_some _ _).symm.trans H; with_reducible exact H2_) | with_reducible exact H | (rw [hy495]; exact H) | exact H
           have Ny495 := Aside0.mk hy495
           clear hy495
           by_cases c36 : 0 ≤ t482
           case neg =>
            rw [if_neg c36] at H
            exact absurd H (by simp)
           rw [if_pos c36] at H
           have c36b0 : decide (0 ≤ t482) = true := decide_eq_true c36
           clear c36
           by_cases c37 : t482 < (y495.length : Int)
           case neg =>
            rw [if_neg c37] at H
            exact absurd H (by simp)
           rw [if_pos c37] at H
           have c37b0 : decide (t482 < (y495.length : Int)) = true := decide_eq_true c37
           clear c37
           obtain ⟨y498, hy498⟩ : ∃ y_ : List (S160), y_ = (y495.set (t482 : Int).toNat (⟨(rd_T160 y495 t482).f0, a4, (rd_T160 y495 t482).f2⟩ : S160)) := ⟨_, rfl⟩
           replace H : (some ((y498.set (t482 : Int).toNat (⟨(rd_T160 y498 t482).f0, (rd_T160 y498 t482).f1, a5⟩ : S160)), 0)) = some (r1, r2) := by first | (rw [hy498]; with_reducible exact H) | (have H2_ := (Option.bind_some _ _).symm.trans H; rw [hy498]; with_reducible exact H2_) | (have H2_ := (Option.bind_some _ _).symm.trans H; with_reducible exact H2_) | with_reducible exact H | (rw [hy498]; exact H) | exact H
           have Ny498 := Aside0.mk hy498
           clear hy498
           obtain ⟨y499, hy499⟩ : ∃ y_ : List (S160), y_ = (y498.set (t482 : Int).toNat (⟨(rd_T160 y498 t482).f0, (rd_T160 y498 t482).f1, a5⟩ : S160)) := ⟨_, rfl⟩
           replace H : (some (y499, 0)) = some (r1, r2) := by first | (rw [hy499]; with_reducible exact H) | (have H2_ := (Option.bind_some _ _).symm.trans H; rw [hy499]; with_reducible exact H2_) | (have H2_ := (Option.bind_some _ _).symm.trans H; with_reducible exact H2_) | with_reducible exact H | (rw [hy499]; exact H) | exact H
           have Ny499 := Aside0.mk hy499
           clear hy499
           simp only [Option.some.injEq, Prod.mk.injEq] at H
           obtain ⟨rfl, rfl⟩ := H
           go_wp2_with (first | ((with_reducible refine gate_callee (f := 137) rfl ?_); refine goesL_ (some 47) rfl rfl Try.func137 (by kernel_rfl) rfl #[.slice A2 l2.length c2, .int .i64 a4, .int .i64 a5] rfl ag_ ?_; (with_reducible refine (spec_l13At.calls kj16 _ _ l2 a4 a5 t483 _ ?side1 ?side2 A20.out).mono ?_); (case side1 => exact r5_ HR2.out HB.out); (case side2 => exact HC2.out); rintro e w' ⟨rfl, ⟨nd, rfl⟩⟩; refine ⟨_, rfl, ?_⟩; (try (rw [drewN_self wc]; generalize hq_ : World.drewN wc _ = wc; have n0_ : Aside0 (Below w.heap.size w wc) := ⟨by rw [← hq_]; exact (bl_ HB.out)⟩; clear HB hq_; have HB := n0_; clear n0_))) | ((with_reducible refine gate_dst (N := 55) rfl ?_); refine Kd.R_lit k160 _ 160 ?hg (N := 55) ?hd (xs := ([] : List (S160))) (inner := []) (ok := fun _ => True) (okp := fun _ => True) ?hr ?hp (fun _ hk => hk) trivial (Below.refl _ _) (Nat.le_refl _) (by simp) ?_; (case hd => rfl); (case hg => rfl); (case hr => first | (go_simp; done) | (go_simp; rfl)); (case hp => exact (Reps.none _ _)); intro v493 w40 ho41 hb hg_ hnew_; clear hg_ hnew_; (first | rw [← Ny492.out] at ho41 | (simp only [Int.reduceToNat] at ho41; rw [← Ny492.out] at ho41)); have HO494 := Aside0.mk (Kd.R_lower ho41 (below_size (bl_ HB.out))); replace HB := Aside0.mk (below_step (bl_ HB.out) hb); clear hb ho41) | ((with_reducible refine gate_builtin (b := .append) (xs := #[.tmp 55, .tmp 56]) rfl ?_); at_builtin; refine Kd.R_append_rows k160 (w0 := w) w.heap.size rfl (.tmp 55) (.tmp 56) 44 160 (.agg #[(.int .i64 0), (.int .i64 0), (.int .i64 0)]) 24 rfl Try.underlying44 info160 rfl (by decide) (by omega) v493 y492 l2 _ _ _ (fun _ => True) (fun _ => False) rfl rfl ?aO ?aR (fun _ _ h => h) (fun _ h => h.elim) ?aF ?aB ?aS ?aL ?_; (case aR => exact r5_ HR2.out HB.out); (case aB => exact (bl_ HB.out)); (case aF => exact (fun _ _ => trivial)); (case aO => exact (rk_ HO494.out)); (case aS => exact (below_size (bl_ HB.out))); (case aL => have := LMc35.out; omega); intro v496 w42 ho hb hg hat; rw [← Ny495.out] at ho; have n0_ := Aside0.mk (hb); have n1_ := Aside0.mk (ho); clear HB; clear HO494; have HB := n0_; have HO497 := n1_; clear n0_ n1_; clear ho hb hg hat; have p38 : 0 ≤ (t482 : Int) := od_; have q38 : (t482 : Int) < ((y495.length : Int) : Int) := od_; obtain ⟨go38, co38, eo38, gb38, gl38, cl38, HG38⟩ := Kd.R_form HO497.out (by omega); (first | cases eo38 | (injection eo38 with ea_ en_ ec_; (first | subst ea_ | (injection ea_ with ea_; subst ea_)); subst ec_; clear en_)); have GB38 := Aside0.mk gb38; have GG38 := Aside0.mk HG38; clear gb38 gl38 HG38; obtain ⟨ce38, hcl38, hM38, hcc38, hfr38⟩ := Kd.R_elem HO497.out z160 (t482 : Int) p38 q38; obtain rfl := k160_openM hM38; have hx38_0 : w42.cell? ⟨go38, (t482 : Int).toNat * 3, none⟩ = some (.int .i64 ((rd_T160 y495 t482).f0)) := hcc38 0 _ rfl; have hx38_1 : w42.cell? ⟨go38, (t482 : Int).toNat * 3 + 1, none⟩ = some (.int .i64 ((rd_T160 y495 t482).f1)) := hcc38 1 _ rfl; have hx38_2 : w42.cell? ⟨go38, (t482 : Int).toNat * 3 + 2, none⟩ = some (.int .i64 ((rd_T160 y495 t482).f2)) := hcc38 2 _ rfl; have hf38_0 : w42.frozen? ⟨go38, (t482 : Int).toNat * 3, none⟩ = false := hfr38 0; have hf38_1 : w42.frozen? ⟨go38, (t482 : Int).toNat * 3 + 1, none⟩ = false := hfr38 1; have hf38_2 : w42.frozen? ⟨go38, (t482 : Int).toNat * 3 + 2, none⟩ = false := hfr38 2; clear hcl38 hcc38 hfr38 hM38; replace p38 := eq_true p38; replace q38 := eq_true q38; have HX43 := Aside0.mk (show Kd.R k160 160 w42 w.heap.size (fun _ => True) (.slice (some ⟨go38, 0, none⟩) y495.length co38) y495 from (rk_ HO497.out)); obtain ⟨ce43, hcl43, hM43, hcc43, hfr43⟩ := Kd.R_elem HX43.out z160 (t482 : Int) od_ (by have h_ : (t482 : Int) < ((y495.length : Int) : Int) := od_; first | exact h_ | (have e_ := (Kd.R_reads' HO497.out).1; omega) | simpa using h_); obtain rfl := k160_openM hM43; have HP43 := Kd.R_seg HX43.out (t482 : Int) od_ (by have h_ : (t482 : Int) < ((y495.length : Int) : Int) := od_; first | exact h_ | (have e_ := (Kd.R_reads' HO497.out).1; omega) | simpa using h_) (seg := [.int .i64 a4]) (j := 1) hcl43 hcc43 (show 2 ≤ 3 from by decide) (x' := (⟨(rd_T160 y495 t482).f0, a4, (rd_T160 y495 t482).f2⟩ : S160)) (k160_mkM _ _ _ (⟨(rd_T160 y495 t482).f0, a4, (rd_T160 y495 t482).f2⟩ : S160) ) (fun _ hk => hk); have hx43_1 := hcc43 1 _ rfl; (try simp only [show (k160).sz = 3 from rfl, Nat.mul_one, Nat.add_zero] at hx43_1); have hf43_1 := hfr43 1; (try simp only [show (k160).sz = 3 from rfl, Nat.mul_one, Nat.add_zero] at hf43_1); clear hcl43 hcc43 hfr43 hM43) | ((with_reducible refine gate_store (t := 2) (p := 62) rfl ?_); refine store_event (t := 2) (p := 62) (v := ?vo_w44) (w1 := (w42.setCell ⟨go38, (t482 : Int).toNat * 3 + 1, none⟩ (.int .i64 a4))) ?hg ?ho ?hn ?hr ?_; (case ho => rfl); (case hg => rfl); (case hn => rfl); (case hr => first | (go_simp; done) | (go_simp; rfl)); intro w44 hw; have hg : w42.grownBy w44 (some go38) := (by rw [hw]; exact HP43.2); have hp_ : Kd.R k160 160 w44 w.heap.size (fun _ => True) (.slice (some ⟨go38, 0, none⟩) y495.length co38) y498 := (by rw [hw, Ny498.out]; exact HP43.1); clear HP43; replace HO497 := Aside0.mk (hp_); replace HB := Aside0.mk ((by rw [hw]; exact below_set (HB.out) GB38.out : Below w.heap.size w w44)); clear hg hw hp_; have p39 : 0 ≤ (t482 : Int) := od_; have q39 : (t482 : Int) < ((y495.length : Int) : Int) := od_; obtain ⟨ce39, hcl39, hM39, hcc39, hfr39⟩ := Kd.R_elem HO497.out z160 (t482 : Int) p39 q39; obtain rfl := k160_openM hM39; have hx39_0 : w44.cell? ⟨go38, (t482 : Int).toNat * 3, none⟩ = some (.int .i64 ((rd_T160 y498 t482).f0)) := hcc39 0 _ rfl; have hx39_1 : w44.cell? ⟨go38, (t482 : Int).toNat * 3 + 1, none⟩ = some (.int .i64 ((rd_T160 y498 t482).f1)) := hcc39 1 _ rfl; have hx39_2 : w44.cell? ⟨go38, (t482 : Int).toNat * 3 + 2, none⟩ = some (.int .i64 ((rd_T160 y498 t482).f2)) := hcc39 2 _ rfl; have hf39_0 : w44.frozen? ⟨go38, (t482 : Int).toNat * 3, none⟩ = false := hfr39 0; have hf39_1 : w44.frozen? ⟨go38, (t482 : Int).toNat * 3 + 1, none⟩ = false := hfr39 1; have hf39_2 : w44.frozen? ⟨go38, (t482 : Int).toNat * 3 + 2, none⟩ = false := hfr39 2; clear hcl39 hcc39 hfr39 hM39; replace p39 := eq_true p39; replace q39 := eq_true q39; have HX45 := Aside0.mk (show Kd.R k160 160 w44 w.heap.size (fun _ => True) (.slice (some ⟨go38, 0, none⟩) y495.length co38) y498 from (rk_ HO497.out)); obtain ⟨ce45, hcl45, hM45, hcc45, hfr45⟩ := Kd.R_elem HX45.out z160 (t482 : Int) od_ (by have h_ : (t482 : Int) < ((y495.length : Int) : Int) := od_; first | exact h_ | (have e_ := (Kd.R_reads' HO497.out).1; omega) | simpa using h_); obtain rfl := k160_openM hM45; have HP45 := Kd.R_seg HX45.out (t482 : Int) od_ (by have h_ : (t482 : Int) < ((y495.length : Int) : Int) := od_; first | exact h_ | (have e_ := (Kd.R_reads' HO497.out).1; omega) | simpa using h_) (seg := [.int .i64 a5]) (j := 2) hcl45 hcc45 (show 3 ≤ 3 from by decide) (x' := (⟨(rd_T160 y498 t482).f0, (rd_T160 y498 t482).f1, a5⟩ : S160)) (k160_mkM _ _ _ (⟨(rd_T160 y498 t482).f0, (rd_T160 y498 t482).f1, a5⟩ : S160) ) (fun _ hk => hk); have hx45_2 := hcc45 2 _ rfl; (try simp only [show (k160).sz = 3 from rfl, Nat.mul_one, Nat.add_zero] at hx45_2); have hf45_2 := hfr45 2; (try simp only [show (k160).sz = 3 from rfl, Nat.mul_one, Nat.add_zero] at hf45_2); clear hcl45 hcc45 hfr45 hM45) | ((with_reducible refine gate_store (t := 2) (p := 67) rfl ?_); refine store_event (t := 2) (p := 67) (v := ?vo_w46) (w1 := (w44.setCell ⟨go38, (t482 : Int).toNat * 3 + 2, none⟩ (.int .i64 a5))) ?hg ?ho ?hn ?hr ?_; (case ho => rfl); (case hg => rfl); (case hn => rfl); (case hr => first | (go_simp; done) | (go_simp; rfl)); intro w46 hw; have hg : w44.grownBy w46 (some go38) := (by rw [hw]; exact HP45.2); have hp_ : Kd.R k160 160 w46 w.heap.size (fun _ => True) (.slice (some ⟨go38, 0, none⟩) y495.length co38) y499 := (by rw [hw, Ny499.out]; exact HP45.1); clear HP45; replace HO497 := Aside0.mk (hp_); replace HB := Aside0.mk ((by rw [hw]; exact below_set (HB.out) GB38.out : Below w.heap.size w w46)); clear hg hw hp_))
           go_ret2
           exact ⟨_, by first | rfl | (simp [errW_none, errW_some] <;> rfl) | (simp [*, errW_none, errW_some] <;> rfl), rk_ HO497.out, bl_ HB.out⟩
         ·rw [if_neg c19] at H
          have c19b0 : (x14_16 == 0) = false := beq_eq_false_iff_ne.mpr c19
          have c19b1 : (x14_16 != 0) = true := bne_iff_ne.mpr c19
          simp only [Option.some.injEq, Prod.mk.injEq] at H
          obtain ⟨rfl, rfl⟩ := H
          go_wp2
          go_ret2
          exact ⟨_, by first | rfl | (simp [errW_none, errW_some] <;> rfl) | (simp [*, errW_none, errW_some] <;> rfl), by first | exact Kd.R_nil _ _ _ _ _ | exact Kd.N_nil _ _ _ _ _ | exact Kd.V_nil _ _ _ _ _ | exact Kd.Q_nil _ _ _ _ _ | exact Kd.S_nil _ _ _ _ _, bl_ HB.out⟩
def spec_DrawCueAt.f (k : Nat) (l0 : List Int) : Option ((List (S200)) × Int × (List (S160)) × Int × Int) := (spec_l01From.f k l0).bind fun bt500 => ((spec_DrawMoveWire.f k l0).bind fun bt504 => (if (bt504.2.2.1.length : Int) > 0 then ((spec_l01Next.f bt500.1 bt500.2.1 bt500.2.2 2).bind fun bt514 => (if bt514.1 = 0 then ((spec_l01Next.f bt500.1 bt514.2.1 bt514.2.2 (bt504.2.2.1.length : Int)).bind fun bt517 => (if 0 ≤ bt517.1 then (if bt517.1 < (bt504.2.2.1.length : Int) then (some (bt504.1, bt504.2.1, bt504.2.2.1, (rd_T160 bt504.2.2.1 bt517.1).f1, (rd_T160 bt504.2.2.1 bt517.1).f2)) else (none)) else (none))) else (some (bt504.1, bt504.2.1, bt504.2.2.1, bt504.2.2.2.2.1, bt504.2.2.2.2.2)))) else (some (bt504.1, bt504.2.1, bt504.2.2.1, bt504.2.2.2.2.1, bt504.2.2.2.2.2))))
set_option maxHeartbeats 8000000 in
set_option maxRecDepth 100000 in
theorem spec_DrawCueAt.calls (k : Nat) (A0 : Option Addr) (c0 : Nat) (l0 : List Int) (r1 : List (S200)) (r2 : Int) (r3 : List (S160)) (r4 : Int) (r5 : Int) (w : World) (hr0 : Kd.C (Kd.int .u8) w A0 l0.length l0) (hc0 : l0.length ≤ c0) (h : spec_DrawCueAt.f k l0 = some (r1, r2, r3, r4, r5)) :
  Calls Try.prog 36 #[.slice A0 l0.length c0] w fun e w' => ∃ v0_ v2_ : Value, e = .returned (.tuple #[v0_, .int .i64 r2, v2_, .int .i64 r4, .int .i64 r5]) ∧ Kd.R k200 200 w' w.heap.size (fun _ => True) v0_ r1 ∧ Kd.R k160 160 w' w.heap.size (fun _ => True) v2_ r3 ∧ Below w.heap.size w w' := by
 have hu160 := Try.underlying160
 have HR0 := Aside0.mk hr0
 have HC0 := Aside0.mk hc0
 clear hr0 hc0
 have HB := Aside0.mk (Below.refl w.heap.size w)
 have H : ((spec_l01From.f k l0).bind fun bt500 => ((spec_DrawMoveWire.f k l0).bind fun bt504 => (if (bt504.2.2.1.length : Int) > 0 then ((spec_l01Next.f bt500.1 bt500.2.1 bt500.2.2 2).bind fun bt514 => (if bt514.1 = 0 then ((spec_l01Next.f bt500.1 bt514.2.1 bt514.2.2 (bt504.2.2.1.length : Int)).bind fun bt517 => (if 0 ≤ bt517.1 then (if bt517.1 < (bt504.2.2.1.length : Int) then (some (bt504.1, bt504.2.1, bt504.2.2.1, (rd_T160 bt504.2.2.1 bt517.1).f1, (rd_T160 bt504.2.2.1 bt517.1).f2)) else (none)) else (none))) else (some (bt504.1, bt504.2.1, bt504.2.2.1, bt504.2.2.2.2.1, bt504.2.2.2.2.2)))) else (some (bt504.1, bt504.2.1, bt504.2.2.1, bt504.2.2.2.2.1, bt504.2.2.2.2.2))))) = some (r1, r2, r3, r4, r5) := h
 clear h
 replace H := Option.bind_eq_some_iff.mp H
 obtain ⟨⟨t500, t501, t502⟩, A20, H⟩ := H
 replace H : ((spec_DrawMoveWire.f k l0).bind fun bt504 => (if (bt504.2.2.1.length : Int) > 0 then ((spec_l01Next.f t500 t501 t502 2).bind fun bt514 => (if bt514.1 = 0 then ((spec_l01Next.f t500 bt514.2.1 bt514.2.2 (bt504.2.2.1.length : Int)).bind fun bt517 => (if 0 ≤ bt517.1 then (if bt517.1 < (bt504.2.2.1.length : Int) then (some (bt504.1, bt504.2.1, bt504.2.2.1, (rd_T160 bt504.2.2.1 bt517.1).f1, (rd_T160 bt504.2.2.1 bt517.1).f2)) else (none)) else (none))) else (some (bt504.1, bt504.2.1, bt504.2.2.1, bt504.2.2.2.2.1, bt504.2.2.2.2.2)))) else (some (bt504.1, bt504.2.1, bt504.2.2.1, bt504.2.2.2.2.1, bt504.2.2.2.2.2)))) = some (r1, r2, r3, r4, r5) := H
 have A2 := Aside0.mk A20
 clear A20
 replace H := Option.bind_eq_some_iff.mp H
 obtain ⟨⟨t504, t505, t506, t507, t508, t509⟩, A30, H⟩ := H
 replace H : (if (t506.length : Int) > 0 then ((spec_l01Next.f t500 t501 t502 2).bind fun bt514 => (if bt514.1 = 0 then ((spec_l01Next.f t500 bt514.2.1 bt514.2.2 (t506.length : Int)).bind fun bt517 => (if 0 ≤ bt517.1 then (if bt517.1 < (t506.length : Int) then (some (t504, t505, t506, (rd_T160 t506 bt517.1).f1, (rd_T160 t506 bt517.1).f2)) else (none)) else (none))) else (some (t504, t505, t506, t508, t509)))) else (some (t504, t505, t506, t508, t509))) = some (r1, r2, r3, r4, r5) := H
 have A3 := Aside0.mk A30
 clear A30
 by_cases c4 : (t506.length : Int) > 0
 ·rw [if_pos c4] at H
  have c4b0 : decide (0 < (t506.length : Int)) = true := decide_eq_true c4
  have c4b1 : decide (0 < t506.length) = true := decide_eq_true (by omega)
  clear c4
  replace H := Option.bind_eq_some_iff.mp H
  obtain ⟨⟨t514, t515, t516⟩, A50, H⟩ := H
  replace H : (if t514 = 0 then ((spec_l01Next.f t500 t515 t516 (t506.length : Int)).bind fun bt517 => (if 0 ≤ bt517.1 then (if bt517.1 < (t506.length : Int) then (some (t504, t505, t506, (rd_T160 t506 bt517.1).f1, (rd_T160 t506 bt517.1).f2)) else (none)) else (none))) else (some (t504, t505, t506, t508, t509))) = some (r1, r2, r3, r4, r5) := H
  have A5 := Aside0.mk A50
  clear A50
  by_cases c6 : t514 = 0
  ·rw [if_pos c6] at H
   have c6b0 : (t514 == 0) = true := beq_iff_eq.mpr c6
   have c6b1 : (t514 != 0) = false := bne_eq_false_iff_eq.mpr c6
   clear c6
   replace H := Option.bind_eq_some_iff.mp H
   obtain ⟨⟨t517, t518, t519⟩, A70, H⟩ := H
   replace H : (if 0 ≤ t517 then (if t517 < (t506.length : Int) then (some (t504, t505, t506, (rd_T160 t506 t517).f1, (rd_T160 t506 t517).f2)) else (none)) else (none)) = some (r1, r2, r3, r4, r5) := H
   have A7 := Aside0.mk A70
   clear A70
   by_cases c8 : 0 ≤ t517
   case neg =>
    rw [if_neg c8] at H
    exact absurd H (by simp)
   rw [if_pos c8] at H
   have c8b0 : decide (0 ≤ t517) = true := decide_eq_true c8
   clear c8
   by_cases c9 : t517 < (t506.length : Int)
   case neg =>
    rw [if_neg c9] at H
    exact absurd H (by simp)
   rw [if_pos c9] at H
   have c9b0 : decide (t517 < (t506.length : Int)) = true := decide_eq_true c9
   clear c9
   simp only [Option.some.injEq, Prod.mk.injEq] at H
   obtain ⟨rfl, rfl, rfl, rfl, rfl⟩ := H
   go_enter Try.func36, Try.ntmps36
   go_wp2_with (first | (go_at_call 123; (with_reducible refine (spec_l01From.calls k _ _ l0 t500 t501 t502 w _ ?side1 ?side2 ?side3 A2.out).mono ?_); (case side1 => exact r11_ HB.out); (case side2 => exact HR0.out); (case side3 => exact HC0.out); rintro e w10 ⟨g503, rfl, hi, hb, hb2⟩; replace HB := Aside0.mk (hb); have HI503 := Aside0.mk (hi); (try clear hb); (try clear hb2); (try clear hk); (try clear hi)) | (go_at_call 33; (with_reducible refine (spec_DrawMoveWire.calls k _ _ l0 t504 t505 t506 t507 t508 t509 _ ?side1 ?side2 A3.out).mono ?_); (case side1 => exact r5_ HR0.out HB.out); (case side2 => exact HC0.out); rintro e w11 ⟨v510, v512, rfl, ho0, ho1, hb⟩; have HO511 := Aside0.mk (Kd.R_lower ho0 (below_size (r1_ HB.out HI503.out))); have HO513 := Aside0.mk (Kd.R_lower ho1 (below_size (r1_ HB.out HI503.out))); replace HB := Aside0.mk (below_step (r1_ HB.out HI503.out) hb); replace HI503 := Aside0.mk (IsS215.below (r0_ HI503.out) hb); (try clear hb); (try clear hb2); (try clear hk); (try clear hi); (try clear ho0); (try clear ho1); obtain ⟨Ao12, co12, eo12⟩ := Kd.R_slice HO513.out; subst eo12) | (go_at_call 129; (with_reducible refine (spec_l01Next.calls g503 t500 t501 t502 2 t514 t515 t516 w _ ?side1 ?side2 A5.out).mono ?_); (case side1 => exact r0_ HI503.out); (case side2 => exact r1_ HB.out HI503.out); rintro e w13 ⟨rfl, hi, hb, hk⟩; replace HO511 := Aside0.mk (Kd.R_mono (Kd.R_keep (IsS215.apart (show IsS215 w _ g503 t500 t501 t502 from r0_ HI503.out) (rk_ HO511.out) (by decide)) hk (fun _ h => h.2)) (fun _ h => h.1)); replace HO513 := Aside0.mk (Kd.R_mono (Kd.R_keep (IsS215.apart (show IsS215 w _ g503 t500 t501 t502 from r0_ HI503.out) (rk_ HO513.out) (by decide)) hk (fun _ h => h.2)) (fun _ h => h.1)); replace HB := Aside0.mk (hb); replace HI503 := Aside0.mk (hi); (try clear hb); (try clear hb2); (try clear hk); (try clear hi)) | (go_at_call 129; (with_reducible refine (spec_l01Next.calls g503 t500 t515 t516 (t506.length : Int) t517 t518 t519 w _ ?side1 ?side2 A7.out).mono ?_); (case side1 => exact r0_ HI503.out); (case side2 => exact r1_ HB.out HI503.out); rintro e w14 ⟨rfl, hi, hb, hk⟩; replace HO511 := Aside0.mk (Kd.R_mono (Kd.R_keep (IsS215.apart (show IsS215 w _ g503 t500 t515 t516 from r0_ HI503.out) (rk_ HO511.out) (by decide)) hk (fun _ h => h.2)) (fun _ h => h.1)); replace HO513 := Aside0.mk (Kd.R_mono (Kd.R_keep (IsS215.apart (show IsS215 w _ g503 t500 t515 t516 from r0_ HI503.out) (rk_ HO513.out) (by decide)) hk (fun _ h => h.2)) (fun _ h => h.1)); replace HB := Aside0.mk (hb); replace HI503 := Aside0.mk (hi); (try clear hb); (try clear hb2); (try clear hk); (try clear hi); have p520 : 0 ≤ (t517 : Int) := od_; have q520 : t517 < (t506.length : Int) := od_; obtain ⟨ad520, e520, hx520_0, hx520_1, hx520_2⟩ := at_T160 (Kd.R_reads' HO513.out).2.2 t517 p520 q520; cases e520; replace p520 := eq_true p520; replace q520 := eq_true q520) | ((with_reducible refine gate_dst (N := 14) rfl ?_); refine box_event ?hg (N := 14) ?hd (cs := #[.int .i64 0, .int .i64 0, .int .i64 0]) (t := 160) ?hr ?_; (case hd => rfl); (case hg => rfl); (case hr => first | (go_simp; done) | (go_simp; rfl)); intro gb521 hg w15 hbox hb; replace HO511 := Aside0.mk (Kd.R_below (rk_ HO511.out) hb); replace HO513 := Aside0.mk (Kd.R_below (Kd.R_elderB (rk_ HO513.out) gb521 (Nat.le_of_eq hg.symm)) hb); have BK521 := Aside0.mk (hbox); have GW521 := Aside0.mk ((by rw [hg]; exact (below_size (r1_ HB.out HI503.out)) : w.heap.size ≤ gb521)); have GE521 := Aside0.mk ((by rw [hg]; exact (below_size (r1_ HB.out HI503.out)) : w.heap.size ≤ gb521)); replace HB := Aside0.mk (below_step (r1_ HB.out HI503.out) hb); have NB503_521 := Aside0.mk ((by rw [hg]; exact Nat.ne_of_lt (IsS215.lt (show IsS215 w _ g503 t500 t518 t519 from r0_ HI503.out)) : g503 ≠ gb521)); have NB521_503 := Aside0.mk ((by rw [hg]; exact Nat.ne_of_gt (IsS215.lt (show IsS215 w _ g503 t500 t518 t519 from r0_ HI503.out)) : gb521 ≠ g503)); replace HI503 := Aside0.mk (IsS215.below (r0_ HI503.out) hb); clear hb hbox hg; have hnb16 := NB521_503.out; have hnc16 := NB503_521.out; have hcz17_0 : w15.cell? ⟨gb521, 0, none⟩ = some (.int .i64 0) := (blk_cell BK521.out 0).trans rfl; have hcz17_1 : w15.cell? ⟨gb521, 1, none⟩ = some (.int .i64 0) := (blk_cell BK521.out 1).trans rfl; have hcz17_2 : w15.cell? ⟨gb521, 2, none⟩ = some (.int .i64 0) := (blk_cell BK521.out 2).trans rfl; have hfz17_0 := blk_frozen BK521.out 0; have hfz17_1 := blk_frozen BK521.out 1; have hfz17_2 := blk_frozen BK521.out 2))
   repeat (go_quiet (first | (go_at_call 123; (with_reducible refine (spec_l01From.calls k _ _ l0 t500 t501 t502 w _ ?side1 ?side2 ?side3 A2.out).mono ?_); (case side1 => exact r11_ HB.out); (case side2 => exact HR0.out); (case side3 => exact HC0.out); rintro e w10 ⟨g503, rfl, hi, hb, hb2⟩; replace HB := Aside0.mk (hb); have HI503 := Aside0.mk (hi); (try clear hb); (try clear hb2); (try clear hk); (try clear hi)) | (go_at_call 33; (with_reducible refine (spec_DrawMoveWire.calls k _ _ l0 t504 t505 t506 t507 t508 t509 _ ?side1 ?side2 A3.out).mono ?_); (case side1 => exact r5_ HR0.out HB.out); (case side2 => exact HC0.out); rintro e w11 ⟨v510, v512, rfl, ho0, ho1, hb⟩; have HO511 := Aside0.mk (Kd.R_lower ho0 (below_size (r1_ HB.out HI503.out))); have HO513 := Aside0.mk (Kd.R_lower ho1 (below_size (r1_ HB.out HI503.out))); replace HB := Aside0.mk (below_step (r1_ HB.out HI503.out) hb); replace HI503 := Aside0.mk (IsS215.below (r0_ HI503.out) hb); (try clear hb); (try clear hb2); (try clear hk); (try clear hi); (try clear ho0); (try clear ho1); obtain ⟨Ao12, co12, eo12⟩ := Kd.R_slice HO513.out; subst eo12) | (go_at_call 129; (with_reducible refine (spec_l01Next.calls g503 t500 t501 t502 2 t514 t515 t516 w _ ?side1 ?side2 A5.out).mono ?_); (case side1 => exact r0_ HI503.out); (case side2 => exact r1_ HB.out HI503.out); rintro e w13 ⟨rfl, hi, hb, hk⟩; replace HO511 := Aside0.mk (Kd.R_mono (Kd.R_keep (IsS215.apart (show IsS215 w _ g503 t500 t501 t502 from r0_ HI503.out) (rk_ HO511.out) (by decide)) hk (fun _ h => h.2)) (fun _ h => h.1)); replace HO513 := Aside0.mk (Kd.R_mono (Kd.R_keep (IsS215.apart (show IsS215 w _ g503 t500 t501 t502 from r0_ HI503.out) (rk_ HO513.out) (by decide)) hk (fun _ h => h.2)) (fun _ h => h.1)); replace HB := Aside0.mk (hb); replace HI503 := Aside0.mk (hi); (try clear hb); (try clear hb2); (try clear hk); (try clear hi)) | (go_at_call 129; (with_reducible refine (spec_l01Next.calls g503 t500 t515 t516 (t506.length : Int) t517 t518 t519 w _ ?side1 ?side2 A7.out).mono ?_); (case side1 => exact r0_ HI503.out); (case side2 => exact r1_ HB.out HI503.out); rintro e w14 ⟨rfl, hi, hb, hk⟩; replace HO511 := Aside0.mk (Kd.R_mono (Kd.R_keep (IsS215.apart (show IsS215 w _ g503 t500 t515 t516 from r0_ HI503.out) (rk_ HO511.out) (by decide)) hk (fun _ h => h.2)) (fun _ h => h.1)); replace HO513 := Aside0.mk (Kd.R_mono (Kd.R_keep (IsS215.apart (show IsS215 w _ g503 t500 t515 t516 from r0_ HI503.out) (rk_ HO513.out) (by decide)) hk (fun _ h => h.2)) (fun _ h => h.1)); replace HB := Aside0.mk (hb); replace HI503 := Aside0.mk (hi); (try clear hb); (try clear hb2); (try clear hk); (try clear hi); have p520 : 0 ≤ (t517 : Int) := od_; have q520 : t517 < (t506.length : Int) := od_; obtain ⟨ad520, e520, hx520_0, hx520_1, hx520_2⟩ := at_T160 (Kd.R_reads' HO513.out).2.2 t517 p520 q520; cases e520; replace p520 := eq_true p520; replace q520 := eq_true q520) | ((with_reducible refine gate_dst (N := 14) rfl ?_); refine box_event ?hg (N := 14) ?hd (cs := #[.int .i64 0, .int .i64 0, .int .i64 0]) (t := 160) ?hr ?_; (case hd => rfl); (case hg => rfl); (case hr => first | (go_simp; done) | (go_simp; rfl)); intro gb521 hg w15 hbox hb; replace HO511 := Aside0.mk (Kd.R_below (rk_ HO511.out) hb); replace HO513 := Aside0.mk (Kd.R_below (Kd.R_elderB (rk_ HO513.out) gb521 (Nat.le_of_eq hg.symm)) hb); have BK521 := Aside0.mk (hbox); have GW521 := Aside0.mk ((by rw [hg]; exact (below_size (r1_ HB.out HI503.out)) : w.heap.size ≤ gb521)); have GE521 := Aside0.mk ((by rw [hg]; exact (below_size (r1_ HB.out HI503.out)) : w.heap.size ≤ gb521)); replace HB := Aside0.mk (below_step (r1_ HB.out HI503.out) hb); have NB503_521 := Aside0.mk ((by rw [hg]; exact Nat.ne_of_lt (IsS215.lt (show IsS215 w _ g503 t500 t518 t519 from r0_ HI503.out)) : g503 ≠ gb521)); have NB521_503 := Aside0.mk ((by rw [hg]; exact Nat.ne_of_gt (IsS215.lt (show IsS215 w _ g503 t500 t518 t519 from r0_ HI503.out)) : gb521 ≠ g503)); replace HI503 := Aside0.mk (IsS215.below (r0_ HI503.out) hb); clear hb hbox hg; have hnb16 := NB521_503.out; have hnc16 := NB503_521.out; have hcz17_0 : w15.cell? ⟨gb521, 0, none⟩ = some (.int .i64 0) := (blk_cell BK521.out 0).trans rfl; have hcz17_1 : w15.cell? ⟨gb521, 1, none⟩ = some (.int .i64 0) := (blk_cell BK521.out 1).trans rfl; have hcz17_2 : w15.cell? ⟨gb521, 2, none⟩ = some (.int .i64 0) := (blk_cell BK521.out 2).trans rfl; have hfz17_0 := blk_frozen BK521.out 0; have hfz17_1 := blk_frozen BK521.out 1; have hfz17_2 := blk_frozen BK521.out 2)); try go_wp2_with (first | (go_at_call 123; (with_reducible refine (spec_l01From.calls k _ _ l0 t500 t501 t502 w _ ?side1 ?side2 ?side3 A2.out).mono ?_); (case side1 => exact r11_ HB.out); (case side2 => exact HR0.out); (case side3 => exact HC0.out); rintro e w10 ⟨g503, rfl, hi, hb, hb2⟩; replace HB := Aside0.mk (hb); have HI503 := Aside0.mk (hi); (try clear hb); (try clear hb2); (try clear hk); (try clear hi)) | (go_at_call 33; (with_reducible refine (spec_DrawMoveWire.calls k _ _ l0 t504 t505 t506 t507 t508 t509 _ ?side1 ?side2 A3.out).mono ?_); (case side1 => exact r5_ HR0.out HB.out); (case side2 => exact HC0.out); rintro e w11 ⟨v510, v512, rfl, ho0, ho1, hb⟩; have HO511 := Aside0.mk (Kd.R_lower ho0 (below_size (r1_ HB.out HI503.out))); have HO513 := Aside0.mk (Kd.R_lower ho1 (below_size (r1_ HB.out HI503.out))); replace HB := Aside0.mk (below_step (r1_ HB.out HI503.out) hb); replace HI503 := Aside0.mk (IsS215.below (r0_ HI503.out) hb); (try clear hb); (try clear hb2); (try clear hk); (try clear hi); (try clear ho0); (try clear ho1); obtain ⟨Ao12, co12, eo12⟩ := Kd.R_slice HO513.out; subst eo12) | (go_at_call 129; (with_reducible refine (spec_l01Next.calls g503 t500 t501 t502 2 t514 t515 t516 w _ ?side1 ?side2 A5.out).mono ?_); (case side1 => exact r0_ HI503.out); (case side2 => exact r1_ HB.out HI503.out); rintro e w13 ⟨rfl, hi, hb, hk⟩; replace HO511 := Aside0.mk (Kd.R_mono (Kd.R_keep (IsS215.apart (show IsS215 w _ g503 t500 t501 t502 from r0_ HI503.out) (rk_ HO511.out) (by decide)) hk (fun _ h => h.2)) (fun _ h => h.1)); replace HO513 := Aside0.mk (Kd.R_mono (Kd.R_keep (IsS215.apart (show IsS215 w _ g503 t500 t501 t502 from r0_ HI503.out) (rk_ HO513.out) (by decide)) hk (fun _ h => h.2)) (fun _ h => h.1)); replace HB := Aside0.mk (hb); replace HI503 := Aside0.mk (hi); (try clear hb); (try clear hb2); (try clear hk); (try clear hi)) | (go_at_call 129; (with_reducible refine (spec_l01Next.calls g503 t500 t515 t516 (t506.length : Int) t517 t518 t519 w _ ?side1 ?side2 A7.out).mono ?_); (case side1 => exact r0_ HI503.out); (case side2 => exact r1_ HB.out HI503.out); rintro e w14 ⟨rfl, hi, hb, hk⟩; replace HO511 := Aside0.mk (Kd.R_mono (Kd.R_keep (IsS215.apart (show IsS215 w _ g503 t500 t515 t516 from r0_ HI503.out) (rk_ HO511.out) (by decide)) hk (fun _ h => h.2)) (fun _ h => h.1)); replace HO513 := Aside0.mk (Kd.R_mono (Kd.R_keep (IsS215.apart (show IsS215 w _ g503 t500 t515 t516 from r0_ HI503.out) (rk_ HO513.out) (by decide)) hk (fun _ h => h.2)) (fun _ h => h.1)); replace HB := Aside0.mk (hb); replace HI503 := Aside0.mk (hi); (try clear hb); (try clear hb2); (try clear hk); (try clear hi); have p520 : 0 ≤ (t517 : Int) := od_; have q520 : t517 < (t506.length : Int) := od_; obtain ⟨ad520, e520, hx520_0, hx520_1, hx520_2⟩ := at_T160 (Kd.R_reads' HO513.out).2.2 t517 p520 q520; cases e520; replace p520 := eq_true p520; replace q520 := eq_true q520) | ((with_reducible refine gate_dst (N := 14) rfl ?_); refine box_event ?hg (N := 14) ?hd (cs := #[.int .i64 0, .int .i64 0, .int .i64 0]) (t := 160) ?hr ?_; (case hd => rfl); (case hg => rfl); (case hr => first | (go_simp; done) | (go_simp; rfl)); intro gb521 hg w15 hbox hb; replace HO511 := Aside0.mk (Kd.R_below (rk_ HO511.out) hb); replace HO513 := Aside0.mk (Kd.R_below (Kd.R_elderB (rk_ HO513.out) gb521 (Nat.le_of_eq hg.symm)) hb); have BK521 := Aside0.mk (hbox); have GW521 := Aside0.mk ((by rw [hg]; exact (below_size (r1_ HB.out HI503.out)) : w.heap.size ≤ gb521)); have GE521 := Aside0.mk ((by rw [hg]; exact (below_size (r1_ HB.out HI503.out)) : w.heap.size ≤ gb521)); replace HB := Aside0.mk (below_step (r1_ HB.out HI503.out) hb); have NB503_521 := Aside0.mk ((by rw [hg]; exact Nat.ne_of_lt (IsS215.lt (show IsS215 w _ g503 t500 t518 t519 from r0_ HI503.out)) : g503 ≠ gb521)); have NB521_503 := Aside0.mk ((by rw [hg]; exact Nat.ne_of_gt (IsS215.lt (show IsS215 w _ g503 t500 t518 t519 from r0_ HI503.out)) : gb521 ≠ g503)); replace HI503 := Aside0.mk (IsS215.below (r0_ HI503.out) hb); clear hb hbox hg; have hnb16 := NB521_503.out; have hnc16 := NB503_521.out; have hcz17_0 : w15.cell? ⟨gb521, 0, none⟩ = some (.int .i64 0) := (blk_cell BK521.out 0).trans rfl; have hcz17_1 : w15.cell? ⟨gb521, 1, none⟩ = some (.int .i64 0) := (blk_cell BK521.out 1).trans rfl; have hcz17_2 : w15.cell? ⟨gb521, 2, none⟩ = some (.int .i64 0) := (blk_cell BK521.out 2).trans rfl; have hfz17_0 := blk_frozen BK521.out 0; have hfz17_1 := blk_frozen BK521.out 1; have hfz17_2 := blk_frozen BK521.out 2)))
   refine bodyPost_ret (results_list (rs := [.tmp 2, .tmp 3, .tmp 4, .tmp 5, .tmp 6]) rfl (by simp) (.tmp (.tmp (.tmp (.tmp (.tmp .nil)))))) rfl ?_
   exact ⟨_, _, by first | rfl | (simp [errW_none, errW_some] <;> rfl) | (simp [*, errW_none, errW_some] <;> rfl), rk_ (Kd.R_mono (Kd.R_far (p := ⟨gb521, 2, none⟩) (Kd.R_far (p := ⟨gb521, 1, none⟩) (Kd.R_far (p := ⟨gb521, 0, none⟩) (Kd.R_types HO511.out BK521.out (by decide)) (fun _ hk => hk.2) (.int .i64 ((rd_T160 t506 t517).f0))) (fun _ hk => hk.2) (.int .i64 ((rd_T160 t506 t517).f1))) (fun _ hk => hk.2) (.int .i64 ((rd_T160 t506 t517).f2))) (fun _ hk => trivial)), rk_ (Kd.R_mono (Kd.R_far (p := ⟨gb521, 2, none⟩) (Kd.R_far (p := ⟨gb521, 1, none⟩) (Kd.R_far (p := ⟨gb521, 0, none⟩) (Kd.R_mono HO513.out (fun k_ hk => (⟨hk, hk.2⟩ : _ ∧ k_ ≠ gb521))) (fun _ hk => hk.2) (.int .i64 ((rd_T160 t506 t517).f0))) (fun _ hk => hk.2) (.int .i64 ((rd_T160 t506 t517).f1))) (fun _ hk => hk.2) (.int .i64 ((rd_T160 t506 t517).f2))) (fun _ hk => trivial)), r10_ HB.out HI503.out GE521.out⟩
  ·rw [if_neg c6] at H
   have c6b0 : (t514 == 0) = false := beq_eq_false_iff_ne.mpr c6
   have c6b1 : (t514 != 0) = true := bne_iff_ne.mpr c6
   simp only [Option.some.injEq, Prod.mk.injEq] at H
   obtain ⟨rfl, rfl, rfl, rfl, rfl⟩ := H
   go_enter Try.func36, Try.ntmps36
   go_wp2_with (first | (go_at_call 123; (with_reducible refine (spec_l01From.calls k _ _ l0 t500 t501 t502 w _ ?side1 ?side2 ?side3 A2.out).mono ?_); (case side1 => exact r11_ HB.out); (case side2 => exact HR0.out); (case side3 => exact HC0.out); rintro e w18 ⟨g503, rfl, hi, hb, hb2⟩; replace HB := Aside0.mk (hb); have HI503 := Aside0.mk (hi); (try clear hb); (try clear hb2); (try clear hk); (try clear hi)) | (go_at_call 33; (with_reducible refine (spec_DrawMoveWire.calls k _ _ l0 t504 t505 t506 t507 t508 t509 _ ?side1 ?side2 A3.out).mono ?_); (case side1 => exact r5_ HR0.out HB.out); (case side2 => exact HC0.out); rintro e w19 ⟨v510, v512, rfl, ho0, ho1, hb⟩; have HO511 := Aside0.mk (Kd.R_lower ho0 (below_size (r1_ HB.out HI503.out))); have HO513 := Aside0.mk (Kd.R_lower ho1 (below_size (r1_ HB.out HI503.out))); replace HB := Aside0.mk (below_step (r1_ HB.out HI503.out) hb); replace HI503 := Aside0.mk (IsS215.below (r0_ HI503.out) hb); (try clear hb); (try clear hb2); (try clear hk); (try clear hi); (try clear ho0); (try clear ho1); obtain ⟨Ao20, co20, eo20⟩ := Kd.R_slice HO513.out; subst eo20) | (go_at_call 129; (with_reducible refine (spec_l01Next.calls g503 t500 t501 t502 2 t514 t515 t516 w _ ?side1 ?side2 A5.out).mono ?_); (case side1 => exact r0_ HI503.out); (case side2 => exact r1_ HB.out HI503.out); rintro e w21 ⟨rfl, hi, hb, hk⟩; replace HO511 := Aside0.mk (Kd.R_mono (Kd.R_keep (IsS215.apart (show IsS215 w _ g503 t500 t501 t502 from r0_ HI503.out) (rk_ HO511.out) (by decide)) hk (fun _ h => h.2)) (fun _ h => h.1)); replace HO513 := Aside0.mk (Kd.R_mono (Kd.R_keep (IsS215.apart (show IsS215 w _ g503 t500 t501 t502 from r0_ HI503.out) (rk_ HO513.out) (by decide)) hk (fun _ h => h.2)) (fun _ h => h.1)); replace HB := Aside0.mk (hb); replace HI503 := Aside0.mk (hi); (try clear hb); (try clear hb2); (try clear hk); (try clear hi)))
   repeat (go_quiet (first | (go_at_call 123; (with_reducible refine (spec_l01From.calls k _ _ l0 t500 t501 t502 w _ ?side1 ?side2 ?side3 A2.out).mono ?_); (case side1 => exact r11_ HB.out); (case side2 => exact HR0.out); (case side3 => exact HC0.out); rintro e w18 ⟨g503, rfl, hi, hb, hb2⟩; replace HB := Aside0.mk (hb); have HI503 := Aside0.mk (hi); (try clear hb); (try clear hb2); (try clear hk); (try clear hi)) | (go_at_call 33; (with_reducible refine (spec_DrawMoveWire.calls k _ _ l0 t504 t505 t506 t507 t508 t509 _ ?side1 ?side2 A3.out).mono ?_); (case side1 => exact r5_ HR0.out HB.out); (case side2 => exact HC0.out); rintro e w19 ⟨v510, v512, rfl, ho0, ho1, hb⟩; have HO511 := Aside0.mk (Kd.R_lower ho0 (below_size (r1_ HB.out HI503.out))); have HO513 := Aside0.mk (Kd.R_lower ho1 (below_size (r1_ HB.out HI503.out))); replace HB := Aside0.mk (below_step (r1_ HB.out HI503.out) hb); replace HI503 := Aside0.mk (IsS215.below (r0_ HI503.out) hb); (try clear hb); (try clear hb2); (try clear hk); (try clear hi); (try clear ho0); (try clear ho1); obtain ⟨Ao20, co20, eo20⟩ := Kd.R_slice HO513.out; subst eo20) | (go_at_call 129; (with_reducible refine (spec_l01Next.calls g503 t500 t501 t502 2 t514 t515 t516 w _ ?side1 ?side2 A5.out).mono ?_); (case side1 => exact r0_ HI503.out); (case side2 => exact r1_ HB.out HI503.out); rintro e w21 ⟨rfl, hi, hb, hk⟩; replace HO511 := Aside0.mk (Kd.R_mono (Kd.R_keep (IsS215.apart (show IsS215 w _ g503 t500 t501 t502 from r0_ HI503.out) (rk_ HO511.out) (by decide)) hk (fun _ h => h.2)) (fun _ h => h.1)); replace HO513 := Aside0.mk (Kd.R_mono (Kd.R_keep (IsS215.apart (show IsS215 w _ g503 t500 t501 t502 from r0_ HI503.out) (rk_ HO513.out) (by decide)) hk (fun _ h => h.2)) (fun _ h => h.1)); replace HB := Aside0.mk (hb); replace HI503 := Aside0.mk (hi); (try clear hb); (try clear hb2); (try clear hk); (try clear hi))); try go_wp2_with (first | (go_at_call 123; (with_reducible refine (spec_l01From.calls k _ _ l0 t500 t501 t502 w _ ?side1 ?side2 ?side3 A2.out).mono ?_); (case side1 => exact r11_ HB.out); (case side2 => exact HR0.out); (case side3 => exact HC0.out); rintro e w18 ⟨g503, rfl, hi, hb, hb2⟩; replace HB := Aside0.mk (hb); have HI503 := Aside0.mk (hi); (try clear hb); (try clear hb2); (try clear hk); (try clear hi)) | (go_at_call 33; (with_reducible refine (spec_DrawMoveWire.calls k _ _ l0 t504 t505 t506 t507 t508 t509 _ ?side1 ?side2 A3.out).mono ?_); (case side1 => exact r5_ HR0.out HB.out); (case side2 => exact HC0.out); rintro e w19 ⟨v510, v512, rfl, ho0, ho1, hb⟩; have HO511 := Aside0.mk (Kd.R_lower ho0 (below_size (r1_ HB.out HI503.out))); have HO513 := Aside0.mk (Kd.R_lower ho1 (below_size (r1_ HB.out HI503.out))); replace HB := Aside0.mk (below_step (r1_ HB.out HI503.out) hb); replace HI503 := Aside0.mk (IsS215.below (r0_ HI503.out) hb); (try clear hb); (try clear hb2); (try clear hk); (try clear hi); (try clear ho0); (try clear ho1); obtain ⟨Ao20, co20, eo20⟩ := Kd.R_slice HO513.out; subst eo20) | (go_at_call 129; (with_reducible refine (spec_l01Next.calls g503 t500 t501 t502 2 t514 t515 t516 w _ ?side1 ?side2 A5.out).mono ?_); (case side1 => exact r0_ HI503.out); (case side2 => exact r1_ HB.out HI503.out); rintro e w21 ⟨rfl, hi, hb, hk⟩; replace HO511 := Aside0.mk (Kd.R_mono (Kd.R_keep (IsS215.apart (show IsS215 w _ g503 t500 t501 t502 from r0_ HI503.out) (rk_ HO511.out) (by decide)) hk (fun _ h => h.2)) (fun _ h => h.1)); replace HO513 := Aside0.mk (Kd.R_mono (Kd.R_keep (IsS215.apart (show IsS215 w _ g503 t500 t501 t502 from r0_ HI503.out) (rk_ HO513.out) (by decide)) hk (fun _ h => h.2)) (fun _ h => h.1)); replace HB := Aside0.mk (hb); replace HI503 := Aside0.mk (hi); (try clear hb); (try clear hb2); (try clear hk); (try clear hi))))
   refine bodyPost_ret (results_list (rs := [.tmp 2, .tmp 3, .tmp 4, .tmp 5, .tmp 6]) rfl (by simp) (.tmp (.tmp (.tmp (.tmp (.tmp .nil)))))) rfl ?_
   exact ⟨_, _, by first | rfl | (simp [errW_none, errW_some] <;> rfl) | (simp [*, errW_none, errW_some] <;> rfl), rk_ HO511.out, rk_ HO513.out, r1_ HB.out HI503.out⟩
 ·rw [if_neg c4] at H
  have c4b0 : decide (0 < (t506.length : Int)) = false := decide_eq_false c4
  have c4b1 : decide (0 < t506.length) = false := decide_eq_false (by omega)
  clear c4
  simp only [Option.some.injEq, Prod.mk.injEq] at H
  obtain ⟨rfl, rfl, rfl, rfl, rfl⟩ := H
  go_enter Try.func36, Try.ntmps36
  go_wp2_with (first | (go_at_call 123; (with_reducible refine (spec_l01From.calls k _ _ l0 t500 t501 t502 w _ ?side1 ?side2 ?side3 A2.out).mono ?_); (case side1 => exact r11_ HB.out); (case side2 => exact HR0.out); (case side3 => exact HC0.out); rintro e w22 ⟨g503, rfl, hi, hb, hb2⟩; replace HB := Aside0.mk (hb); have HI503 := Aside0.mk (hi); (try clear hb); (try clear hb2); (try clear hk); (try clear hi)) | (go_at_call 33; (with_reducible refine (spec_DrawMoveWire.calls k _ _ l0 t504 t505 t506 t507 t508 t509 _ ?side1 ?side2 A3.out).mono ?_); (case side1 => exact r5_ HR0.out HB.out); (case side2 => exact HC0.out); rintro e w23 ⟨v510, v512, rfl, ho0, ho1, hb⟩; have HO511 := Aside0.mk (Kd.R_lower ho0 (below_size (r1_ HB.out HI503.out))); have HO513 := Aside0.mk (Kd.R_lower ho1 (below_size (r1_ HB.out HI503.out))); replace HB := Aside0.mk (below_step (r1_ HB.out HI503.out) hb); replace HI503 := Aside0.mk (IsS215.below (r0_ HI503.out) hb); (try clear hb); (try clear hb2); (try clear hk); (try clear hi); (try clear ho0); (try clear ho1); obtain ⟨Ao24, co24, eo24⟩ := Kd.R_slice HO513.out; subst eo24))
  repeat (go_quiet (first | (go_at_call 123; (with_reducible refine (spec_l01From.calls k _ _ l0 t500 t501 t502 w _ ?side1 ?side2 ?side3 A2.out).mono ?_); (case side1 => exact r11_ HB.out); (case side2 => exact HR0.out); (case side3 => exact HC0.out); rintro e w22 ⟨g503, rfl, hi, hb, hb2⟩; replace HB := Aside0.mk (hb); have HI503 := Aside0.mk (hi); (try clear hb); (try clear hb2); (try clear hk); (try clear hi)) | (go_at_call 33; (with_reducible refine (spec_DrawMoveWire.calls k _ _ l0 t504 t505 t506 t507 t508 t509 _ ?side1 ?side2 A3.out).mono ?_); (case side1 => exact r5_ HR0.out HB.out); (case side2 => exact HC0.out); rintro e w23 ⟨v510, v512, rfl, ho0, ho1, hb⟩; have HO511 := Aside0.mk (Kd.R_lower ho0 (below_size (r1_ HB.out HI503.out))); have HO513 := Aside0.mk (Kd.R_lower ho1 (below_size (r1_ HB.out HI503.out))); replace HB := Aside0.mk (below_step (r1_ HB.out HI503.out) hb); replace HI503 := Aside0.mk (IsS215.below (r0_ HI503.out) hb); (try clear hb); (try clear hb2); (try clear hk); (try clear hi); (try clear ho0); (try clear ho1); obtain ⟨Ao24, co24, eo24⟩ := Kd.R_slice HO513.out; subst eo24)); try go_wp2_with (first | (go_at_call 123; (with_reducible refine (spec_l01From.calls k _ _ l0 t500 t501 t502 w _ ?side1 ?side2 ?side3 A2.out).mono ?_); (case side1 => exact r11_ HB.out); (case side2 => exact HR0.out); (case side3 => exact HC0.out); rintro e w22 ⟨g503, rfl, hi, hb, hb2⟩; replace HB := Aside0.mk (hb); have HI503 := Aside0.mk (hi); (try clear hb); (try clear hb2); (try clear hk); (try clear hi)) | (go_at_call 33; (with_reducible refine (spec_DrawMoveWire.calls k _ _ l0 t504 t505 t506 t507 t508 t509 _ ?side1 ?side2 A3.out).mono ?_); (case side1 => exact r5_ HR0.out HB.out); (case side2 => exact HC0.out); rintro e w23 ⟨v510, v512, rfl, ho0, ho1, hb⟩; have HO511 := Aside0.mk (Kd.R_lower ho0 (below_size (r1_ HB.out HI503.out))); have HO513 := Aside0.mk (Kd.R_lower ho1 (below_size (r1_ HB.out HI503.out))); replace HB := Aside0.mk (below_step (r1_ HB.out HI503.out) hb); replace HI503 := Aside0.mk (IsS215.below (r0_ HI503.out) hb); (try clear hb); (try clear hb2); (try clear hk); (try clear hi); (try clear ho0); (try clear ho1); obtain ⟨Ao24, co24, eo24⟩ := Kd.R_slice HO513.out; subst eo24)))
  refine bodyPost_ret (results_list (rs := [.tmp 2, .tmp 3, .tmp 4, .tmp 5, .tmp 6]) rfl (by simp) (.tmp (.tmp (.tmp (.tmp (.tmp .nil)))))) rfl ?_
  exact ⟨_, _, by first | rfl | (simp [errW_none, errW_some] <;> rfl) | (simp [*, errW_none, errW_some] <;> rfl), rk_ HO511.out, rk_ HO513.out, r1_ HB.out HI503.out⟩
def impl_CueAt.f (k : Nat) (l0 : List (S200)) (a1 : Int) (l2 : List (S160)) (a3 : Int) (a4 : Int) : Option (Int × Int) := (impl_AreWires.f k l0 a1 l2).bind fun t522 => (if t522 = true then ((impl_isPin.f l0 a3 a4).bind fun t523 => (if t523 = true then ((impl_cueAt.f k l2 a3 a4).bind fun t524 => (if t524 < 0 then (some (0, 4)) else (some (t524, 0)))) else (some (0, 2)))) else (some (0, 1)))
set_option maxHeartbeats 8000000 in
set_option maxRecDepth 100000 in
theorem impl_CueAt.calls (k : Nat) (A0 : Option Addr) (c0 : Nat) (l0 : List (S200)) (a1 : Int) (A2 : Option Addr) (c2 : Nat) (l2 : List (S160)) (a3 : Int) (a4 : Int) (r1 : Int) (r2 : Int) (w : World) (hr0 : Kd.C k200 w A0 l0.length l0) (hc0 : l0.length ≤ c0) (hr2 : Kd.C k160 w A2 l2.length l2) (hc2 : l2.length ≤ c2) (h : impl_CueAt.f k l0 a1 l2 a3 a4 = some (r1, r2)) :
  Calls Try.prog 37 #[.slice A0 l0.length c0, .int .i64 a1, .slice A2 l2.length c2, .int .i64 a3, .int .i64 a4] w fun e w' => e = .returned (.tuple #[.int .i64 r1, .int .i64 r2]) ∧ Below w.heap.size w w' := by
 have HR0 := Aside0.mk hr0
 have HC0 := Aside0.mk hc0
 clear hr0 hc0
 have HR2 := Aside0.mk hr2
 have HC2 := Aside0.mk hc2
 clear hr2 hc2
 have HB := Aside0.mk (Below.refl w.heap.size w)
 have H : ((impl_AreWires.f k l0 a1 l2).bind fun t522 => (if t522 = true then ((impl_isPin.f l0 a3 a4).bind fun t523 => (if t523 = true then ((impl_cueAt.f k l2 a3 a4).bind fun t524 => (if t524 < 0 then (some (0, 4)) else (some (t524, 0)))) else (some (0, 2)))) else (some (0, 1)))) = some (r1, r2) := h
 clear h
 replace H := Option.bind_eq_some_iff.mp H
 obtain ⟨t522, A60, H⟩ := H
 replace H : (if t522 = true then ((impl_isPin.f l0 a3 a4).bind fun t523 => (if t523 = true then ((impl_cueAt.f k l2 a3 a4).bind fun t524 => (if t524 < 0 then (some (0, 4)) else (some (t524, 0)))) else (some (0, 2)))) else (some (0, 1))) = some (r1, r2) := H
 have A6 := Aside0.mk A60
 clear A60
 by_cases c7 : t522 = true
 ·subst c7
  replace H : ((impl_isPin.f l0 a3 a4).bind fun t523 => (if t523 = true then ((impl_cueAt.f k l2 a3 a4).bind fun t524 => (if t524 < 0 then (some (0, 4)) else (some (t524, 0)))) else (some (0, 2)))) = some (r1, r2) := by rw [if_pos rfl] at H; exact H
  replace H := Option.bind_eq_some_iff.mp H
  obtain ⟨t523, A80, H⟩ := H
  replace H : (if t523 = true then ((impl_cueAt.f k l2 a3 a4).bind fun t524 => (if t524 < 0 then (some (0, 4)) else (some (t524, 0)))) else (some (0, 2))) = some (r1, r2) := H
  have A8 := Aside0.mk A80
  clear A80
  by_cases c9 : t523 = true
  ·subst c9
   replace H : ((impl_cueAt.f k l2 a3 a4).bind fun t524 => (if t524 < 0 then (some (0, 4)) else (some (t524, 0)))) = some (r1, r2) := by rw [if_pos rfl] at H; exact H
   replace H := Option.bind_eq_some_iff.mp H
   obtain ⟨t524, A100, H⟩ := H
   replace H : (if t524 < 0 then (some (0, 4)) else (some (t524, 0))) = some (r1, r2) := H
   have A10 := Aside0.mk A100
   clear A100
   by_cases c11 : t524 < 0
   ·rw [if_pos c11] at H
    have c11b0 : decide (t524 < 0) = true := decide_eq_true c11
    clear c11
    simp only [Option.some.injEq, Prod.mk.injEq] at H
    obtain ⟨rfl, rfl⟩ := H
    go_enter Try.func37, Try.ntmps37
    go_wp2_with (first | ((with_reducible refine gate_callee (f := 44) rfl ?_); refine goesL_ (some 16) rfl rfl Try.func44 (by kernel_rfl) rfl #[.slice A0 l0.length c0, .int .i64 a1, .slice A2 l2.length c2] rfl ag_ ?_; (with_reducible refine (impl_AreWires.calls k _ _ l0 a1 _ _ l2 true _ ?side1 ?side2 ?side3 ?side4 A6.out).mono ?_); (case side1 => exact r9_ HR0.out); (case side2 => exact HC0.out); (case side3 => exact r9_ HR2.out); (case side4 => exact HC2.out); rintro e w12 ⟨rfl, hb⟩; refine ⟨_, rfl, ?_⟩; replace HB := Aside0.mk (below_step (bl_ HB.out) hb); (try clear hb); (try clear hb2); (try clear hk); (try clear hi)) | ((with_reducible refine gate_callee (f := 131) rfl ?_); refine goesL_ (some 21) rfl rfl Try.func131 (by kernel_rfl) rfl #[.slice A0 l0.length c0, .int .i64 a3, .int .i64 a4] rfl ag_ ?_; (with_reducible refine (impl_isPin.calls _ _ l0 a3 a4 true _ ?side1 ?side2 A8.out).mono ?_); (case side1 => exact r5_ HR0.out HB.out); (case side2 => exact HC0.out); rintro e w' ⟨rfl, ⟨nd, rfl⟩⟩; refine ⟨_, rfl, ?_⟩) | ((with_reducible refine gate_callee (f := 133) rfl ?_); refine goesL_ (some 26) rfl rfl Try.func133 (by kernel_rfl) rfl #[.slice A2 l2.length c2, .int .i64 a3, .int .i64 a4] rfl ag_ ?_; (with_reducible refine (impl_cueAt.calls k _ _ l2 a3 a4 t524 _ ?side1 ?side2 A10.out).mono ?_); (case side1 => exact r13_ HR2.out HB.out); (case side2 => exact HC2.out); rintro e w13 ⟨rfl, hb⟩; refine ⟨_, rfl, ?_⟩; replace HB := Aside0.mk (below_step (bl_ HB.out) hb); (try clear hb); (try clear hb2); (try clear hk); (try clear hi)))
    go_ret2
    exact ⟨by first | rfl | (simp [errW_none, errW_some] <;> rfl) | (simp [*, errW_none, errW_some] <;> rfl), bl_ HB.out⟩
   ·rw [if_neg c11] at H
    have c11b0 : decide (t524 < 0) = false := decide_eq_false c11
    clear c11
    simp only [Option.some.injEq, Prod.mk.injEq] at H
    obtain ⟨rfl, rfl⟩ := H
    go_enter Try.func37, Try.ntmps37
    go_wp2_with (first | ((with_reducible refine gate_callee (f := 44) rfl ?_); refine goesL_ (some 16) rfl rfl Try.func44 (by kernel_rfl) rfl #[.slice A0 l0.length c0, .int .i64 a1, .slice A2 l2.length c2] rfl ag_ ?_; (with_reducible refine (impl_AreWires.calls k _ _ l0 a1 _ _ l2 true _ ?side1 ?side2 ?side3 ?side4 A6.out).mono ?_); (case side1 => exact r9_ HR0.out); (case side2 => exact HC0.out); (case side3 => exact r9_ HR2.out); (case side4 => exact HC2.out); rintro e w14 ⟨rfl, hb⟩; refine ⟨_, rfl, ?_⟩; replace HB := Aside0.mk (below_step (bl_ HB.out) hb); (try clear hb); (try clear hb2); (try clear hk); (try clear hi)) | ((with_reducible refine gate_callee (f := 131) rfl ?_); refine goesL_ (some 21) rfl rfl Try.func131 (by kernel_rfl) rfl #[.slice A0 l0.length c0, .int .i64 a3, .int .i64 a4] rfl ag_ ?_; (with_reducible refine (impl_isPin.calls _ _ l0 a3 a4 true _ ?side1 ?side2 A8.out).mono ?_); (case side1 => exact r5_ HR0.out HB.out); (case side2 => exact HC0.out); rintro e w' ⟨rfl, ⟨nd, rfl⟩⟩; refine ⟨_, rfl, ?_⟩) | ((with_reducible refine gate_callee (f := 133) rfl ?_); refine goesL_ (some 26) rfl rfl Try.func133 (by kernel_rfl) rfl #[.slice A2 l2.length c2, .int .i64 a3, .int .i64 a4] rfl ag_ ?_; (with_reducible refine (impl_cueAt.calls k _ _ l2 a3 a4 t524 _ ?side1 ?side2 A10.out).mono ?_); (case side1 => exact r13_ HR2.out HB.out); (case side2 => exact HC2.out); rintro e w15 ⟨rfl, hb⟩; refine ⟨_, rfl, ?_⟩; replace HB := Aside0.mk (below_step (bl_ HB.out) hb); (try clear hb); (try clear hb2); (try clear hk); (try clear hi)))
    go_ret2
    exact ⟨by first | rfl | (simp [errW_none, errW_some] <;> rfl) | (simp [*, errW_none, errW_some] <;> rfl), bl_ HB.out⟩
  ·replace c9 := Bool.eq_false_iff.mpr c9
   subst c9
   replace H : (some (0, 2)) = some (r1, r2) := by rw [if_neg (show ¬ (false = true) by decide)] at H; exact H
   simp only [Option.some.injEq, Prod.mk.injEq] at H
   obtain ⟨rfl, rfl⟩ := H
   go_enter Try.func37, Try.ntmps37
   go_wp2_with (first | ((with_reducible refine gate_callee (f := 44) rfl ?_); refine goesL_ (some 16) rfl rfl Try.func44 (by kernel_rfl) rfl #[.slice A0 l0.length c0, .int .i64 a1, .slice A2 l2.length c2] rfl ag_ ?_; (with_reducible refine (impl_AreWires.calls k _ _ l0 a1 _ _ l2 true _ ?side1 ?side2 ?side3 ?side4 A6.out).mono ?_); (case side1 => exact r9_ HR0.out); (case side2 => exact HC0.out); (case side3 => exact r9_ HR2.out); (case side4 => exact HC2.out); rintro e w16 ⟨rfl, hb⟩; refine ⟨_, rfl, ?_⟩; replace HB := Aside0.mk (below_step (bl_ HB.out) hb); (try clear hb); (try clear hb2); (try clear hk); (try clear hi)) | ((with_reducible refine gate_callee (f := 131) rfl ?_); refine goesL_ (some 21) rfl rfl Try.func131 (by kernel_rfl) rfl #[.slice A0 l0.length c0, .int .i64 a3, .int .i64 a4] rfl ag_ ?_; (with_reducible refine (impl_isPin.calls _ _ l0 a3 a4 false _ ?side1 ?side2 A8.out).mono ?_); (case side1 => exact r5_ HR0.out HB.out); (case side2 => exact HC0.out); rintro e w' ⟨rfl, ⟨nd, rfl⟩⟩; refine ⟨_, rfl, ?_⟩))
   go_ret2
   exact ⟨by first | rfl | (simp [errW_none, errW_some] <;> rfl) | (simp [*, errW_none, errW_some] <;> rfl), bl_ HB.out⟩
 ·replace c7 := Bool.eq_false_iff.mpr c7
  subst c7
  replace H : (some (0, 1)) = some (r1, r2) := by rw [if_neg (show ¬ (false = true) by decide)] at H; exact H
  simp only [Option.some.injEq, Prod.mk.injEq] at H
  obtain ⟨rfl, rfl⟩ := H
  go_enter Try.func37, Try.ntmps37
  go_wp2_with (first | ((with_reducible refine gate_callee (f := 44) rfl ?_); refine goesL_ (some 16) rfl rfl Try.func44 (by kernel_rfl) rfl #[.slice A0 l0.length c0, .int .i64 a1, .slice A2 l2.length c2] rfl ag_ ?_; (with_reducible refine (impl_AreWires.calls k _ _ l0 a1 _ _ l2 false _ ?side1 ?side2 ?side3 ?side4 A6.out).mono ?_); (case side1 => exact r9_ HR0.out); (case side2 => exact HC0.out); (case side3 => exact r9_ HR2.out); (case side4 => exact HC2.out); rintro e w17 ⟨rfl, hb⟩; refine ⟨_, rfl, ?_⟩; replace HB := Aside0.mk (below_step (bl_ HB.out) hb); (try clear hb); (try clear hb2); (try clear hk); (try clear hi)))
  go_ret2
  exact ⟨by first | rfl | (simp [errW_none, errW_some] <;> rfl) | (simp [*, errW_none, errW_some] <;> rfl), bl_ HB.out⟩
mutual
def spec_CueAt.j0 : Nat → List (S160) → Int → Int → Int → Bool → Option (Int × Int)
 | 0, _, _, _, _, _ => none
 | k + 1, x2, x3, x4, x12, x26 => if x26 = true then (spec_CueAt.j1 k x2 x3 x4 2) else (spec_CueAt.j1 k x2 x3 x4 x12)
def spec_CueAt.j1 : Nat → List (S160) → Int → Int → Int → Option (Int × Int)
 | 0, _, _, _, _ => none
 | k + 1, x2, x3, x4, x12 => (spec_l13At.f k x2 x3 x4).bind fun t527 => (if x12 = 0 then (spec_CueAt.j2 k x2 x12 t527 (decide (t527 < 0))) else (spec_CueAt.j2 k x2 x12 t527 false))
def spec_CueAt.j2 : Nat → List (S160) → Int → Int → Bool → Option (Int × Int)
 | 0, _, _, _, _ => none
 | k + 1, x2, x12, x13, x36 => if x36 = true then (if 4 = 0 then (if 0 ≤ x13 then (if x13 < (x2.length : Int) then (some ((rd_T160 x2 x13).f0, 0)) else (none)) else (none)) else (some (0, 4))) else (if x12 = 0 then (if 0 ≤ x13 then (if x13 < (x2.length : Int) then (some ((rd_T160 x2 x13).f0, 0)) else (none)) else (none)) else (some (0, x12)))
end
def spec_CueAt.f (k : Nat) (l0 : List (S200)) (a1 : Int) (l2 : List (S160)) (a3 : Int) (a4 : Int) : Option (Int × Int) := (spec_l13Code.f k l0 a1 l2 0 0).bind fun t525 => (if t525 = 0 then ((spec_l13Pin.f l0 a3 a4).bind fun t526 => (spec_CueAt.j0 k l2 a3 a4 t525 (!t526))) else (spec_CueAt.j0 k l2 a3 a4 t525 false))
set_option maxHeartbeats 8000000 in
set_option maxRecDepth 100000 in
theorem spec_CueAt.calls (k : Nat) (A0 : Option Addr) (c0 : Nat) (l0 : List (S200)) (a1 : Int) (A2 : Option Addr) (c2 : Nat) (l2 : List (S160)) (a3 : Int) (a4 : Int) (r1 : Int) (r2 : Int) (w : World) (hr0 : Kd.C k200 w A0 l0.length l0) (hc0 : l0.length ≤ c0) (hr2 : Kd.C k160 w A2 l2.length l2) (hc2 : l2.length ≤ c2) (h : spec_CueAt.f k l0 a1 l2 a3 a4 = some (r1, r2)) :
  Calls Try.prog 38 #[.slice A0 l0.length c0, .int .i64 a1, .slice A2 l2.length c2, .int .i64 a3, .int .i64 a4] w fun e w' => e = .returned (.tuple #[.int .i64 r1, .int .i64 r2]) ∧ Below w.heap.size w w' := by
 have HR0 := Aside0.mk hr0
 have HC0 := Aside0.mk hc0
 clear hr0 hc0
 have HR2 := Aside0.mk hr2
 have HC2 := Aside0.mk hc2
 clear hr2 hc2
 have HB := Aside0.mk (Below.refl w.heap.size w)
 have H : ((spec_l13Code.f k l0 a1 l2 0 0).bind fun t525 => (if t525 = 0 then ((spec_l13Pin.f l0 a3 a4).bind fun t526 => (spec_CueAt.j0 k l2 a3 a4 t525 (!t526))) else (spec_CueAt.j0 k l2 a3 a4 t525 false))) = some (r1, r2) := h
 clear h
 replace H := Option.bind_eq_some_iff.mp H
 obtain ⟨t525, A60, H⟩ := H
 replace H : (if t525 = 0 then ((spec_l13Pin.f l0 a3 a4).bind fun t526 => (spec_CueAt.j0 k l2 a3 a4 t525 (!t526))) else (spec_CueAt.j0 k l2 a3 a4 t525 false)) = some (r1, r2) := H
 have A6 := Aside0.mk A60
 clear A60
 have HC7 := Aside0.mk H
 clear H
 go_enter Try.func38, Try.ntmps38
 go_upto_region 2 with (first | ((with_reducible refine gate_callee (f := 126) rfl ?_); refine goesL_ (some 17) rfl rfl Try.func126 (by kernel_rfl) rfl #[.slice A0 l0.length c0, .int .i64 a1, .slice A2 l2.length c2, .int .i64 0, .int .i64 0] rfl ag_ ?_; (with_reducible refine (spec_l13Code.calls k _ _ l0 a1 _ _ l2 0 0 t525 _ ?side1 ?side2 ?side3 ?side4 A6.out).mono ?_); (case side1 => exact r9_ HR0.out); (case side2 => exact HC0.out); (case side3 => exact r9_ HR2.out); (case side4 => exact HC2.out); rintro e w8 ⟨rfl, hb⟩; refine ⟨_, rfl, ?_⟩; replace HB := Aside0.mk (below_step (bl_ HB.out) hb); (try clear hb); (try clear hb2); (try clear hk); (try clear hi)))
 (try simp only [Act.put, List.setIfInBounds_toArray, List.set_cons_zero, List.set_cons_succ])
 go_cut [26] (fun v26 wc => ∃ (kq : Nat) (x26_6 : Bool), v26 = .bool x26_6 ∧ Aside0 (spec_CueAt.j0 kq l2 a3 a4 t525 x26_6 = some (r1, r2)) ∧ Aside0 (kq ≤ k) ∧ Aside0 (Below w.heap.size w wc))
 case first =>
  have H := HC7.out
  clear HC7
  by_cases c9 : t525 = 0
  ·rw [if_pos c9] at H
   have c9b0 : (t525 == 0) = true := beq_iff_eq.mpr c9
   have c9b1 : (t525 != 0) = false := bne_eq_false_iff_eq.mpr c9
   clear c9
   (first | rw [c9b0] | (simp only [i64_w, i32_w]; rw [c9b0]) | skip)
   replace H := Option.bind_eq_some_iff.mp H
   obtain ⟨t526, A100, H⟩ := H
   replace H : (spec_CueAt.j0 k l2 a3 a4 t525 (!t526)) = some (r1, r2) := H
   have A10 := Aside0.mk A100
   clear A100
   have H' := Aside0.mk H
   clear H
   go_wp2_with (first | (go_at_call 135; (with_reducible refine (spec_l13Pin.calls _ _ l0 a3 a4 t526 _ ?side1 ?side2 A10.out).mono ?_); (case side1 => exact r5_ HR0.out HB.out); (case side2 => exact HC0.out); rintro e w' ⟨rfl, ⟨nd, rfl⟩⟩))
   go_meet
   case rel => exact ⟨_, (!t526), (by first | rfl | (simp; done) | (simp [*]; done)), H', ⟨by first | omega | exact Nat.le_refl _⟩, ⟨bl_ HB.out⟩⟩
  ·rw [if_neg c9] at H
   have c9b0 : (t525 == 0) = false := beq_eq_false_iff_ne.mpr c9
   have c9b1 : (t525 != 0) = true := bne_iff_ne.mpr c9
   (first | rw [c9b0] | (simp only [i64_w, i32_w]; rw [c9b0]) | skip)
   have H' := Aside0.mk H
   clear H
   go_wp2
   go_meet
   case rel => exact ⟨_, (false), (by first | rfl | (simp; done) | (simp [*]; done)), H', ⟨by first | omega | exact Nat.le_refl _⟩, ⟨bl_ HB.out⟩⟩
 case rest =>
  clear HC7
  try clear c1
  try clear c2
  try clear p2
  try clear c3
  try clear c9
  try clear c9b0
  try clear c9b1
  obtain ⟨kq, x26_6, rfl, HA, HJ6, HB⟩ := hcut
  cases kq with
  | zero => exact absurd HA.out (by simp [spec_CueAt.j0])
  | succ kj6 =>
   have H := HA.out
   clear HA
   simp only [spec_CueAt.j0] at H
   have HC11 := Aside0.mk H
   clear H
   go_upto_if 26 with (fail)
   go_cut [12] (fun v12 wc => ∃ (kq : Nat) (x12_10 : Int), v12 = .int .i64 x12_10 ∧ Aside0 (spec_CueAt.j1 kq l2 a3 a4 x12_10 = some (r1, r2)) ∧ Aside0 (kq ≤ kj6) ∧ Aside0 (Below w.heap.size w wc))
   case first =>
    have H := HC11.out
    clear HC11
    by_cases c12 : x26_6 = true
    ·subst c12
     replace H : (spec_CueAt.j1 kj6 l2 a3 a4 2) = some (r1, r2) := by rw [if_pos rfl] at H; exact H
     have H' := Aside0.mk H
     clear H
     go_wp2
     go_meet
     case rel => exact ⟨_, (2), (by first | rfl | (simp; done) | (simp [*]; done)), H', ⟨by have := HJ6.out; first | omega | exact Nat.le_refl _⟩, ⟨bl_ HB.out⟩⟩
    ·replace c12 := Bool.eq_false_iff.mpr c12
     subst c12
     replace H : (spec_CueAt.j1 kj6 l2 a3 a4 t525) = some (r1, r2) := by rw [if_neg (show ¬ (false = true) by decide)] at H; exact H
     have H' := Aside0.mk H
     clear H
     go_wp2
     go_meet
     case rel => exact ⟨_, (t525), (by first | rfl | (simp; done) | (simp [*]; done)), H', ⟨by have := HJ6.out; first | omega | exact Nat.le_refl _⟩, ⟨bl_ HB.out⟩⟩
   case rest =>
    clear HC11
    try clear c1
    try clear c2
    try clear p2
    try clear c3
    try clear c9
    try clear c9b0
    try clear c9b1
    try clear c12
    try clear p2
    obtain ⟨kq, x12_10, rfl, HA, HJ10, HB⟩ := hcut
    cases kq with
    | zero => exact absurd HA.out (by simp [spec_CueAt.j1])
    | succ kj10 =>
     have H := HA.out
     clear HA
     simp only [spec_CueAt.j1] at H
     replace H := Option.bind_eq_some_iff.mp H
     obtain ⟨t527, A130, H⟩ := H
     replace H : (if x12_10 = 0 then (spec_CueAt.j2 kj10 l2 x12_10 t527 (decide (t527 < 0))) else (spec_CueAt.j2 kj10 l2 x12_10 t527 false)) = some (r1, r2) := H
     have A13 := Aside0.mk A130
     clear A130
     have HC14 := Aside0.mk H
     clear H
     go_upto_region 5 with (first | ((with_reducible refine gate_callee (f := 137) rfl ?_); refine goesL_ (some 30) rfl rfl Try.func137 (by kernel_rfl) rfl #[.slice A2 l2.length c2, .int .i64 a3, .int .i64 a4] rfl ag_ ?_; (with_reducible refine (spec_l13At.calls kj10 _ _ l2 a3 a4 t527 _ ?side1 ?side2 A13.out).mono ?_); (case side1 => exact r5_ HR2.out HB.out); (case side2 => exact HC2.out); rintro e w' ⟨rfl, ⟨nd, rfl⟩⟩; refine ⟨_, rfl, ?_⟩))
     (try simp only [Act.put, List.setIfInBounds_toArray, List.set_cons_zero, List.set_cons_succ])
     go_cut [36] (fun v36 wc => ∃ (kq : Nat) (x36_13 : Bool), v36 = .bool x36_13 ∧ Aside0 (spec_CueAt.j2 kq l2 x12_10 t527 x36_13 = some (r1, r2)) ∧ Aside0 (kq ≤ kj10) ∧ Aside0 (Below w.heap.size w wc))
     case first =>
      have H := HC14.out
      clear HC14
      by_cases c15 : x12_10 = 0
      ·rw [if_pos c15] at H
       have c15b0 : (x12_10 == 0) = true := beq_iff_eq.mpr c15
       have c15b1 : (x12_10 != 0) = false := bne_eq_false_iff_eq.mpr c15
       clear c15
       (first | rw [c15b0] | (simp only [i64_w, i32_w]; rw [c15b0]) | skip)
       have H' := Aside0.mk H
       clear H
       go_wp2
       go_meet
       case rel => exact ⟨_, (decide (t527 < 0)), (by first | rfl | (simp; done) | (simp [*]; done)), H', ⟨by have := HJ6.out; have := HJ10.out; first | omega | exact Nat.le_refl _⟩, ⟨bl_ HB.out⟩⟩
      ·rw [if_neg c15] at H
       have c15b0 : (x12_10 == 0) = false := beq_eq_false_iff_ne.mpr c15
       have c15b1 : (x12_10 != 0) = true := bne_iff_ne.mpr c15
       (first | rw [c15b0] | (simp only [i64_w, i32_w]; rw [c15b0]) | skip)
       have H' := Aside0.mk H
       clear H
       go_wp2
       go_meet
       case rel => exact ⟨_, (false), (by first | rfl | (simp; done) | (simp [*]; done)), H', ⟨by have := HJ6.out; have := HJ10.out; first | omega | exact Nat.le_refl _⟩, ⟨bl_ HB.out⟩⟩
     case rest =>
      clear HC14
      try clear c1
      try clear c2
      try clear p2
      try clear c3
      try clear c9
      try clear c9b0
      try clear c9b1
      try clear c12
      try clear c13
      try clear c15
      try clear c15b0
      try clear c15b1
      try clear p2
      obtain ⟨kq, x36_13, rfl, HA, HJ13, HB⟩ := hcut
      cases kq with
      | zero => exact absurd HA.out (by simp [spec_CueAt.j2])
      | succ kj13 =>
       have H := HA.out
       clear HA
       simp only [spec_CueAt.j2] at H
       by_cases c16 : x36_13 = true
       ·subst c16
        replace H : (if 4 = 0 then (if 0 ≤ t527 then (if t527 < (l2.length : Int) then (some ((rd_T160 l2 t527).f0, 0)) else (none)) else (none)) else (some (0, 4))) = some (r1, r2) := by rw [if_pos rfl] at H; exact H
        by_cases c17 : 4 = 0
        case pos =>
         exact absurd c17 (by decide)
        rw [if_neg c17] at H
        have c17b0 : (4 == 0) = false := beq_eq_false_iff_ne.mpr c17
        have c17b1 : (4 != 0) = true := bne_iff_ne.mpr c17
        simp only [Option.some.injEq, Prod.mk.injEq] at H
        obtain ⟨rfl, rfl⟩ := H
        go_wp2
        go_ret2
        exact ⟨by first | rfl | (simp [errW_none, errW_some] <;> rfl) | (simp [*, errW_none, errW_some] <;> rfl), bl_ HB.out⟩
       ·replace c16 := Bool.eq_false_iff.mpr c16
        subst c16
        replace H : (if x12_10 = 0 then (if 0 ≤ t527 then (if t527 < (l2.length : Int) then (some ((rd_T160 l2 t527).f0, 0)) else (none)) else (none)) else (some (0, x12_10))) = some (r1, r2) := by rw [if_neg (show ¬ (false = true) by decide)] at H; exact H
        by_cases c20 : x12_10 = 0
        ·rw [if_pos c20] at H
         have c20b0 : (x12_10 == 0) = true := beq_iff_eq.mpr c20
         have c20b1 : (x12_10 != 0) = false := bne_eq_false_iff_eq.mpr c20
         clear c20
         by_cases c21 : 0 ≤ t527
         case neg =>
          rw [if_neg c21] at H
          exact absurd H (by simp)
         rw [if_pos c21] at H
         have c21b0 : decide (0 ≤ t527) = true := decide_eq_true c21
         clear c21
         by_cases c22 : t527 < (l2.length : Int)
         case neg =>
          rw [if_neg c22] at H
          exact absurd H (by simp)
         rw [if_pos c22] at H
         have c22b0 : decide (t527 < (l2.length : Int)) = true := decide_eq_true c22
         clear c22
         simp only [Option.some.injEq, Prod.mk.injEq] at H
         obtain ⟨rfl, rfl⟩ := H
         have p529 : 0 ≤ (t527 : Int) := od_
         have q529 : t527 < (l2.length : Int) := od_
         obtain ⟨ad529, e529, hx529_0, hx529_1, hx529_2⟩ := at_T160 HR2.out t527 p529 q529
         cases e529
         replace hx529_0 := bc_ HB.out hx529_0
         replace hx529_1 := bc_ HB.out hx529_1
         replace hx529_2 := bc_ HB.out hx529_2
         replace p529 := eq_true p529
         replace q529 := eq_true q529
         go_wp2
         go_ret2
         exact ⟨by first | rfl | (simp [errW_none, errW_some] <;> rfl) | (simp [*, errW_none, errW_some] <;> rfl), bl_ HB.out⟩
        ·rw [if_neg c20] at H
         have c20b0 : (x12_10 == 0) = false := beq_eq_false_iff_ne.mpr c20
         have c20b1 : (x12_10 != 0) = true := bne_iff_ne.mpr c20
         simp only [Option.some.injEq, Prod.mk.injEq] at H
         obtain ⟨rfl, rfl⟩ := H
         go_wp2
         go_ret2
         exact ⟨by first | rfl | (simp [errW_none, errW_some] <;> rfl) | (simp [*, errW_none, errW_some] <;> rfl), bl_ HB.out⟩
end Go.Proofs.Ytedcdhnbceaaeaa.PFnWired
