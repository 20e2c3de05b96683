/- QFnAreaTextsc of the law FnAreaTexts: taken over, declaration by declaration, as far as the law leans on it (the words and the printed functions are the kit's own print). No condition but what each says. -/
import Derived.Test.YtedcdhnbceaaeaaZFnAreaTextsav
import Derived.Test.YtedcdhnbceaaeaaZFnAreaTextsba
import Derived.Test.YtedcdhnbceaaeaaZFnAreaTextsaw
import Derived.Test.YtedcdhnbceaaeaaZFnAreaTextsay
namespace Go.Proofs.Ytedcdhnbceaaeaa.PFnAreaTexts
open Go.RowKit Go.Proofs.YtedcdhnbceaaeaaW.PrintWords Go.Proofs.YtedcdhnbceaaeaaW.PrintLast Go.Proofs.YtedcdhnbceaaeaaW.PrintMore
attribute [local go_sem] max2_int min2_int max_two min_two max_three min_three max_four min_four   -- for this text's walks alone
set_option linter.unusedVariables false
set_option linter.unusedSimpArgs false
open Bool renaming true → t_, false → f_
def impl_splitAt.l0 : Nat → ByteArray → Int → List ByteArray → Int → Int → Option (List ByteArray)
 | 0, _, _, _, _, _ => none
 | k + 1, x0, x1, x5, x6, x7 => if x7 < (x0.size : Int) then (if 0 ≤ x7 then (if (bt x0 x7) = x1 then (if 0 ≤ x6 then (if x6 ≤ x7 then (if x7 ≤ (x0.size : Int) then (if x5.length < 8796093022208 then (impl_splitAt.l0 k x0 x1 (x5 ++ [x0.extract (x6 : Int).toNat (x7 : Int).toNat]) (wrap64 (x7 + 1)) (wrap64 (x7 + 1))) else (none)) else (none)) else (none)) else (none)) else (impl_splitAt.l0 k x0 x1 x5 x6 (wrap64 (x7 + 1)))) else (none)) else (if 0 ≤ x6 then (if x6 ≤ (x0.size : Int) then (if x5.length < 8796093022208 then (some (x5 ++ [x0.extract (x6 : Int).toNat x0.size])) else (none)) else (none)) else (none))
def impl_splitAt.f (k : Nat) (a0 : ByteArray) (a1 : Int) : Option (List ByteArray) := impl_splitAt.l0 k a0 a1 ([] : List ByteArray) 0 0
set_option maxHeartbeats 8000000 in
set_option maxRecDepth 100000 in
theorem impl_splitAt.calls (k : Nat) (a0 : ByteArray) (a1 : Int) (r : List ByteArray) (w : World) (h : impl_splitAt.f k a0 a1 = some r) :
  Calls Try.prog 161 #[.string a0, .int .u8 a1] w fun e w' => ∃ v0_ : Value, e = .returned (v0_) ∧ Kd.R Kd.string 9 w' w.heap.size (fun _ => True) v0_ r ∧ Below w.heap.size w w' := by
 have HB := Aside0.mk (Below.refl w.heap.size w)
 have H : (impl_splitAt.l0 k a0 a1 ([] : List ByteArray) 0 0) = some r := h
 clear h
 have H' := Aside0.mk H
 clear H
 go_enter Try.func161, Try.ntmps161
 go_wp2
 go_loopg [5, 6, 7] k (fun kq v5 v6 v7 w' => ∃ (x5_1 : List ByteArray) (x6_1 : Int) (x7_1 : Int), v6 = .int .i64 x6_1 ∧ v7 = .int .i64 x7_1 ∧ Aside0 (impl_splitAt.l0 kq a0 a1 x5_1 x6_1 x7_1 = some r) ∧ Aside0 (kq ≤ k) ∧ Aside0 (Kd.R Kd.string 9 w' w.heap.size (fun _ => True) v5 x5_1) ∧ Aside0 (Below w.heap.size w w'))
 case atStart => exact ⟨(([] : List ByteArray)), (0), (0), (by first | rfl | (simp; done) | (simp [*]; done)), (by first | rfl | (simp; done) | (simp [*]; done)), H', ⟨Nat.le_refl _⟩, ⟨by first | exact Kd.R_nil _ _ _ _ _ | exact Kd.N_nil _ _ _ _ _ | exact Kd.V_nil _ _ _ _ _ | exact Kd.Q_nil _ _ _ _ _ | exact Kd.S_nil _ _ _ _ _⟩, ⟨bl_ HB.out⟩⟩
 case round =>
  clear H'
  try clear c1
  try clear p2
  obtain ⟨x5_1, x6_1, x7_1, rfl, rfl, HA, HK1, HO_5, HB⟩ := hrel
  cases gk with
  | zero => exact absurd HA.out (by simp [impl_splitAt.l0])
  | succ k1 =>
   have H := HA.out
   clear HA
   simp only [impl_splitAt.l0] at H
   by_cases c3 : x7_1 < (a0.size : Int)
   ·rw [if_pos c3] at H
    have c3b0 : decide (x7_1 < (a0.size : Int)) = true := decide_eq_true c3
    clear c3
    by_cases c4 : 0 ≤ x7_1
    case neg =>
     rw [if_neg c4] at H
     exact absurd H (by simp)
    rw [if_pos c4] at H
    have c4b0 : decide (0 ≤ x7_1) = true := decide_eq_true c4
    clear c4
    by_cases c6 : (bt a0 x7_1) = a1
    ·rw [if_pos c6] at H
     have c6b0 : ((bt a0 x7_1) == a1) = true := beq_iff_eq.mpr c6
     have c6b1 : ((bt a0 x7_1) != a1) = false := bne_eq_false_iff_eq.mpr c6
     clear c6
     by_cases c7 : 0 ≤ x6_1
     case neg =>
      rw [if_neg c7] at H
      exact absurd H (by simp)
     rw [if_pos c7] at H
     have c7b0 := eq_true c7
     have c7b1 : decide (0 ≤ x6_1) = true := decide_eq_true c7
     clear c7
     by_cases c8 : x6_1 ≤ x7_1
     case neg =>
      rw [if_neg c8] at H
      exact absurd H (by simp)
     rw [if_pos c8] at H
     have c8b0 := eq_true c8
     have c8b1 : decide (x6_1 ≤ x7_1) = true := decide_eq_true c8
     clear c8
     by_cases c9 : x7_1 ≤ (a0.size : Int)
     case neg =>
      rw [if_neg c9] at H
      exact absurd H (by simp)
     rw [if_pos c9] at H
     have c9b0 := eq_true c9
     have c9b1 : decide (x7_1 ≤ (a0.size : Int)) = true := decide_eq_true c9
     clear c9
     by_cases c10 : x5_1.length < 8796093022208
     case neg =>
      rw [if_neg c10] at H
      exact absurd H (by simp)
     rw [if_pos c10] at H
     have LMc10 := Aside0.mk c10
     clear c10
     obtain ⟨y188, hy188⟩ : ∃ y_ : List ByteArray, y_ = (x5_1 ++ [a0.extract (x6_1 : Int).toNat (x7_1 : Int).toNat]) := ⟨_, rfl⟩
     replace H : (impl_splitAt.l0 k1 a0 a1 y188 (wrap64 (x7_1 + 1)) (wrap64 (x7_1 + 1))) = some r := by first | (rw [hy188]; with_reducible exact H) | (have H2_ := (Option.bind_some _ _).symm.trans H; rw [hy188]; with_reducible exact H2_) | (have H2_ := (Option.bind_some _ _).symm.trans H; with_reducible exact H2_) | with_reducible exact H | (rw [hy188]; exact H) | exact H
     have Ny188 := Aside0.mk hy188
     clear hy188
     have H' := Aside0.mk H
     clear H
     have p5 : 0 ≤ (x7_1 : Int) := od_
     have q5 : x7_1 < (a0.size : Int) := od_
     have hx5 := bt_at a0 x7_1
     replace p5 := eq_true p5
     replace q5 := eq_true q5
     go_wp2_with (first | ((with_reducible refine gate_builtin (b := .append) (xs := #[.tmp 19, .tmp 24]) rfl ?_); at_builtin; refine Kd.R_append Kd.string (w0 := w) w.heap.size rfl (.tmp 19) (.tmp 24) 179 9 (.string ⟨#[]⟩) 16 rfl Try.underlying179 info9 rfl (by decide) (by omega) u5 x5_1 (a0.extract (x6_1 : Int).toNat (x7_1 : Int).toNat) [.string (a0.extract (x6_1 : Int).toNat (x7_1 : Int).toNat)] (fun _ => True) (fun _ => False) rfl rfl ?aP (fun _ hk => hk.elim) ?aF ?aO ?aB ?aS ?aL ?_; (case aP => exact rfl); (case aB => exact (bl_ HB.out)); (case aF => exact (fun _ _ => trivial)); (case aO => exact (rk_ HO_5.out)); (case aS => exact (below_size (bl_ HB.out))); (case aL => have := LMc10.out; omega); intro v189 w11 ho hb hg hat; rw [← Ny188.out] at ho; have n0_ := Aside0.mk (hb); have n1_ := Aside0.mk (ho); clear HB; clear HO_5; have HB := n0_; have HO190 := n1_; clear n0_ n1_; clear ho hb hg hat))
     go_roundg k1
     case measure => have := HK1.out; omega
     case rel => exact ⟨(y188), (wrap64 (x7_1 + 1)), (wrap64 (x7_1 + 1)), (by first | rfl | (simp; done) | (simp [*]; done)), (by first | rfl | (simp; done) | (simp [*]; done)), H', ⟨by have := HK1.out; omega⟩, ⟨rk_ HO190.out⟩, ⟨bl_ HB.out⟩⟩
    ·rw [if_neg c6] at H
     have c6b0 : ((bt a0 x7_1) == a1) = false := beq_eq_false_iff_ne.mpr c6
     have c6b1 : ((bt a0 x7_1) != a1) = true := bne_iff_ne.mpr c6
     have H' := Aside0.mk H
     clear H
     have p5 : 0 ≤ (x7_1 : Int) := od_
     have q5 : x7_1 < (a0.size : Int) := od_
     have hx5 := bt_at a0 x7_1
     replace p5 := eq_true p5
     replace q5 := eq_true q5
     go_wp2
     go_roundg k1
     case measure => have := HK1.out; omega
     case rel => exact ⟨(x5_1), (x6_1), (wrap64 (x7_1 + 1)), (by first | rfl | (simp; done) | (simp [*]; done)), (by first | rfl | (simp; done) | (simp [*]; done)), H', ⟨by have := HK1.out; omega⟩, ⟨rk_ HO_5.out⟩, ⟨bl_ HB.out⟩⟩
   ·rw [if_neg c3] at H
    have c3b0 : decide (x7_1 < (a0.size : Int)) = false := decide_eq_false c3
    clear c3
    by_cases c12 : 0 ≤ x6_1
    case neg =>
     rw [if_neg c12] at H
     exact absurd H (by simp)


    rw [if_pos c12] at H
    have c12b0 := eq_true c12
    have c12b1 : decide (0 ≤ x6_1) = true := decide_eq_true c12
    clear c12
    by_cases c13 : x6_1 ≤ (a0.size : Int)
    case neg =>
     rw [if_neg c13] at H
     exact absurd H (by simp)
    rw [if_pos c13] at H
    have c13b0 := eq_true c13
    have c13b1 : decide (x6_1 ≤ (a0.size : Int)) = true := decide_eq_true c13
    clear c13
    by_cases c14 : x5_1.length < 8796093022208
    case neg =>
     rw [if_neg c14] at H
     exact absurd H (by simp)
    rw [if_pos c14] at H
    have LMc14 := Aside0.mk c14
    clear c14
    obtain ⟨y191, hy191⟩ : ∃ y_ : List ByteArray, y_ = (x5_1 ++ [a0.extract (x6_1 : Int).toNat a0.size]) := ⟨_, rfl⟩
    replace H : (some y191) = some r := by first | (rw [hy191]; with_reducible exact H) | (have H2_ := (Option.bind_some _ _).symm.trans H; rw [hy191]; with_reducible exact H2_) | (have H2_ := (Option.bind_some _ _).symm.trans H; with_reducible exact H2_) | with_reducible exact H | (rw [hy191]; exact H) | exact H
    have Ny191 := Aside0.mk hy191
    clear hy191
    obtain rfl := Option.some.inj H
    go_wp2_with (first | ((with_reducible refine gate_builtin (b := .append) (xs := #[.tmp 28, .tmp 32]) rfl ?_); at_builtin; refine Kd.R_append Kd.string (w0 := w) w.heap.size rfl (.tmp 28) (.tmp 32) 179 9 (.string ⟨#[]⟩) 16 rfl Try.underlying179 info9 rfl (by decide) (by omega) u5 x5_1 (a0.extract (x6_1 : Int).toNat a0.size) [.string (a0.extract (x6_1 : Int).toNat a0.size)] (fun _ => True) (fun _ => False) rfl rfl ?aP (fun _ hk => hk.elim) ?aF ?aO ?aB ?aS ?aL ?_; (case aP => exact rfl); (case aB => exact (bl_ HB.out)); (case aF => exact (fun _ _ => trivial)); (case aO => exact (rk_ HO_5.out)); (case aS => exact (below_size (bl_ HB.out))); (case aL => have := LMc14.out; omega); intro v192 w15 ho hb hg hat; rw [← Ny191.out] at ho; have n0_ := Aside0.mk (hb); have n1_ := Aside0.mk (ho); clear HB; clear HO_5; have HB := n0_; have HO193 := n1_; clear n0_ n1_; clear ho hb hg hat))
    go_ret
    exact ⟨_, by first | rfl | (simp [errW_none, errW_some] <;> rfl) | (simp [*, errW_none, errW_some] <;> rfl), rk_ HO193.out, bl_ HB.out⟩
mutual
def impl_readDecimal.j0 : Nat → ByteArray → ByteArray → Bool → Option (Int × Bool)
 | 0, _, _, _ => none
 | k + 1, x0, x4, x15 => if x15 = true then (if 1 ≤ (x4.size : Int) then (impl_readDecimal.j1 k x0 (x4.extract 1 x4.size)) else (none)) else (impl_readDecimal.j1 k x0 x4)
def impl_readDecimal.j1 : Nat → ByteArray → ByteArray → Option (Int × Bool)
 | 0, _, _ => none
 | k + 1, x0, x4 => if (x4.size : Int) = 0 then (impl_readDecimal.j2 k x0 x4 true) else (if (x4.size : Int) > 18 then (impl_readDecimal.j2 k x0 x4 true) else (if 0 < (x4.size : Int) then (if (bt x4 0) = 48 then (if (x4.size : Int) > 1 then (impl_readDecimal.j2 k x0 x4 true) else (impl_readDecimal.j2 k x0 x4 (decide ((x0.size : Int) > 1)))) else (impl_readDecimal.j2 k x0 x4 false)) else (none)))
def impl_readDecimal.j2 : Nat → ByteArray → ByteArray → Bool → Option (Int × Bool)
 | 0, _, _, _ => none
 | k + 1, x0, x4, x40 => if x40 = true then (some (0, false)) else (impl_readDecimal.l0 k x0 x4 0 0)
def impl_readDecimal.l0 : Nat → ByteArray → ByteArray → Int → Int → Option (Int × Bool)
 | 0, _, _, _, _ => none
 | k + 1, x0, x4, x5, x6 => if x6 < (x4.size : Int) then (if 0 ≤ x6 then (if (bt x4 x6) < 48 then (some (0, false)) else (if (bt x4 x6) > 57 then (some (0, false)) else (impl_readDecimal.l0 k x0 x4 (wrap64 ((wrap64 (10 * x5)) + (((bt x4 x6) - 48) % 256))) (wrap64 (x6 + 1))))) else (none)) else (if (x4.size : Int) < (x0.size : Int) then (some (wrap64 (-x5), true)) else (some (x5, true)))
end
def impl_readDecimal.f (k : Nat) (a0 : ByteArray) : Option (Int × Bool) := if (a0.size : Int) > 0 then (if 0 < (a0.size : Int) then (impl_readDecimal.j0 k a0 a0 ((bt a0 0) == 45)) else (none)) else (impl_readDecimal.j0 k a0 a0 false)
set_option maxHeartbeats 8000000 in
set_option maxRecDepth 100000 in
theorem impl_readDecimal.calls (k : Nat) (a0 : ByteArray) (r1 : Int) (r2 : Bool) (w : World) (h : impl_readDecimal.f k a0 = some (r1, r2)) :
  Calls Try.prog 162 #[.string a0] w fun e w' => e = .returned (.tuple #[.int .i64 r1, .bool r2]) ∧ Drawn0 w w' := by
 have H : (if (a0.size : Int) > 0 then (if 0 < (a0.size : Int) then (impl_readDecimal.j0 k a0 a0 ((bt a0 0) == 45)) else (none)) else (impl_readDecimal.j0 k a0 a0 false)) = some (r1, r2) := h
 clear h
 have HC2 := Aside0.mk H
 clear H
 go_enter Try.func162, Try.ntmps162
 go_upto_region 2 with (fail)
 go_cut [15] (fun v15 wc => ∃ (kq : Nat) (x15_1 : Bool), v15 = .bool x15_1 ∧ Aside0 (impl_readDecimal.j0 kq a0 a0 x15_1 = some (r1, r2)) ∧ Aside0 (kq ≤ k) ∧ Drawn0 w wc)
 case first =>
  have H := HC2.out
  clear HC2
  by_cases c3 : (a0.size : Int) > 0
  ·rw [if_pos c3] at H
   have c3b0 : decide (0 < (a0.size : Int)) = true := decide_eq_true c3
   have c3b1 : decide (0 < a0.size) = true := decide_eq_true (by omega)
   clear c3
   (first | rw [c3b0] | (simp only [i64_w, i32_w]; rw [c3b0]) | skip)
   by_cases c4 : 0 < (a0.size : Int)
   case neg =>
    rw [if_neg c4] at H
    exact absurd H (by simp)
   rw [if_pos c4] at H
   have c4b0 : decide (0 < (a0.size : Int)) = true := decide_eq_true c4
   have c4b1 : decide (0 < a0.size) = true := decide_eq_true (by omega)
   clear c4
   have H' := Aside0.mk H
   clear H
   have p5 : 0 ≤ (0 : Int) := (by omega)
   have q5 : 0 < a0.size := (by have : (0 : Int) < (a0.size : Int) := od_; omega)
   have hx5 : ∀ h : 0 < a0.size, ((a0[0]'h).toNat : Int) = bt a0 0 := bt_at a0 0
   clear p5
   have qi5 : (0 < (a0.size : Int)) = True := eq_true od_
   replace q5 := eq_true q5
   go_wp2
   go_meet
   case rel => exact ⟨_, (((bt a0 0) == 45)), (by first | rfl | (simp; done) | (simp [*]; done)), H', ⟨by first | omega | exact Nat.le_refl _⟩, by repeat (first | exact Drawn0.refl _ | apply Drawn0.step)⟩
  ·rw [if_neg c3] at H
   have c3b0 : decide (0 < (a0.size : Int)) = false := decide_eq_false c3
   have c3b1 : decide (0 < a0.size) = false := decide_eq_false (by omega)
   clear c3
   (first | rw [c3b0] | (simp only [i64_w, i32_w]; rw [c3b0]) | skip)
   have H' := Aside0.mk H
   clear H
   go_wp2
   go_meet
   case rel => exact ⟨_, (false), (by first | rfl | (simp; done) | (simp [*]; done)), H', ⟨by first | omega | exact Nat.le_refl _⟩, by repeat (first | exact Drawn0.refl _ | apply Drawn0.step)⟩
 case rest =>
  clear HC2
  try clear c1
  try clear p2
  try clear c3
  try clear c3b0
  try clear c3b1
  try clear c4
  try clear c4b0
  try clear c4b1
  try clear p5
  try clear q5
  try clear hx5
  try clear qi5
  try clear p5
  try clear q5
  obtain ⟨kq, x15_1, rfl, HA, HJ1, ⟨mc1, rfl⟩⟩ := hcut
  cases kq with
  | zero => exact absurd HA.out (by simp [impl_readDecimal.j0])
  | succ kj1 =>
   have H := HA.out
   clear HA
   simp only [impl_readDecimal.j0] at H
   have HC6 := Aside0.mk H
   clear H
   go_upto_if 15 with (fail)
   go_cut [4] (fun v4 wc => ∃ (kq : Nat) (x4_5 : ByteArray), v4 = .string x4_5 ∧ Aside0 (impl_readDecimal.j1 kq a0 x4_5 = some (r1, r2)) ∧ Aside0 (kq ≤ kj1) ∧ Drawn0 w wc)
   case first =>
    have H := HC6.out
    clear HC6
    by_cases c7 : x15_1 = true
    ·subst c7
     replace H : (if 1 ≤ (a0.size : Int) then (impl_readDecimal.j1 kj1 a0 (a0.extract 1 a0.size)) else (none)) = some (r1, r2) := by rw [if_pos rfl] at H; exact H
     by_cases c8 : 1 ≤ (a0.size : Int)
     case neg =>
      rw [if_neg c8] at H
      exact absurd H (by simp)
     rw [if_pos c8] at H
     have c8b0 := eq_true c8
     have c8b1 : decide (1 ≤ (a0.size : Int)) = true := decide_eq_true c8
     clear c8
     have H' := Aside0.mk H
     clear H
     go_wp2
     go_meet
     case rel => exact ⟨_, (a0.extract 1 a0.size), (by first | rfl | (simp; done) | (simp [*]; done)), H', ⟨by have := HJ1.out; first | omega | exact Nat.le_refl _⟩, by repeat (first | exact Drawn0.refl _ | apply Drawn0.step)⟩
    ·replace c7 := Bool.eq_false_iff.mpr c7
     subst c7
     replace H : (impl_readDecimal.j1 kj1 a0 a0) = some (r1, r2) := by rw [if_neg (show ¬ (false = true) by decide)] at H; exact H
     have H' := Aside0.mk H
     clear H
     go_wp2
     go_meet
     case rel => exact ⟨_, (a0), (by first | rfl | (simp; done) | (simp [*]; done)), H', ⟨by have := HJ1.out; first | omega | exact Nat.le_refl _⟩, by repeat (first | exact Drawn0.refl _ | apply Drawn0.step)⟩
   case rest =>
    clear HC6
    try clear c1
    try clear p2
    try clear c3
    try clear c3b0
    try clear c3b1
    try clear c4
    try clear c4b0
    try clear c4b1
    try clear p5
    try clear q5
    try clear hx5
    try clear qi5
    try clear c7
    try clear c8
    try clear c8b0
    try clear c8b1
    try clear p2
    try clear p5
    try clear q5
    obtain ⟨kq, x4_5, rfl, HA, HJ5, ⟨mc5, rfl⟩⟩ := hcut
    cases kq with
    | zero => exact absurd HA.out (by simp [impl_readDecimal.j1])
    | succ kj5 =>
     have H := HA.out
     clear HA
     simp only [impl_readDecimal.j1] at H
     have HC9 := Aside0.mk H
     clear H
     go_upto_region 4 with (fail)
     go_cut [40] (fun v40 wc => ∃ (kq : Nat) (x40_8 : Bool), v40 = .bool x40_8 ∧ Aside0 (impl_readDecimal.j2 kq a0 x4_5 x40_8 = some (r1, r2)) ∧ Aside0 (kq ≤ kj5) ∧ Drawn0 w wc)
     case first =>
      have H := HC9.out
      clear HC9
      by_cases c10 : (x4_5.size : Int) = 0
      ·rw [if_pos c10] at H
       have c10b0 : ((x4_5.size : Int) == 0) = true := beq_iff_eq.mpr c10
       have c10b1 : ((x4_5.size : Int) != 0) = false := bne_eq_false_iff_eq.mpr c10
       clear c10
       (first | rw [c10b0] | (simp only [i64_w, i32_w]; rw [c10b0]) | skip)
       have H' := Aside0.mk H
       clear H
       go_wp2
       go_meet
       case rel => exact ⟨_, (true), (by first | rfl | (simp; done) | (simp [*]; done)), H', ⟨by have := HJ1.out; have := HJ5.out; first | omega | exact Nat.le_refl _⟩, by repeat (first | exact Drawn0.refl _ | apply Drawn0.step)⟩
      ·rw [if_neg c10] at H
       have c10b0 : ((x4_5.size : Int) == 0) = false := beq_eq_false_iff_ne.mpr c10
       have c10b1 : ((x4_5.size : Int) != 0) = true := bne_iff_ne.mpr c10
       (first | rw [c10b0] | (simp only [i64_w, i32_w]; rw [c10b0]) | skip)
       by_cases c11 : (x4_5.size : Int) > 18
       ·rw [if_pos c11] at H
        have c11b0 : decide (18 < (x4_5.size : Int)) = true := decide_eq_true c11
        have c11b1 : decide (18 < x4_5.size) = true := decide_eq_true (by omega)
        clear c11
        have H' := Aside0.mk H
        clear H
        go_wp2
        go_meet
        case rel => exact ⟨_, (true), (by first | rfl | (simp; done) | (simp [*]; done)), H', ⟨by have := HJ1.out; have := HJ5.out; first | omega | exact Nat.le_refl _⟩, by repeat (first | exact Drawn0.refl _ | apply Drawn0.step)⟩
       ·rw [if_neg c11] at H
        have c11b0 : decide (18 < (x4_5.size : Int)) = false := decide_eq_false c11
        have c11b1 : decide (18 < x4_5.size) = false := decide_eq_false (by omega)
        clear c11
        by_cases c12 : 0 < (x4_5.size : Int)
        case neg =>
         rw [if_neg c12] at H
         exact absurd H (by simp)
        rw [if_pos c12] at H
        have c12b0 : decide (0 < (x4_5.size : Int)) = true := decide_eq_true c12
        have c12b1 : decide (0 < x4_5.size) = true := decide_eq_true (by omega)
        clear c12
        by_cases c14 : (bt x4_5 0) = 48
        ·rw [if_pos c14] at H
         have c14b0 : ((bt x4_5 0) == 48) = true := beq_iff_eq.mpr c14
         have c14b1 : ((bt x4_5 0) != 48) = false := bne_eq_false_iff_eq.mpr c14
         clear c14
         by_cases c15 : (x4_5.size : Int) > 1
         ·rw [if_pos c15] at H
          have c15b0 : decide (1 < (x4_5.size : Int)) = true := decide_eq_true c15
          have c15b1 : decide (1 < x4_5.size) = true := decide_eq_true (by omega)
          clear c15
          have H' := Aside0.mk H
          clear H
          have p13 : 0 ≤ (0 : Int) := (by omega)
          have q13 : 0 < x4_5.size := (by have : (0 : Int) < (x4_5.size : Int) := od_; omega)
          have hx13 : ∀ h : 0 < x4_5.size, ((x4_5[0]'h).toNat : Int) = bt x4_5 0 := bt_at x4_5 0
          clear p13
          have qi13 : (0 < (x4_5.size : Int)) = True := eq_true od_
          replace q13 := eq_true q13
          go_wp2
          go_meet
          case rel => exact ⟨_, (true), (by first | rfl | (simp; done) | (simp [*]; done)), H', ⟨by have := HJ1.out; have := HJ5.out; first | omega | exact Nat.le_refl _⟩, by repeat (first | exact Drawn0.refl _ | apply Drawn0.step)⟩
         ·rw [if_neg c15] at H
          have c15b0 : decide (1 < (x4_5.size : Int)) = false := decide_eq_false c15
          have c15b1 : decide (1 < x4_5.size) = false := decide_eq_false (by omega)
          clear c15
          have H' := Aside0.mk H
          clear H
          have p13 : 0 ≤ (0 : Int) := (by omega)
          have q13 : 0 < x4_5.size := (by have : (0 : Int) < (x4_5.size : Int) := od_; omega)
          have hx13 : ∀ h : 0 < x4_5.size, ((x4_5[0]'h).toNat : Int) = bt x4_5 0 := bt_at x4_5 0
          clear p13
          have qi13 : (0 < (x4_5.size : Int)) = True := eq_true od_
          replace q13 := eq_true q13
          go_wp2
          go_meet
          case rel => exact ⟨_, (decide ((a0.size : Int) > 1)), (by first | rfl | (simp; done) | (simp [*]; done)), H', ⟨by have := HJ1.out; have := HJ5.out; first | omega | exact Nat.le_refl _⟩, by repeat (first | exact Drawn0.refl _ | apply Drawn0.step)⟩
        ·rw [if_neg c14] at H
         have c14b0 : ((bt x4_5 0) == 48) = false := beq_eq_false_iff_ne.mpr c14
         have c14b1 : ((bt x4_5 0) != 48) = true := bne_iff_ne.mpr c14
         have H' := Aside0.mk H
         clear H
         have p13 : 0 ≤ (0 : Int) := (by omega)
         have q13 : 0 < x4_5.size := (by have : (0 : Int) < (x4_5.size : Int) := od_; omega)
         have hx13 : ∀ h : 0 < x4_5.size, ((x4_5[0]'h).toNat : Int) = bt x4_5 0 := bt_at x4_5 0
         clear p13
         have qi13 : (0 < (x4_5.size : Int)) = True := eq_true od_
         replace q13 := eq_true q13
         go_wp2
         go_meet
         case rel => exact ⟨_, (false), (by first | rfl | (simp; done) | (simp [*]; done)), H', ⟨by have := HJ1.out; have := HJ5.out; first | omega | exact Nat.le_refl _⟩, by repeat (first | exact Drawn0.refl _ | apply Drawn0.step)⟩
     case rest =>
      clear HC9
      try clear c1
      try clear p1
      try clear q1
      try clear hx1
      try clear qi1
      try clear p2
      try clear c3
      try clear c3b0
      try clear c3b1
      try clear c4
      try clear c4b0
      try clear c4b1
      try clear c5
      try clear p5
      try clear q5
      try clear hx5
      try clear qi5
      try clear c7
      try clear c8
      try clear c8b0
      try clear c8b1
      try clear c10
      try clear c10b0
      try clear c10b1
      try clear c11
      try clear c11b0
      try clear c11b1
      try clear c12
      try clear c12b0
      try clear c12b1
      try clear p13
      try clear q13
      try clear hx13
      try clear qi13
      try clear c14
      try clear c14b0
      try clear c14b1
      try clear c15
      try clear c15b0
      try clear c15b1
      try clear p13
      try clear p2
      try clear p5
      try clear q13
      try clear q5
      obtain ⟨kq, x40_8, rfl, HA, HJ8, ⟨mc8, rfl⟩⟩ := hcut
      cases kq with
      | zero => exact absurd HA.out (by simp [impl_readDecimal.j2])
      | succ kj8 =>
       have H := HA.out
       clear HA
       simp only [impl_readDecimal.j2] at H
       by_cases c16 : x40_8 = true
       ·subst c16
        replace H : (some (0, false)) = some (r1, r2) := by rw [if_pos rfl] at H; exact H
        simp only [Option.some.injEq, Prod.mk.injEq] at H
        obtain ⟨rfl, rfl⟩ := H
        go_wp2
        go_ret2
        exact ⟨by first | rfl | (simp; done) | (simp [*]; done), by repeat (first | exact Drawn0.refl _ | apply Drawn0.step)⟩
       ·replace c16 := Bool.eq_false_iff.mpr c16
        subst c16
        replace H : (impl_readDecimal.l0 kj8 a0 x4_5 0 0) = some (r1, r2) := by rw [if_neg (show ¬ (false = true) by decide)] at H; exact H
        have H' := Aside0.mk H
        clear H
        go_wp2
        go_loopg [5, 6] kj8 (fun kq v5 v6 w' => ∃ (x5_4 : Int) (x6_4 : Int), v5 = .int .i64 x5_4 ∧ v6 = .int .i64 x6_4 ∧ Aside0 (impl_readDecimal.l0 kq a0 x4_5 x5_4 x6_4 = some (r1, r2)) ∧ Aside0 (kq ≤ kj8) ∧ Drawn0 w w')
        case atStart => exact ⟨(0), (0), (by first | rfl | (simp; done) | (simp [*]; done)), (by first | rfl | (simp; done) | (simp [*]; done)), H', ⟨Nat.le_refl _⟩, by repeat (first | exact Drawn0.refl _ | apply Drawn0.step)⟩
        case round =>
         clear H'
         try clear c1
         try clear p1
         try clear q1
         try clear hx1
         try clear qi1
         try clear p2
         try clear c3
         try clear c3b0
         try clear c3b1
         try clear c4
         try clear c4b0
         try clear c4b1
         try clear c5
         try clear p5
         try clear q5
         try clear hx5
         try clear qi5
         try clear c7
         try clear c8
         try clear c8b0
         try clear c8b1
         try clear c10
         try clear c10b0
         try clear c10b1
         try clear c11
         try clear c11b0
         try clear c11b1
         try clear c12
         try clear c12b0
         try clear c12b1
         try clear p13
         try clear q13
         try clear hx13
         try clear qi13
         try clear c14
         try clear c14b0
         try clear c14b1
         try clear c15
         try clear c15b0
         try clear c15b1
         try clear c16
         try clear p1
         try clear p13
         try clear p2
         try clear p5
         try clear q1
         try clear q13
         try clear q5
         obtain ⟨x5_4, x6_4, rfl, rfl, HA, HK4, ⟨m4, rfl⟩⟩ := hrel
         cases gk with
         | zero => exact absurd HA.out (by simp [impl_readDecimal.l0])
         | succ k4 =>
          have H := HA.out
          clear HA
          simp only [impl_readDecimal.l0] at H
          by_cases c17 : x6_4 < (x4_5.size : Int)
          ·rw [if_pos c17] at H
           have c17b0 : decide (x6_4 < (x4_5.size : Int)) = true := decide_eq_true c17
           clear c17
           by_cases c18 : 0 ≤ x6_4
           case neg =>
            rw [if_neg c18] at H
            exact absurd H (by simp)
           rw [if_pos c18] at H
           have c18b0 : decide (0 ≤ x6_4) = true := decide_eq_true c18
           clear c18
           by_cases c20 : (bt x4_5 x6_4) < 48
           ·rw [if_pos c20] at H
            have c20b0 : decide ((bt x4_5 x6_4) < 48) = true := decide_eq_true c20
            clear c20
            simp only [Option.some.injEq, Prod.mk.injEq] at H
            obtain ⟨rfl, rfl⟩ := H
            have p19 : 0 ≤ (x6_4 : Int) := od_
            have q19 : x6_4 < (x4_5.size : Int) := od_
            have hx19 := bt_at x4_5 x6_4
            replace p19 := eq_true p19
            replace q19 := eq_true q19
            go_wp2
            go_ret2
            exact ⟨by first | rfl | (simp; done) | (simp [*]; done), by repeat (first | exact Drawn0.refl _ | apply Drawn0.step)⟩
           ·rw [if_neg c20] at H
            have c20b0 : decide ((bt x4_5 x6_4) < 48) = false := decide_eq_false c20
            clear c20
            by_cases c22 : (bt x4_5 x6_4) > 57
            ·rw [if_pos c22] at H
             have c22b0 : decide (57 < (bt x4_5 x6_4)) = true := decide_eq_true c22
             clear c22
             simp only [Option.some.injEq, Prod.mk.injEq] at H
             obtain ⟨rfl, rfl⟩ := H
             have p19 : 0 ≤ (x6_4 : Int) := od_
             have q19 : x6_4 < (x4_5.size : Int) := od_
             have hx19 := bt_at x4_5 x6_4
             replace p19 := eq_true p19
             replace q19 := eq_true q19
             have p21 : 0 ≤ (x6_4 : Int) := od_
             have q21 : x6_4 < (x4_5.size : Int) := od_
             have hx21 := bt_at x4_5 x6_4
             replace p21 := eq_true p21
             replace q21 := eq_true q21
             go_wp2
             go_ret2
             exact ⟨by first | rfl | (simp; done) | (simp [*]; done), by repeat (first | exact Drawn0.refl _ | apply Drawn0.step)⟩
            ·rw [if_neg c22] at H
             have c22b0 : decide (57 < (bt x4_5 x6_4)) = false := decide_eq_false c22
             clear c22
             have H' := Aside0.mk H
             clear H
             have p19 : 0 ≤ (x6_4 : Int) := od_
             have q19 : x6_4 < (x4_5.size : Int) := od_
             have hx19 := bt_at x4_5 x6_4
             replace p19 := eq_true p19
             replace q19 := eq_true q19
             have p21 : 0 ≤ (x6_4 : Int) := od_
             have q21 : x6_4 < (x4_5.size : Int) := od_
             have hx21 := bt_at x4_5 x6_4
             replace p21 := eq_true p21
             replace q21 := eq_true q21
             have p23 : 0 ≤ (x6_4 : Int) := od_
             have q23 : x6_4 < (x4_5.size : Int) := od_
             have hx23 := bt_at x4_5 x6_4
             replace p23 := eq_true p23
             replace q23 := eq_true q23
             go_wp2
             go_roundg k4
             case measure => have := HJ1.out; have := HJ5.out; have := HJ8.out; have := HK4.out; omega
             case rel => exact ⟨(wrap64 ((wrap64 (10 * x5_4)) + (((bt x4_5 x6_4) - 48) % 256))), (wrap64 (x6_4 + 1)), (by first | rfl | (simp; done) | (simp [*]; done)), (by first | rfl | (simp; done) | (simp [*]; done)), H', ⟨by have := HJ1.out; have := HJ5.out; have := HJ8.out; have := HK4.out; omega⟩, by repeat (first | exact Drawn0.refl _ | apply Drawn0.step)⟩
          ·rw [if_neg c17] at H
           have c17b0 : decide (x6_4 < (x4_5.size : Int)) = false := decide_eq_false c17
           clear c17
           by_cases c24 : (x4_5.size : Int) < (a0.size : Int)
           ·rw [if_pos c24] at H
            have c24b0 : decide ((x4_5.size : Int) < (a0.size : Int)) = true := decide_eq_true c24
            have c24b1 : decide (x4_5.size < a0.size) = true := decide_eq_true (Int.ofNat_lt.mp c24)
            clear c24
            simp only [Option.some.injEq, Prod.mk.injEq] at H
            obtain ⟨rfl, rfl⟩ := H
            go_wp2
            go_ret2
            exact ⟨by first | rfl | (simp; done) | (simp [*]; done), by repeat (first | exact Drawn0.refl _ | apply Drawn0.step)⟩
           ·rw [if_neg c24] at H
            have c24b0 : decide ((x4_5.size : Int) < (a0.size : Int)) = false := decide_eq_false c24
            have c24b1 : decide (x4_5.size < a0.size) = false := decide_eq_false (fun h => c24 (Int.ofNat_lt.mpr h))
            clear c24
            simp only [Option.some.injEq, Prod.mk.injEq] at H
            obtain ⟨rfl, rfl⟩ := H
            go_wp2
            go_ret2
            exact ⟨by first | rfl | (simp; done) | (simp [*]; done), by repeat (first | exact Drawn0.refl _ | apply Drawn0.step)⟩
def impl_kindWord.f (a0 : Int) : Option (ByteArray) := if a0 = 0 then (some (⟨#[112, 101, 111, 112, 108, 101]⟩ : ByteArray)) else (if a0 = 1 then (some (⟨#[98, 117, 105, 108, 100, 105, 110, 103]⟩ : ByteArray)) else (if a0 = 2 then (some (⟨#[114, 111, 97, 100]⟩ : ByteArray)) else (some (⟨#[119, 97, 116, 101, 114]⟩ : ByteArray))))
set_option maxHeartbeats 8000000 in
set_option maxRecDepth 100000 in
theorem impl_kindWord.calls (a0 : Int) (r : ByteArray) (w : World) (h : impl_kindWord.f a0 = some r) :
    Calls Try.prog 163 #[.int .i64 a0] w fun e w' => e = .returned (.string r) ∧ Drawn0 w w' := by
  have H : (if a0 = 0 then (some (⟨#[112, 101, 111, 112, 108, 101]⟩ : ByteArray)) else (if a0 = 1 then (some (⟨#[98, 117, 105, 108, 100, 105, 110, 103]⟩ : ByteArray)) else (if a0 = 2 then (some (⟨#[114, 111, 97, 100]⟩ : ByteArray)) else (some (⟨#[119, 97, 116, 101, 114]⟩ : ByteArray))))) = some r := h
  clear h
  by_cases c2 : a0 = 0
  · rw [if_pos c2] at H
    have c2b0 : (a0 == 0) = true := beq_iff_eq.mpr c2
    have c2b1 : (a0 != 0) = false := bne_eq_false_iff_eq.mpr c2
    clear c2
    obtain rfl := Option.some.inj H
    go_enter Try.func163, Try.ntmps163
    go_wp2
    go_ret
    exact ⟨by first | rfl | (simp; done) | (simp [*]; done), by repeat (first | exact Drawn0.refl _ | apply Drawn0.step)⟩
  · rw [if_neg c2] at H
    have c2b0 : (a0 == 0) = false := beq_eq_false_iff_ne.mpr c2
    have c2b1 : (a0 != 0) = true := bne_iff_ne.mpr c2
    by_cases c3 : a0 = 1
    · rw [if_pos c3] at H
      have c3b0 : (a0 == 1) = true := beq_iff_eq.mpr c3
      have c3b1 : (a0 != 1) = false := bne_eq_false_iff_eq.mpr c3
      clear c3
      obtain rfl := Option.some.inj H
      go_enter Try.func163, Try.ntmps163
      go_wp2
      go_ret
      exact ⟨by first | rfl | (simp; done) | (simp [*]; done), by repeat (first | exact Drawn0.refl _ | apply Drawn0.step)⟩
    · rw [if_neg c3] at H
      have c3b0 : (a0 == 1) = false := beq_eq_false_iff_ne.mpr c3
      have c3b1 : (a0 != 1) = true := bne_iff_ne.mpr c3
      by_cases c4 : a0 = 2
      · rw [if_pos c4] at H
        have c4b0 : (a0 == 2) = true := beq_iff_eq.mpr c4
        have c4b1 : (a0 != 2) = false := bne_eq_false_iff_eq.mpr c4
        clear c4
        obtain rfl := Option.some.inj H
        go_enter Try.func163, Try.ntmps163
        go_wp2
        go_ret
        exact ⟨by first | rfl | (simp; done) | (simp [*]; done), by repeat (first | exact Drawn0.refl _ | apply Drawn0.step)⟩
      · rw [if_neg c4] at H
        have c4b0 : (a0 == 2) = false := beq_eq_false_iff_ne.mpr c4
        have c4b1 : (a0 != 2) = true := bne_iff_ne.mpr c4
        obtain rfl := Option.some.inj H
        go_enter Try.func163, Try.ntmps163
        go_wp2
        go_ret
        exact ⟨by first | rfl | (simp; done) | (simp [*]; done), by repeat (first | exact Drawn0.refl _ | apply Drawn0.step)⟩
mutual
def impl_ReadArea.j0 : Nat → List ByteArray → List ByteArray → List ByteArray → Bool → Option (Int × Int × Int × Int × Int × Int)
 | 0, _, _, _, _ => none
 | k + 1, x4, x6, x7, x44 => if x44 = true then (some (0, 0, 0, 0, 0, 6)) else (if 0 < (x6.length : Int) then (if 1 < (x6.length : Int) then (if 0 < (x7.length : Int) then (if 1 < (x7.length : Int) then ((some (([rdOf ByteArray.empty x6 0, rdOf ByteArray.empty x6 1, rdOf ByteArray.empty x7 0, rdOf ByteArray.empty x7 1] : List ByteArray) : List ByteArray)).bind fun y217 => (impl_ReadArea.l0 k x4 (([0, 0, 0, 0] : List Int)) y217 (y217.length : Int) 0)) else (none)) else (none)) else (none)) else (none))
def impl_ReadArea.l0 : Nat → List ByteArray → List Int → List ByteArray → Int → Int → Option (Int × Int × Int × Int × Int × Int)
 | 0, _, _, _, _, _ => none
 | k + 1, x4, x8, x58, x59, x60 => if x60 < x59 then (if 0 ≤ x60 then (if x60 < (x58.length : Int) then ((impl_readDecimal.f k (rdOf ByteArray.empty x58 x60)).bind fun bt221 => (if bt221.2 = true then (if x60 < (x8.length : Int) then (impl_ReadArea.l0 k x4 (x8.set (x60 : Int).toNat bt221.1) x58 x59 (wrap64 (x60 + 1))) else (none)) else (some (0, 0, 0, 0, 0, 6)))) else (none)) else (none)) else (impl_ReadArea.l1 k x4 x8 0)
def impl_ReadArea.l1 : Nat → List ByteArray → List Int → Int → Option (Int × Int × Int × Int × Int × Int)
 | 0, _, _, _ => none
 | k + 1, x4, x8, x13 => if x13 ≤ 3 then (if 0 < (x8.length : Int) then (if 1 < (x8.length : Int) then (if 2 < (x8.length : Int) then (if 3 < (x8.length : Int) then ((impl_kindWord.f x13).bind fun t229 => (if 0 < (x4.length : Int) then (if t229.toList = (rdOf ByteArray.empty x4 0).toList then ((impl_IsArea.f x13 (rd x8 0) (rd x8 1) (rd x8 2) (rd x8 3)).bind fun t231 => (if t231 = true then (some (x13, rd x8 0, rd x8 1, rd x8 2, rd x8 3, 0)) else (impl_ReadArea.l1 k x4 x8 (wrap64 (x13 + 1))))) else (impl_ReadArea.l1 k x4 x8 (wrap64 (x13 + 1)))) else (none))) else (none)) else (none)) else (none)) else (none)) else (some (0, 0, 0, 0, 0, 6))
end
def impl_ReadArea.f (k : Nat) (a0 : ByteArray) : Option (Int × Int × Int × Int × Int × Int) := (impl_splitAt.f k a0 32).bind fun t195 => (if (t195.length : Int) = 2 then (if 1 < (t195.length : Int) then ((impl_splitAt.f k (rdOf ByteArray.empty t195 1) 43).bind fun t199 => (if (t199.length : Int) = 2 then (if 0 < (t199.length : Int) then ((impl_splitAt.f k (rdOf ByteArray.empty t199 0) 44).bind fun t203 => (if 1 < (t199.length : Int) then ((impl_splitAt.f k (rdOf ByteArray.empty t199 1) 42).bind fun t207 => (if (t203.length : Int) = 2 then (impl_ReadArea.j0 k t195 t203 t207 ((t207.length : Int) != 2)) else (impl_ReadArea.j0 k t195 t203 t207 true))) else (none))) else (none)) else (some (0, 0, 0, 0, 0, 6)))) else (none)) else (some (0, 0, 0, 0, 0, 6)))
def impl_ReadArea.T7 : Bool × List (List Nat × List Nat) := (true, [([], []), ([0], [0]), ([1], [1]), ([2], [2]), ([], []), ([4], [4]), ([5], [5]), ([6, 3], [6]), ([3, 7, 0, 1, 2, 3], [3]), ([7, 8, 0, 1, 2, 3, 4, 5, 6, 7, 8], [7])])
def impl_ReadArea.B7 : List Nat := [0, 1, 3, 7, 0, 16, 48, 127, 255, 511]
theorem impl_ReadArea.tab7 : rtab .any (opsOf Try.f62 7) = impl_ReadArea.T7 := by kernel_rfl
theorem impl_ReadArea.bits7 : waitsOk impl_ReadArea.T7.2 impl_ReadArea.B7 = true := by kernel_rfl
def impl_ReadArea.T11 : Bool × List (List Nat × List Nat) := (true, [([], []), ([0], [0]), ([1], [1]), ([], []), ([3], [3]), ([4], [4]), ([], []), ([6], [6]), ([7], [7]), ([], []), ([9], [9]), ([10], [10]), ([2, 5, 8, 11], [2, 5, 8, 11]), ([12], [12]), ([], [])])
def impl_ReadArea.B11 : List Nat := [0, 1, 3, 0, 8, 24, 0, 64, 192, 0, 512, 1536, 4095, 8191, 0]
theorem impl_ReadArea.tab11 : rtab .any (opsOf Try.f62 11) = impl_ReadArea.T11 := by kernel_rfl
theorem impl_ReadArea.bits11 : waitsOk impl_ReadArea.T11.2 impl_ReadArea.B11 = true := by kernel_rfl
def impl_ReadArea.T23 : Bool × List (List Nat × List Nat) := (true, [([], []), ([0], [0]), ([], []), ([2], [2]), ([3], [3]), ([1, 4], [1, 4]), ([5, 1], [5]), ([6], [6]), ([7, 6, 6], [6, 7]), ([6, 8], [6, 8])])
def impl_ReadArea.B23 : List Nat := [0, 1, 0, 4, 12, 31, 63, 127, 255, 511]
theorem impl_ReadArea.tab23 : rtab .any (opsOf Try.f62 23) = impl_ReadArea.T23 := by kernel_rfl
theorem impl_ReadArea.bits23 : waitsOk impl_ReadArea.T23.2 impl_ReadArea.B23 = true := by kernel_rfl
open Kd in
/-- A local array: its block, read as a row whose length is the array's. -/
theorem R_arr_ {P : Program} {ops : Array Oper} {rest : List Oper} {o : Oper} {a : Act} {Q : Exit → Act → World → Prop} {W : World} {α : Type} (d : Kd α) {w0 : World} (base e : Nat) (hgd : o.guard = none) {N : Tmp} (hd : o.dst = some N) {xs : List α} {inner : List Value} {ok okp : Nat → Prop}
  (hrun : (execOp a.eval o).run P W = .ok (.value (.pointer (some ⟨W.heap.size, 0, none⟩))) (W.alloc (.cells inner.toArray e)))
  (hrep : Reps (d.M W base okp) d.sz xs inner) (hok : ∀ k, okp k → ok k) (hfresh : ok W.heap.size) (HB : Below base w0 W) (hbase : base ≤ W.heap.size) (hm : xs.length ≤ 9223372036854775807)
  (h : ∀ g w1, d.R e w1 base ok (.slice (some ⟨g, 0, none⟩) xs.length xs.length) xs → Below base w0 w1 → wpList P ops Q rest (a.put o.dst (.pointer (some ⟨g, 0, none⟩))) w1) : wpList P ops Q (o :: rest) a W := by
 refine event_run hgd hrun (h _ _ ⟨fun k hk => ?_, inner, ?_, ?_⟩ (HB.alloc hbase _))
 ·have : W.heap.size = k := by simpa [Value.ownBlock] using hk
  subst this
  exact hfresh
 ·have h2 := World.ownsRow_lit (base := base) (e := e) (size := d.sz) W inner.toArray xs.length hbase (by simpa [maxLen] using hm) (by simpa using hrep.1)
  simpa using h2
 ·refine hrep.imp_ (fun p c hp => d.M_mono (fun k hk => ⟨hok k hk.1, fun he => ?_⟩) (M_below (d.M_bound hp) (below_alloc (Below.refl _ _) _)))
  have h3 : k = W.heap.size := by simpa [Value.ownBlock] using he
  have := hk.2.2.1
  omega
set_option maxHeartbeats 8000000 in
set_option maxRecDepth 100000 in
theorem impl_ReadArea.calls (k : Nat) (a0 : ByteArray) (r1 : Int) (r2 : Int) (r3 : Int) (r4 : Int) (r5 : Int) (r6 : Int) (w : World) (h : impl_ReadArea.f k a0 = some (r1, r2, r3, r4, r5, r6)) :
  Calls Try.prog 62 #[.string a0] w fun e w' => e = .returned (.tuple #[.agg #[.int .i64 r1, .int .i64 r2, .int .i64 r3, .int .i64 r4, .int .i64 r5], .int .i64 r6]) ∧ Below w.heap.size w w' := by
 have hu83 := Try.underlying83
 have HB := Aside0.mk (Below.refl w.heap.size w)
 have H : ((impl_splitAt.f k a0 32).bind fun t195 => (if (t195.length : Int) = 2 then (if 1 < (t195.length : Int) then ((impl_splitAt.f k (rdOf ByteArray.empty t195 1) 43).bind fun t199 => (if (t199.length : Int) = 2 then (if 0 < (t199.length : Int) then ((impl_splitAt.f k (rdOf ByteArray.empty t199 0) 44).bind fun t203 => (if 1 < (t199.length : Int) then ((impl_splitAt.f k (rdOf ByteArray.empty t199 1) 42).bind fun t207 => (if (t203.length : Int) = 2 then (impl_ReadArea.j0 k t195 t203 t207 ((t207.length : Int) != 2)) else (impl_ReadArea.j0 k t195 t203 t207 true))) else (none))) else (none)) else (some (0, 0, 0, 0, 0, 6)))) else (none)) else (some (0, 0, 0, 0, 0, 6)))) = some (r1, r2, r3, r4, r5, r6) := h
 clear h
 replace H := Option.bind_eq_some_iff.mp H
 obtain ⟨t195, A20, H⟩ := H
 replace H : (if (t195.length : Int) = 2 then (if 1 < (t195.length : Int) then ((impl_splitAt.f k (rdOf ByteArray.empty t195 1) 43).bind fun t199 => (if (t199.length : Int) = 2 then (if 0 < (t199.length : Int) then ((impl_splitAt.f k (rdOf ByteArray.empty t199 0) 44).bind fun t203 => (if 1 < (t199.length : Int) then ((impl_splitAt.f k (rdOf ByteArray.empty t199 1) 42).bind fun t207 => (if (t203.length : Int) = 2 then (impl_ReadArea.j0 k t195 t203 t207 ((t207.length : Int) != 2)) else (impl_ReadArea.j0 k t195 t203 t207 true))) else (none))) else (none)) else (some (0, 0, 0, 0, 0, 6)))) else (none)) else (some (0, 0, 0, 0, 0, 6))) = some (r1, r2, r3, r4, r5, r6) := H
 have A2 := Aside0.mk A20
 clear A20
 by_cases c3 : (t195.length : Int) = 2
 ·rw [if_pos c3] at H
  have c3b0 : ((t195.length : Int) == 2) = true := beq_iff_eq.mpr c3
  have c3b1 : ((t195.length : Int) != 2) = false := bne_eq_false_iff_eq.mpr c3
  clear c3
  by_cases c4 : 1 < (t195.length : Int)
  case neg =>
   rw [if_neg c4] at H
   exact absurd H (by simp)
  rw [if_pos c4] at H
  have c4b0 : decide (1 < (t195.length : Int)) = true := decide_eq_true c4
  have c4b1 : decide (1 < t195.length) = true := decide_eq_true (by omega)
  clear c4
  replace H := Option.bind_eq_some_iff.mp H
  obtain ⟨t199, A50, H⟩ := H
  replace H : (if (t199.length : Int) = 2 then (if 0 < (t199.length : Int) then ((impl_splitAt.f k (rdOf ByteArray.empty t199 0) 44).bind fun t203 => (if 1 < (t199.length : Int) then ((impl_splitAt.f k (rdOf ByteArray.empty t199 1) 42).bind fun t207 => (if (t203.length : Int) = 2 then (impl_ReadArea.j0 k t195 t203 t207 ((t207.length : Int) != 2)) else (impl_ReadArea.j0 k t195 t203 t207 true))) else (none))) else (none)) else (some (0, 0, 0, 0, 0, 6))) = some (r1, r2, r3, r4, r5, r6) := H
  have A5 := Aside0.mk A50
  clear A50
  by_cases c6 : (t199.length : Int) = 2
  ·rw [if_pos c6] at H
   have c6b0 : ((t199.length : Int) == 2) = true := beq_iff_eq.mpr c6
   have c6b1 : ((t199.length : Int) != 2) = false := bne_eq_false_iff_eq.mpr c6
   clear c6
   by_cases c7 : 0 < (t199.length : Int)
   case neg =>
    rw [if_neg c7] at H
    exact absurd H (by simp)
   rw [if_pos c7] at H
   have c7b0 : decide (0 < (t199.length : Int)) = true := decide_eq_true c7
   have c7b1 : decide (0 < t199.length) = true := decide_eq_true (by omega)
   clear c7
   replace H := Option.bind_eq_some_iff.mp H
   obtain ⟨t203, A80, H⟩ := H
   replace H : (if 1 < (t199.length : Int) then ((impl_splitAt.f k (rdOf ByteArray.empty t199 1) 42).bind fun t207 => (if (t203.length : Int) = 2 then (impl_ReadArea.j0 k t195 t203 t207 ((t207.length : Int) != 2)) else (impl_ReadArea.j0 k t195 t203 t207 true))) else (none)) = some (r1, r2, r3, r4, r5, r6) := H
   have A8 := Aside0.mk A80
   clear A80
   by_cases c9 : 1 < (t199.length : Int)
   case neg =>
    rw [if_neg c9] at H
    exact absurd H (by simp)
   rw [if_pos c9] at H
   have c9b0 : decide (1 < (t199.length : Int)) = true := decide_eq_true c9
   have c9b1 : decide (1 < t199.length) = true := decide_eq_true (by omega)
   clear c9
   replace H := Option.bind_eq_some_iff.mp H
   obtain ⟨t207, A100, H⟩ := H
   replace H : (if (t203.length : Int) = 2 then (impl_ReadArea.j0 k t195 t203 t207 ((t207.length : Int) != 2)) else (impl_ReadArea.j0 k t195 t203 t207 true)) = some (r1, r2, r3, r4, r5, r6) := H
   have A10 := Aside0.mk A100
   clear A100
   have HC11 := Aside0.mk H
   clear H
   go_enter Try.func62, Try.ntmps62
   try go_wp2_with (first | ((with_reducible refine gate_dst (N := 2) rfl ?_); (try (refine gate_guard (by rfl) ?_; dsimp only)); refine box_event ?hg (N := 2) ?hd (cs := #[.int .i64 0, .int .i64 0, .int .i64 0, .int .i64 0, .int .i64 0]) (t := 83) ?hr ?_; (case hd => rfl); (case hg => rfl); (case hr => first | (go_simp; done) | (go_simp; rfl)); intro gb194 hg w12 hbox hb; have BK194 := Aside0.mk (hbox); have GW194 := Aside0.mk ((by rw [hg]; exact (below_size (bl_ HB.out)) : w.heap.size ≤ gb194)); have GE194 := Aside0.mk ((by rw [hg]; exact (below_size (bl_ HB.out)) : w.heap.size ≤ gb194)); replace HB := Aside0.mk (below_step (bl_ HB.out) hb); clear hb hbox hg) | ((with_reducible refine gate_callee (f := 161) rfl ?_); refine goesL_ (some 16) rfl rfl Try.func161 (by kernel_rfl) rfl #[.string a0, .int .u8 32] rfl ag_ ?_; (with_reducible refine (impl_splitAt.calls k a0 32 t195 _ A2.out).mono ?_); rintro e w13 ⟨v196, rfl, ho0, hb⟩; refine ⟨_, rfl, ?_⟩; have HO197 := Aside0.mk (Kd.R_lower ho0 (below_size (r1_ HB.out GE194.out))); replace BK194 := Aside0.mk (blk_below (g := gb194) (o := .cells #[.int .i64 0, .int .i64 0, .int .i64 0, .int .i64 0, .int .i64 0] 83 (0, 0)) (r0_ BK194.out) hb); replace HB := Aside0.mk (below_step (r1_ HB.out GE194.out) hb); (try clear hb); (try clear hb2); (try clear hk); (try clear hi); (try clear ho0); obtain ⟨Ao14, co14, eo14⟩ := Kd.R_slice HO197.out; subst eo14; have p198 : 0 ≤ (1 : Int) := (by omega); have q198 : 1 < (t195.length : Int) := od_; obtain ⟨ad198, e198, hx198_0⟩ := Kd.at_string (Kd.R_reads' HO197.out).2.2 1 p198 q198; cases e198; (try simp only [show (1 : Int).toNat = 1 from rfl, Nat.reduceMul, Nat.reduceEqDiff, Go.Addr.add, ↓reduceIte] at hx198_0); have qi198 : (1 < t195.length) = True := eq_true (by omega); (try rw [show ((1 : Int)).toNat = 1 from rfl] at hx198_0); replace p198 := eq_true p198; replace q198 := eq_true q198) | ((with_reducible refine gate_callee (f := 161) rfl ?_); refine goesL_ (some 24) rfl rfl Try.func161 (by kernel_rfl) rfl #[.string (rdOf ByteArray.empty t195 1), .int .u8 43] rfl ag_ ?_; (with_reducible refine (impl_splitAt.calls k (rdOf ByteArray.empty t195 1) 43 t199 _ A5.out).mono ?_); rintro e w15 ⟨v200, rfl, ho0, hb⟩; refine ⟨_, rfl, ?_⟩; have HO201 := Aside0.mk (Kd.R_lower (Kd.R_new' ho0 (Kd.R_lt (rk_ HO197.out))) (below_size (r1_ HB.out GE194.out))); replace HO197 := Aside0.mk (Kd.R_elder' (rk_ HO197.out) (Kd.R_base ho0) hb); replace BK194 := Aside0.mk (blk_below (g := gb194) (o := .cells #[.int .i64 0, .int .i64 0, .int .i64 0, .int .i64 0, .int .i64 0] 83 (0, 0)) (r0_ BK194.out) hb); replace HB := Aside0.mk (below_step (r1_ HB.out GE194.out) hb); (try clear hb); (try clear hb2); (try clear hk); (try clear hi); (try clear ho0); obtain ⟨Ao16, co16, eo16⟩ := Kd.R_slice HO201.out; subst eo16))
   replace HO197 := Aside0.mk (Kd.R_drew HO197.out)
   replace HO201 := Aside0.mk (Kd.R_drew HO201.out)
   replace BK194 := Aside0.mk (blk_drew BK194.out)
   replace HB := Aside0.mk (below_drew1 HB.out)
   have p202 : 0 ≤ (0 : Int) := (by omega)
   have q202 : 0 < (t199.length : Int) := od_
   obtain ⟨ad202, e202, hx202_0⟩ := Kd.at_string (Kd.R_reads' HO201.out).2.2 0 p202 q202
   cases e202
   have qi202 : (0 < t199.length) = True := eq_true (by omega)
   (try rw [show ((0 : Int)).toNat = 0 from rfl] at hx202_0)
   (try rw [Addr.add_zero'] at hx202_0)
   replace p202 := eq_true p202
   replace q202 := eq_true q202
   have p206 : 0 ≤ (1 : Int) := (by omega)
   have q206 : 1 < (t199.length : Int) := od_
   obtain ⟨ad206, e206, hx206_0⟩ := Kd.at_string (Kd.R_reads' HO201.out).2.2 1 p206 q206
   obtain rfl : ad202 = ad206 := (by injection e206)
   (try simp only [show (1 : Int).toNat = 1 from rfl, Nat.reduceMul, Nat.reduceEqDiff, Go.Addr.add, ↓reduceIte] at hx206_0)
   have qi206 : (1 < t199.length) = True := eq_true (by omega)
   (try rw [show ((1 : Int)).toNat = 1 from rfl] at hx206_0)
   replace p206 := eq_true p206
   replace q206 := eq_true q206
   refine start_ (n := 10) (S := fun w' => w'.cell? ad202 = some (.string (rdOf ByteArray.empty t199 0)) ∧ w'.cell? ⟨ad202.block, ad202.off + 1, none⟩ = some (.string (rdOf ByteArray.empty t199 1))) (ds := []) #[f_,f_,f_,f_,f_,f_,f_,f_,f_,f_] (by kernel_rfl) rfl rfl ⟨hx202_0, hx206_0⟩ (fun hHeld => ?_); refine with_tabW impl_ReadArea.tab7 impl_ReadArea.bits7 (fun HT_ HW_ => ?_)
   generalize w15.drew = w17 at HO197 HO201 BK194 HB hx202_0 hx206_0 hHeld ⊢
   refine pu_ 0 29 #[t_,f_,f_,f_,f_,f_,f_,f_,f_,f_] HT_.out ?_
   refine pu_ 1 30 #[t_,t_,f_,f_,f_,f_,f_,f_,f_,f_] HT_.out ?_
   refine pu_ 4 33 #[t_,t_,f_,f_,t_,f_,f_,f_,f_,f_] HT_.out ?_
   refine pu_ 5 34 #[t_,t_,f_,f_,t_,t_,f_,f_,f_,f_] HT_.out ?_
   refine take_ (i := 2) (N := some 31) (v := ?_) (a' := ?_) #[t_,t_,t_,f_,t_,t_,f_,f_,f_,f_] rfl rfl (take_ofW HT_.out HW_.out (by kernel_rfl)) (fun _ _ _ h => h) (Or.inl ⟨by rfl, ?_⟩) hHeld ?_ ?_
   rotate_left
   ·rintro w' ⟨s0, s1⟩
    go_simp
    with_reducible rfl
   rotate_left
   ·simp only [pz_]
    rfl
   refine take_ (i := 6) (N := some 35) (v := ?_) (a' := ?_) #[t_,t_,t_,f_,t_,t_,t_,f_,f_,f_] rfl rfl (take_ofW HT_.out HW_.out (by kernel_rfl)) (fun _ _ _ h => h) (Or.inl ⟨by rfl, ?_⟩) hHeld ?_ ?_
   rotate_left
   ·rintro w' ⟨s0, s1⟩
    go_simp
    with_reducible rfl
   rotate_left
   ·simp only [pz_]
    rfl
   refine one_ (i := 3) (N := some 32) #[t_,t_,t_,t_,t_,t_,t_,f_,f_,f_] rfl rfl (one_of HT_.out (by kernel_rfl)) (by decide) (fun K hK => ?_)
   refine goes_ Try.func161 (by kernel_rfl) rfl #[.string (rdOf ByteArray.empty t199 0), .int .u8 44] (by rfl) rfl rfl ag_ ?_
   with_reducible refine (impl_splitAt.calls k (rdOf ByteArray.empty t199 0) 44 t203 _ A8.out).mono ?_
   rintro e w18 ⟨v204, rfl, ho0, hb⟩
   have HS0_ := (hb.cell (World.block_lt_of_cell? _ _ (hHeld.1))).trans (hHeld.1)
   have HS1_ := (hb.cell (World.block_lt_of_cell? _ _ (hHeld.2))).trans (hHeld.2)
   refine ⟨_, rfl, ?_⟩
   have HO205 := Aside0.mk (Kd.R_lower (Kd.R_new' (Kd.R_new' ho0 (Kd.R_lt (rk_ HO197.out))) (Kd.R_lt (rk_ HO201.out))) (below_size (r1_ HB.out GE194.out)))
   replace HO197 := Aside0.mk (Kd.R_elder' (rk_ HO197.out) (Kd.R_base ho0) hb)
   replace HO201 := Aside0.mk (Kd.R_elder' (rk_ HO201.out) (Kd.R_base ho0) hb)
   replace BK194 := Aside0.mk (blk_below (g := gb194) (o := .cells #[.int .i64 0, .int .i64 0, .int .i64 0, .int .i64 0, .int .i64 0] 83 (0, 0)) (r0_ BK194.out) hb)
   replace HB := Aside0.mk (below_step (r1_ HB.out GE194.out) hb)
   (try clear hb)
   (try clear hb2)
   (try clear hk)
   (try clear hi)
   (try clear ho0)
   refine hK.out _ _ ⟨HS0_, HS1_⟩ (fun hHeld => ?_)
   clear hK K
   refine norm_ (a' := ?_) ?_ ?_
   rotate_left
   ·show Act.put _ (some 32) _ = _
    simp only [pz_]
    rfl
   refine one_ (i := 7) (N := some 36) #[t_,t_,t_,t_,t_,t_,t_,t_,f_,f_] rfl rfl (one_of HT_.out (by kernel_rfl)) (by decide) (fun K hK => ?_)
   refine goes_ Try.func161 (by kernel_rfl) rfl #[.string (rdOf ByteArray.empty t199 1), .int .u8 42] (by rfl) rfl rfl ag_ ?_
   with_reducible refine (impl_splitAt.calls k (rdOf ByteArray.empty t199 1) 42 t207 _ A10.out).mono ?_
   rintro e w19 ⟨v208, rfl, ho0, hb⟩
   have HS0_ := (hb.cell (World.block_lt_of_cell? _ _ (hHeld.1))).trans (hHeld.1)
   have HS1_ := (hb.cell (World.block_lt_of_cell? _ _ (hHeld.2))).trans (hHeld.2)
   refine ⟨_, rfl, ?_⟩
   have HO209 := Aside0.mk (Kd.R_lower (Kd.R_new' (Kd.R_new' (Kd.R_new' ho0 (Kd.R_lt (rk_ HO197.out))) (Kd.R_lt (rk_ HO201.out))) (Kd.R_lt (rk_ HO205.out))) (below_size (r1_ HB.out GE194.out)))
   replace HO197 := Aside0.mk (Kd.R_elder' (rk_ HO197.out) (Kd.R_base ho0) hb)
   replace HO201 := Aside0.mk (Kd.R_elder' (rk_ HO201.out) (Kd.R_base ho0) hb)
   replace HO205 := Aside0.mk (Kd.R_elder' (rk_ HO205.out) (Kd.R_base ho0) hb)
   replace BK194 := Aside0.mk (blk_below (g := gb194) (o := .cells #[.int .i64 0, .int .i64 0, .int .i64 0, .int .i64 0, .int .i64 0] 83 (0, 0)) (r0_ BK194.out) hb)
   replace HB := Aside0.mk (below_step (r1_ HB.out GE194.out) hb)
   (try clear hb)
   (try clear hb2)
   (try clear hk)
   (try clear hi)
   (try clear ho0)
   refine hK.out _ _ ⟨HS0_, HS1_⟩ (fun hHeld => ?_)
   clear hK K
   refine norm_ (a' := ?_) ?_ ?_
   rotate_left
   ·show Act.put _ (some 36) _ = _
    simp only [pz_]
    rfl
   refine pu_ 8 6 #[t_,t_,t_,t_,t_,t_,t_,t_,t_,f_] HT_.out ?_
   refine pu_ 9 7 #[t_,t_,t_,t_,t_,t_,t_,t_,t_,t_] HT_.out ?_
   refine done_ (done_of HT_.out (by kernel_rfl)) ?_
   go_upto_region 8 with (fail)
   go_cut [44] (fun v44 wc => ∃ (kq : Nat) (x44_10 : Bool), v44 = .bool x44_10 ∧ Aside0 (impl_ReadArea.j0 kq t195 t203 t207 x44_10 = some (r1, r2, r3, r4, r5, r6)) ∧ Aside0 (kq ≤ k) ∧ Aside0 (Kd.R Kd.string 9 wc w.heap.size (fun k_ => some k_ ≠ (v204 : Value).ownBlock ∧ some k_ ≠ (v208 : Value).ownBlock) (.slice (some ad198) t195.length co14) t195) ∧ Aside0 (Kd.R Kd.string 9 wc w.heap.size (fun k_ => some k_ ≠ ((.slice (some ad198) t195.length co14) : Value).ownBlock ∧ some k_ ≠ (v208 : Value).ownBlock) v204 t203) ∧ Aside0 (Kd.R Kd.string 9 wc w.heap.size (fun k_ => some k_ ≠ ((.slice (some ad198) t195.length co14) : Value).ownBlock ∧ some k_ ≠ (v204 : Value).ownBlock) v208 t207) ∧ Aside0 (wc.heap[gb194]? = some (.cells #[.int .i64 0, .int .i64 0, .int .i64 0, .int .i64 0, .int .i64 0] 83 (0, 0))) ∧ Aside0 (Below w.heap.size w wc))
   case first =>
    have H := HC11.out
    clear HC11
    by_cases c20 : (t203.length : Int) = 2
    ·rw [if_pos c20] at H
     have c20b0 : ((t203.length : Int) == 2) = true := beq_iff_eq.mpr c20
     have c20b1 : ((t203.length : Int) != 2) = false := bne_eq_false_iff_eq.mpr c20
     clear c20
     (first | rw [c20b0] | (simp only [i64_w, i32_w]; rw [c20b0]) | skip)
     have H' := Aside0.mk H
     clear H
     obtain ⟨Ao21, co21, eo21⟩ := Kd.R_slice HO205.out
     subst eo21
     obtain ⟨Ao22, co22, eo22⟩ := Kd.R_slice HO209.out
     subst eo22
     go_wp2
     go_meet
     case rel => exact ⟨_, (((t207.length : Int) != 2)), (by first | rfl | (simp; done) | (simp [*]; done)), H', ⟨by first | omega | exact Nat.le_refl _⟩, ⟨rk_ (Kd.R_mono HO197.out (fun _ hk => ⟨hk.1.2, hk.2⟩))⟩, ⟨rk_ (Kd.R_mono HO205.out (fun _ hk => ⟨hk.1.1.2, hk.2⟩))⟩, ⟨rk_ (Kd.R_mono HO209.out (fun _ hk => ⟨hk.1.1.2, hk.2⟩))⟩, ⟨r0_ BK194.out⟩, ⟨r1_ HB.out GE194.out⟩⟩
    ·rw [if_neg c20] at H
     have c20b0 : ((t203.length : Int) == 2) = false := beq_eq_false_iff_ne.mpr c20
     have c20b1 : ((t203.length : Int) != 2) = true := bne_iff_ne.mpr c20
     (first | rw [c20b0] | (simp only [i64_w, i32_w]; rw [c20b0]) | skip)
     have H' := Aside0.mk H
     clear H
     obtain ⟨Ao23, co23, eo23⟩ := Kd.R_slice HO205.out
     subst eo23
     go_wp2
     go_meet
     case rel => exact ⟨_, (true), (by first | rfl | (simp; done) | (simp [*]; done)), H', ⟨by first | omega | exact Nat.le_refl _⟩, ⟨rk_ (Kd.R_mono HO197.out (fun _ hk => ⟨hk.1.2, hk.2⟩))⟩, ⟨rk_ (Kd.R_mono HO205.out (fun _ hk => ⟨hk.1.1.2, hk.2⟩))⟩, ⟨rk_ (Kd.R_mono HO209.out (fun _ hk => ⟨hk.1.1.2, hk.2⟩))⟩, ⟨r0_ BK194.out⟩, ⟨r1_ HB.out GE194.out⟩⟩
   case rest =>
    clear HC11
    try clear c1
    try clear p1
    try clear q1
    try clear hx1
    try clear qi1
    try clear c2
    try clear p2
    try clear q2
    try clear hx2
    try clear qi2
    try clear c3
    try clear c3b0
    try clear c3b1
    try clear c4
    try clear c4b0
    try clear c4b1
    try clear c6
    try clear c6b0
    try clear c6b1
    try clear c7
    try clear c7b0
    try clear c7b1
    try clear c9
    try clear c9b0
    try clear c9b1
    try clear c16
    try clear p19
    try clear q19
    try clear hx19
    try clear qi19
    try clear c20
    try clear c20b0
    try clear c20b1
    try clear p20
    try clear q20
    try clear hx20
    try clear qi20
    try clear hx198_0
    try clear hx202_0
    try clear hx206_0
    try clear p198
    try clear p202
    try clear p206
    try clear q198
    try clear q202
    try clear q206
    obtain ⟨kq, x44_10, rfl, HA, HJ10, HO_4, HO_6, HO_7, BK194, HB⟩ := hcut
    cases kq with
    | zero => exact absurd HA.out (by simp [impl_ReadArea.j0])
    | succ kj10 =>
     have H := HA.out
     clear HA
     simp only [impl_ReadArea.j0] at H
     by_cases c24 : x44_10 = true
     ·subst c24
      replace H : (some (0, 0, 0, 0, 0, 6)) = some (r1, r2, r3, r4, r5, r6) := by rw [if_pos rfl] at H; exact H
      simp only [Option.some.injEq, Prod.mk.injEq] at H
      obtain ⟨rfl, rfl, rfl, rfl, rfl, rfl⟩ := H
      have hcz25_0 : wc.cell? ⟨gb194, 0, none⟩ = some (.int .i64 0) := (blk_cell BK194.out 0).trans rfl
      have hcz25_1 : wc.cell? ⟨gb194, 1, none⟩ = some (.int .i64 0) := (blk_cell BK194.out 1).trans rfl
      have hcz25_2 : wc.cell? ⟨gb194, 2, none⟩ = some (.int .i64 0) := (blk_cell BK194.out 2).trans rfl
      have hcz25_3 : wc.cell? ⟨gb194, 3, none⟩ = some (.int .i64 0) := (blk_cell BK194.out 3).trans rfl
      have hcz25_4 : wc.cell? ⟨gb194, 4, none⟩ = some (.int .i64 0) := (blk_cell BK194.out 4).trans rfl
      have hfz25_0 := blk_frozen BK194.out 0
      have hfz25_1 := blk_frozen BK194.out 1
      have hfz25_2 := blk_frozen BK194.out 2
      have hfz25_3 := blk_frozen BK194.out 3
      have hfz25_4 := blk_frozen BK194.out 4
      go_wp2
      refine bodyPost_ret (results_ct rfl _ _ gb194 83 #[.int .i64 0, .int .i64 0, .int .i64 0, .int .i64 0, .int .i64 0] (0, 0) _ rfl (r12_ BK194.out) Try.underlying83 rfl (by kernel_rfl)) rfl ?_
      exact ⟨by first | rfl | (simp [errW_none, errW_some] <;> rfl) | (simp [*, errW_none, errW_some] <;> rfl), r1_ HB.out GE194.out⟩
     ·replace c24 := Bool.eq_false_iff.mpr c24
      subst c24
      replace H : (if 0 < (t203.length : Int) then (if 1 < (t203.length : Int) then (if 0 < (t207.length : Int) then (if 1 < (t207.length : Int) then ((some (([rdOf ByteArray.empty t203 0, rdOf ByteArray.empty t203 1, rdOf ByteArray.empty t207 0, rdOf ByteArray.empty t207 1] : List ByteArray) : List ByteArray)).bind fun y217 => (impl_ReadArea.l0 kj10 t195 (([0, 0, 0, 0] : List Int)) y217 (y217.length : Int) 0)) else (none)) else (none)) else (none)) else (none)) = some (r1, r2, r3, r4, r5, r6) := by rw [if_neg (show ¬ (false = true) by decide)] at H; exact H
      obtain ⟨y210, hy210⟩ : ∃ y_ : List Int, y_ = (([0, 0, 0, 0] : List Int)) := ⟨_, rfl⟩
      replace H : (if 0 < (t203.length : Int) then (if 1 < (t203.length : Int) then (if 0 < (t207.length : Int) then (if 1 < (t207.length : Int) then ((some (([rdOf ByteArray.empty t203 0, rdOf ByteArray.empty t203 1, rdOf ByteArray.empty t207 0, rdOf ByteArray.empty t207 1] : List ByteArray) : List ByteArray)).bind fun y217 => (impl_ReadArea.l0 kj10 t195 y210 y217 (y217.length : Int) 0)) else (none)) else (none)) else (none)) else (none)) = some (r1, r2, r3, r4, r5, r6) := by first | (rw [hy210]; with_reducible exact H) | (have H2_ := (Option.bind_some _ _).symm.trans H; rw [hy210]; with_reducible exact H2_) | (have H2_ := (Option.bind_some _ _).symm.trans H; with_reducible exact H2_) | with_reducible exact H | (rw [hy210]; exact H) | exact H
      have Ny210 := Aside0.mk hy210
      clear hy210
      by_cases c26 : 0 < (t203.length : Int)
      case neg =>
       rw [if_neg c26] at H
       exact absurd H (by simp)
      rw [if_pos c26] at H
      have c26b0 : decide (0 < (t203.length : Int)) = true := decide_eq_true c26
      have c26b1 : decide (0 < t203.length) = true := decide_eq_true (by omega)
      clear c26
      by_cases c27 : 1 < (t203.length : Int)
      case neg =>
       rw [if_neg c27] at H
       exact absurd H (by simp)
      rw [if_pos c27] at H
      have c27b0 : decide (1 < (t203.length : Int)) = true := decide_eq_true c27
      have c27b1 : decide (1 < t203.length) = true := decide_eq_true (by omega)
      clear c27
      by_cases c28 : 0 < (t207.length : Int)
      case neg =>
       rw [if_neg c28] at H
       exact absurd H (by simp)
      rw [if_pos c28] at H
      have c28b0 : decide (0 < (t207.length : Int)) = true := decide_eq_true c28
      have c28b1 : decide (0 < t207.length) = true := decide_eq_true (by omega)
      clear c28
      by_cases c29 : 1 < (t207.length : Int)
      case neg =>
       rw [if_neg c29] at H
       exact absurd H (by simp)
      rw [if_pos c29] at H
      have c29b0 : decide (1 < (t207.length : Int)) = true := decide_eq_true c29
      have c29b1 : decide (1 < t207.length) = true := decide_eq_true (by omega)
      clear c29
      obtain ⟨y217, hy217⟩ : ∃ y_ : List ByteArray, y_ = (([rdOf ByteArray.empty t203 0, rdOf ByteArray.empty t203 1, rdOf ByteArray.empty t207 0, rdOf ByteArray.empty t207 1] : List ByteArray)) := ⟨_, rfl⟩
      replace H : (impl_ReadArea.l0 kj10 t195 y210 y217 (y217.length : Int) 0) = some (r1, r2, r3, r4, r5, r6) := by first | (rw [hy217]; with_reducible exact H) | (have H2_ := (Option.bind_some _ _).symm.trans H; rw [hy217]; with_reducible exact H2_) | (have H2_ := (Option.bind_some _ _).symm.trans H; with_reducible exact H2_) | with_reducible exact H | (rw [hy217]; exact H) | exact H
      have Ny217 := Aside0.mk hy217
      clear hy217
      have H' := Aside0.mk H
      clear H
      try go_wp2_with (first | ((with_reducible refine gate_dst (N := 8) rfl ?_); (try (refine gate_guard (by rfl) ?_; dsimp only)); refine R_arr_ (Kd.int .i64) _ 185 ?hg (N := 8) ?hd (xs := ([0, 0, 0, 0] : List Int)) (inner := [.int .i64 0, .int .i64 0, .int .i64 0, .int .i64 0]) (ok := fun _ => True) (okp := fun _ => True) ?hr ?hp (fun _ hk => hk) trivial (Below.refl _ _) (Nat.le_refl _) (by simp) ?_; (case hd => rfl); (case hg => rfl); (case hr => first | (go_simp; done) | (go_simp; rfl)); (case hp => exact (Reps.one (show Kd.M (Kd.int .i64) _ _ _ 0 [.int .i64 0] from rfl) (Reps.one (show Kd.M (Kd.int .i64) _ _ _ 0 [.int .i64 0] from rfl) (Reps.one (show Kd.M (Kd.int .i64) _ _ _ 0 [.int .i64 0] from rfl) (Reps.one (show Kd.M (Kd.int .i64) _ _ _ 0 [.int .i64 0] from rfl) (Reps.none _ _)))))); intro g211 w30 ho31 hb; simp only [List.length_cons, List.length_nil, Nat.zero_add, Nat.reduceAdd] at ho31; (first | rw [← Ny210.out] at ho31 | (simp only [Int.reduceToNat] at ho31; rw [← Ny210.out] at ho31)); replace HO_4 := Aside0.mk (Kd.R_below (rk_ HO_4.out) hb); replace HO_6 := Aside0.mk (Kd.R_below (rk_ HO_6.out) hb); replace HO_7 := Aside0.mk (Kd.R_below (rk_ HO_7.out) hb); have HO212 := Aside0.mk (Kd.R_lower ho31 (below_size (r1_ HB.out GE194.out))); replace BK194 := Aside0.mk (blk_below (g := gb194) (o := .cells #[.int .i64 0, .int .i64 0, .int .i64 0, .int .i64 0, .int .i64 0] 83 (0, 0)) (r0_ BK194.out) hb); replace HB := Aside0.mk (below_step (r1_ HB.out GE194.out) hb); clear hb ho31))
      replace HO_4 := Aside0.mk (Kd.R_drew HO_4.out)
      replace HO_6 := Aside0.mk (Kd.R_drew HO_6.out)
      replace HO_7 := Aside0.mk (Kd.R_drew HO_7.out)
      replace HO212 := Aside0.mk (Kd.R_drew HO212.out)
      replace BK194 := Aside0.mk (blk_drew BK194.out)
      replace HB := Aside0.mk (below_drew1 HB.out)
      obtain ⟨Ao33, co33, eo33⟩ := Kd.R_slice HO_6.out
      (first | subst eo33 | (injection eo33 with f1_ f2_ f3_; have f4_ := f1_.symm; have f5_ := f3_.symm; clear f1_ f2_ f3_; subst f4_; subst f5_))
      have p213 : 0 ≤ (0 : Int) := (by omega)
      have q213 : 0 < (t203.length : Int) := od_
      obtain ⟨ad213, e213, hx213_0⟩ := Kd.at_string (Kd.R_reads' HO_6.out).2.2 0 p213 q213
      cases e213
      have qi213 : (0 < t203.length) = True := eq_true (by omega)
      (try rw [show ((0 : Int)).toNat = 0 from rfl] at hx213_0)
      (try rw [Addr.add_zero'] at hx213_0)
      replace p213 := eq_true p213
      replace q213 := eq_true q213
      have p214 : 0 ≤ (1 : Int) := (by omega)
      have q214 : 1 < (t203.length : Int) := od_
      obtain ⟨ad214, e214, hx214_0⟩ := Kd.at_string (Kd.R_reads' HO_6.out).2.2 1 p214 q214
      obtain rfl : ad213 = ad214 := (by injection e214)
      (try simp only [show (1 : Int).toNat = 1 from rfl, Nat.reduceMul, Nat.reduceEqDiff, Go.Addr.add, ↓reduceIte] at hx214_0)
      have qi214 : (1 < t203.length) = True := eq_true (by omega)
      (try rw [show ((1 : Int)).toNat = 1 from rfl] at hx214_0)
      replace p214 := eq_true p214
      replace q214 := eq_true q214
      obtain ⟨Ao34, co34, eo34⟩ := Kd.R_slice HO_7.out
      (first | subst eo34 | (injection eo34 with f1_ f2_ f3_; have f4_ := f1_.symm; have f5_ := f3_.symm; clear f1_ f2_ f3_; subst f4_; subst f5_))
      have p215 : 0 ≤ (0 : Int) := (by omega)
      have q215 : 0 < (t207.length : Int) := od_
      obtain ⟨ad215, e215, hx215_0⟩ := Kd.at_string (Kd.R_reads' HO_7.out).2.2 0 p215 q215
      cases e215
      have qi215 : (0 < t207.length) = True := eq_true (by omega)
      (try rw [show ((0 : Int)).toNat = 0 from rfl] at hx215_0)
      (try rw [Addr.add_zero'] at hx215_0)
      replace p215 := eq_true p215
      replace q215 := eq_true q215
      have p216 : 0 ≤ (1 : Int) := (by omega)
      have q216 : 1 < (t207.length : Int) := od_
      obtain ⟨ad216, e216, hx216_0⟩ := Kd.at_string (Kd.R_reads' HO_7.out).2.2 1 p216 q216
      obtain rfl : ad215 = ad216 := (by injection e216)
      (try simp only [show (1 : Int).toNat = 1 from rfl, Nat.reduceMul, Nat.reduceEqDiff, Go.Addr.add, ↓reduceIte] at hx216_0)
      have qi216 : (1 < t207.length) = True := eq_true (by omega)
      (try rw [show ((1 : Int)).toNat = 1 from rfl] at hx216_0)
      replace p216 := eq_true p216
      replace q216 := eq_true q216
      refine start_ (n := 15) (S := fun w' => w'.cell? ad213 = some (.string (rdOf ByteArray.empty t203 0)) ∧ w'.cell? ⟨ad213.block, ad213.off + 1, none⟩ = some (.string (rdOf ByteArray.empty t203 1)) ∧ w'.cell? ad215 = some (.string (rdOf ByteArray.empty t207 0)) ∧ w'.cell? ⟨ad215.block, ad215.off + 1, none⟩ = some (.string (rdOf ByteArray.empty t207 1))) (ds := []) #[f_,f_,f_,f_,f_,f_,f_,f_,f_,f_,f_,f_,f_,f_,f_] (by kernel_rfl) rfl rfl ⟨hx213_0, hx214_0, hx215_0, hx216_0⟩ (fun hHeld => ?_); refine with_tabW impl_ReadArea.tab11 impl_ReadArea.bits11 (fun HT_ HW_ => ?_)
      generalize w30.drew = w32 at HO_4 HO_6 HO_7 HO212 BK194 HB hx213_0 hx214_0 hx215_0 hx216_0 hHeld ⊢
      refine pu_ 0 46 #[t_,f_,f_,f_,f_,f_,f_,f_,f_,f_,f_,f_,f_,f_,f_] HT_.out ?_
      refine pu_ 1 47 #[t_,t_,f_,f_,f_,f_,f_,f_,f_,f_,f_,f_,f_,f_,f_] HT_.out ?_
      refine pu_ 3 49 #[t_,t_,f_,t_,f_,f_,f_,f_,f_,f_,f_,f_,f_,f_,f_] HT_.out ?_
      refine pu_ 4 50 #[t_,t_,f_,t_,t_,f_,f_,f_,f_,f_,f_,f_,f_,f_,f_] HT_.out ?_
      refine pu_ 6 52 #[t_,t_,f_,t_,t_,f_,t_,f_,f_,f_,f_,f_,f_,f_,f_] HT_.out ?_
      refine pu_ 7 53 #[t_,t_,f_,t_,t_,f_,t_,t_,f_,f_,f_,f_,f_,f_,f_] HT_.out ?_
      refine pu_ 9 55 #[t_,t_,f_,t_,t_,f_,t_,t_,f_,t_,f_,f_,f_,f_,f_] HT_.out ?_
      refine pu_ 10 56 #[t_,t_,f_,t_,t_,f_,t_,t_,f_,t_,t_,f_,f_,f_,f_] HT_.out ?_
      refine pu_ 14 60 #[t_,t_,f_,t_,t_,f_,t_,t_,f_,t_,t_,f_,f_,f_,t_] HT_.out ?_
      refine take_ (i := 2) (N := some 48) (v := ?_) (a' := ?_) #[t_,t_,t_,t_,t_,f_,t_,t_,f_,t_,t_,f_,f_,f_,t_] rfl rfl (take_ofW HT_.out HW_.out (by kernel_rfl)) (fun _ _ _ h => h) (Or.inl ⟨by rfl, ?_⟩) hHeld ?_ ?_
      rotate_left
      ·rintro w' ⟨s0, s1, s2, s3⟩
       go_simp
       with_reducible rfl
      rotate_left
      ·simp only [pz_]
       rfl
      refine take_ (i := 5) (N := some 51) (v := ?_) (a' := ?_) #[t_,t_,t_,t_,t_,t_,t_,t_,f_,t_,t_,f_,f_,f_,t_] rfl rfl (take_ofW HT_.out HW_.out (by kernel_rfl)) (fun _ _ _ h => h) (Or.inl ⟨by rfl, ?_⟩) hHeld ?_ ?_
      rotate_left
      ·rintro w' ⟨s0, s1, s2, s3⟩
       go_simp
       with_reducible rfl
      rotate_left
      ·simp only [pz_]
       rfl
      refine take_ (i := 8) (N := some 54) (v := ?_) (a' := ?_) #[t_,t_,t_,t_,t_,t_,t_,t_,t_,t_,t_,f_,f_,f_,t_] rfl rfl (take_ofW HT_.out HW_.out (by kernel_rfl)) (fun _ _ _ h => h) (Or.inl ⟨by rfl, ?_⟩) hHeld ?_ ?_
      rotate_left
      ·rintro w' ⟨s0, s1, s2, s3⟩
       go_simp
       with_reducible rfl
      rotate_left
      ·simp only [pz_]
       rfl
      refine take_ (i := 11) (N := some 57) (v := ?_) (a' := ?_) #[t_,t_,t_,t_,t_,t_,t_,t_,t_,t_,t_,t_,f_,f_,t_] rfl rfl (take_ofW HT_.out HW_.out (by kernel_rfl)) (fun _ _ _ h => h) (Or.inl ⟨by rfl, ?_⟩) hHeld ?_ ?_
      rotate_left
      ·rintro w' ⟨s0, s1, s2, s3⟩
       go_simp
       with_reducible rfl
      rotate_left
      ·simp only [pz_]
       rfl
      refine one_ (i := 12) (N := some 58) #[t_,t_,t_,t_,t_,t_,t_,t_,t_,t_,t_,t_,t_,f_,t_] rfl rfl (one_of HT_.out (by kernel_rfl)) (by decide) (fun K hK => ?_)
      refine Kd.R_lit_step Kd.string _ 9 ?hg (N := 58) ?hd (xs := ([rdOf ByteArray.empty t203 0, rdOf ByteArray.empty t203 1, rdOf ByteArray.empty t207 0, rdOf ByteArray.empty t207 1] : List ByteArray)) (inner := [.string (rdOf ByteArray.empty t203 0), .string (rdOf ByteArray.empty t203 1), .string (rdOf ByteArray.empty t207 0), .string (rdOf ByteArray.empty t207 1)]) (ok := fun _ => True) (okp := fun _ => True) ?hr ?hp (fun _ hk => hk) trivial (Below.refl _ _) (Nat.le_refl _) (by simp) ?_; (case hd => rfl); (case hg => rfl); (case hr => first | (go_simp; done) | (go_simp; rfl)); (case hp => exact (Reps.one (show Kd.M Kd.string _ _ _ (rdOf ByteArray.empty t203 0) [.string (rdOf ByteArray.empty t203 0)] from rfl) (Reps.one (show Kd.M Kd.string _ _ _ (rdOf ByteArray.empty t203 1) [.string (rdOf ByteArray.empty t203 1)] from rfl) (Reps.one (show Kd.M Kd.string _ _ _ (rdOf ByteArray.empty t207 0) [.string (rdOf ByteArray.empty t207 0)] from rfl) (Reps.one (show Kd.M Kd.string _ _ _ (rdOf ByteArray.empty t207 1) [.string (rdOf ByteArray.empty t207 1)] from rfl) (Reps.none _ _))))))
      intro v218 w35 ho36 hb hg_ hnew_
      have HS0_ := (hb.cell (World.block_lt_of_cell? _ _ (hHeld.1))).trans (hHeld.1)
      have HS1_ := (hb.cell (World.block_lt_of_cell? _ _ (hHeld.2.1))).trans (hHeld.2.1)
      have HS2_ := (hb.cell (World.block_lt_of_cell? _ _ (hHeld.2.2.1))).trans (hHeld.2.2.1)
      have HS3_ := (hb.cell (World.block_lt_of_cell? _ _ (hHeld.2.2.2))).trans (hHeld.2.2.2)
      clear hg_ hnew_
      (first | rw [← Ny217.out] at ho36 | (simp only [Int.reduceToNat] at ho36; rw [← Ny217.out] at ho36))
      replace HO212 := Aside0.mk (Kd.R_below (rk_ HO212.out) hb)
      have HO219 := Aside0.mk (Kd.R_lower (Kd.R_new' (Kd.R_new' (Kd.R_new' ho36 (Kd.R_lt (rk_ HO_4.out))) (Kd.R_lt (rk_ HO_6.out))) (Kd.R_lt (rk_ HO_7.out))) (below_size (r1_ HB.out GE194.out)))
      replace HO_4 := Aside0.mk (Kd.R_elder' (rk_ HO_4.out) (Kd.R_base ho36) hb)
      replace HO_6 := Aside0.mk (Kd.R_elder' (rk_ HO_6.out) (Kd.R_base ho36) hb)
      replace HO_7 := Aside0.mk (Kd.R_elder' (rk_ HO_7.out) (Kd.R_base ho36) hb)
      replace BK194 := Aside0.mk (blk_below (g := gb194) (o := .cells #[.int .i64 0, .int .i64 0, .int .i64 0, .int .i64 0, .int .i64 0] 83 (0, 0)) (r0_ BK194.out) hb)
      replace HB := Aside0.mk (below_step (r1_ HB.out GE194.out) hb)
      clear hb ho36
      obtain ⟨Ao37, co37, eo37⟩ := Kd.R_slice HO219.out
      (first | subst eo37 | (injection eo37 with f1_ f2_ f3_; have f4_ := f1_.symm; have f5_ := f3_.symm; clear f1_ f2_ f3_; subst f4_; subst f5_))
      refine hK.out _ _ ⟨HS0_, HS1_, HS2_, HS3_⟩ (fun hHeld => ?_)
      clear hK K
      refine norm_ (a' := ?_) ?_ ?_
      rotate_left
      ·show Act.put _ (some 58) _ = _
       simp only [pz_]
       rfl
      refine pu_ 13 59 #[t_,t_,t_,t_,t_,t_,t_,t_,t_,t_,t_,t_,t_,t_,t_] HT_.out ?_
      refine done_ (done_of HT_.out (by kernel_rfl)) ?_
      try go_wp2
      go_loopg [60] kj10 (fun kq v60 w' => ∃ (x8_2 : List Int) (x60_2 : Int) (x195000_2 : Int) (x195001_2 : Int) (x195002_2 : Int) (x195003_2 : Int) (x195004_2 : Int), v60 = .int .i64 x60_2 ∧ Aside0 (impl_ReadArea.l0 kq t195 x8_2 y217 (y217.length : Int) x60_2 = some (r1, r2, r3, r4, r5, r6)) ∧ Aside0 (kq ≤ kj10) ∧ Aside0 (Kd.R Kd.string 9 w' w.heap.size (fun k_ => some k_ ≠ ((.slice Ao37 y217.length co37) : Value).ownBlock) (.slice (some ad198) t195.length co14) t195) ∧ Aside0 (Kd.R (Kd.int .i64) 185 w' w.heap.size (fun _ => True) (.slice (some ⟨g211, 0, none⟩) 4 4 : Value) x8_2) ∧ Aside0 (Kd.R Kd.string 9 w' w.heap.size (fun k_ => some k_ ≠ ((.slice (some ad198) t195.length co14) : Value).ownBlock) (.slice Ao37 y217.length co37) y217) ∧ Aside0 (w'.heap[gb194]? = some (.cells #[.int .i64 x195000_2, .int .i64 x195001_2, .int .i64 x195002_2, .int .i64 x195003_2, .int .i64 x195004_2] 83 (0, 0))) ∧ Aside0 (Below w.heap.size w w'))
      case atStart => exact ⟨(y210), (0), (0), (0), (0), (0), (0), (by first | rfl | (simp; done) | (simp [*]; done)), H', ⟨Nat.le_refl _⟩, ⟨rk_ (Kd.R_mono HO_4.out (fun _ hk => hk.2))⟩, ⟨rk_ HO212.out⟩, ⟨rk_ (Kd.R_mono HO219.out (fun _ hk => hk.1.1.2))⟩, ⟨r0_ BK194.out⟩, ⟨r1_ HB.out GE194.out⟩⟩
      case round =>
       clear H'
       try clear c1
       try clear p1
       try clear q1
       try clear hx1
       try clear qi1
       try clear c2
       try clear p2
       try clear q2
       try clear hx2
       try clear qi2
       try clear c3
       try clear c3b0
       try clear c3b1
       try clear c4
       try clear c4b0
       try clear c4b1
       try clear c6
       try clear c6b0
       try clear c6b1
       try clear c7
       try clear c7b0
       try clear c7b1
       try clear c9
       try clear c9b0
       try clear c9b1
       try clear c16
       try clear p19
       try clear q19
       try clear hx19
       try clear qi19
       try clear c20
       try clear c20b0
       try clear c20b1
       try clear p20
       try clear q20
       try clear hx20
       try clear qi20
       try clear p21
       try clear q21
       try clear hx21
       try clear qi21
       try clear c24
       try clear c26
       try clear c26b0
       try clear c26b1
       try clear c27
       try clear c27b0
       try clear c27b1
       try clear c28
       try clear c28b0
       try clear c28b1
       try clear c29
       try clear c29b0
       try clear c29b1
       try clear hcz25_0
       try clear hcz25_1
       try clear hcz25_2
       try clear hcz25_3
       try clear hcz25_4
       try clear hfz25_0
       try clear hfz25_1
       try clear hfz25_2
       try clear hfz25_3
       try clear hfz25_4
       try clear hx198_0
       try clear hx202_0
       try clear hx206_0
       try clear hx213_0
       try clear hx214_0
       try clear hx215_0
       try clear hx216_0
       try clear p1
       try clear p19
       try clear p198
       try clear p2
       try clear p20
       try clear p202
       try clear p206
       try clear p213
       try clear p214
       try clear p215
       try clear p216
       try clear q1
       try clear q19
       try clear q198
       try clear q2
       try clear q20
       try clear q202
       try clear q206
       try clear q213
       try clear q214
       try clear q215
       try clear q216
       obtain ⟨x8_2, x60_2, x195000_2, x195001_2, x195002_2, x195003_2, x195004_2, rfl, HA, HK2, HO_4, HO_8, HO_58, BK194, HB⟩ := hrel
       cases gk with
       | zero => exact absurd HA.out (by simp [impl_ReadArea.l0])
       | succ k2 =>
        have H := HA.out
        clear HA
        simp only [impl_ReadArea.l0] at H
        by_cases c38 : x60_2 < (y217.length : Int)
        ·rw [if_pos c38] at H
         have c38b0 : decide (x60_2 < (y217.length : Int)) = true := decide_eq_true c38
         clear c38
         by_cases c39 : 0 ≤ x60_2
         case neg =>
          rw [if_neg c39] at H
          exact absurd H (by simp)
         rw [if_pos c39] at H
         have c39b0 : decide (0 ≤ x60_2) = true := decide_eq_true c39
         clear c39
         by_cases c40 : x60_2 < (y217.length : Int)
         case neg =>
          rw [if_neg c40] at H
          exact absurd H (by simp)
         rw [if_pos c40] at H
         have c40b0 : decide (x60_2 < (y217.length : Int)) = true := decide_eq_true c40
         clear c40
         replace H := Option.bind_eq_some_iff.mp H
         obtain ⟨⟨t221, t222⟩, A410, H⟩ := H
         replace H : (if t222 = true then (if x60_2 < (x8_2.length : Int) then (impl_ReadArea.l0 k2 t195 (x8_2.set (x60_2 : Int).toNat t221) y217 (y217.length : Int) (wrap64 (x60_2 + 1))) else (none)) else (some (0, 0, 0, 0, 0, 6))) = some (r1, r2, r3, r4, r5, r6) := H
         have A41 := Aside0.mk A410
         clear A410
         by_cases c42 : t222 = true
         ·subst c42
          replace H : (if x60_2 < (x8_2.length : Int) then (impl_ReadArea.l0 k2 t195 (x8_2.set (x60_2 : Int).toNat t221) y217 (y217.length : Int) (wrap64 (x60_2 + 1))) else (none)) = some (r1, r2, r3, r4, r5, r6) := by rw [if_pos rfl] at H; exact H
          by_cases c43 : x60_2 < (x8_2.length : Int)
          case neg =>
           rw [if_neg c43] at H
           exact absurd H (by simp)
          rw [if_pos c43] at H
          have c43b0 : decide (x60_2 < (x8_2.length : Int)) = true := decide_eq_true c43
          clear c43
          obtain ⟨y223, hy223⟩ : ∃ y_ : List Int, y_ = (x8_2.set (x60_2 : Int).toNat t221) := ⟨_, rfl⟩
          replace H : (impl_ReadArea.l0 k2 t195 y223 y217 (y217.length : Int) (wrap64 (x60_2 + 1))) = some (r1, r2, r3, r4, r5, r6) := by first | (rw [hy223]; with_reducible exact H) | (have H2_ := (Option.bind_some _ _).symm.trans H; rw [hy223]; with_reducible exact H2_) | (have H2_ := (Option.bind_some _ _).symm.trans H; with_reducible exact H2_) | with_reducible exact H | (rw [hy223]; exact H) | exact H
          have Ny223 := Aside0.mk hy223
          clear hy223
          have H' := Aside0.mk H
          clear H
          have p220 : 0 ≤ (x60_2 : Int) := od_
          have q220 : x60_2 < (y217.length : Int) := od_
          obtain ⟨ad220, e220, hx220_0⟩ := Kd.at_string (Kd.R_reads' HO_58.out).2.2 x60_2 p220 q220
          cases e220
          replace p220 := eq_true p220
          replace q220 := eq_true q220
          go_wp2_with (first | ((with_reducible refine gate_callee (f := 162) rfl ?_); refine goesL_ (some 67) rfl rfl Try.func162 (by kernel_rfl) rfl #[.string (rdOf ByteArray.empty y217 x60_2)] rfl ag_ ?_; (with_reducible refine (impl_readDecimal.calls k2 (rdOf ByteArray.empty y217 x60_2) t221 true _ A41.out).mono ?_); rintro e w' ⟨rfl, ⟨nd, rfl⟩⟩; refine ⟨_, rfl, ?_⟩; (try (rw [drewN_self wr]; generalize hq_ : World.drewN wr _ = wr; have n0_ : Aside0 (Kd.R Kd.string 9 wr w.heap.size (fun k_ => some k_ ≠ (.slice (some ad220) y217.length co37 : Value).ownBlock) (.slice (some ad198) t195.length co14) t195) := ⟨by rw [← hq_]; exact (rk_ HO_4.out)⟩; have n1_ : Aside0 (Kd.R Kd.string 9 wr w.heap.size (fun k_ => some k_ ≠ (.slice (some ad198) t195.length co14 : Value).ownBlock) (.slice (some ad220) y217.length co37) y217) := ⟨by rw [← hq_]; exact (rk_ HO_58.out)⟩; have n2_ : Aside0 (Kd.R (Kd.int .i64) 185 wr w.heap.size (fun _ => True) (.slice (some ⟨g211, 0, none⟩) 4 4 : Value) x8_2) := ⟨by rw [← hq_]; exact (rk_ HO_8.out)⟩; have n3_ : Aside0 (wr.heap[gb194]? = some (.cells #[.int .i64 x195000_2, .int .i64 x195001_2, .int .i64 x195002_2, .int .i64 x195003_2, .int .i64 x195004_2] 83 (0, 0))) := ⟨by rw [← hq_]; exact (r0_ BK194.out)⟩; have n4_ : Aside0 (Below w.heap.size w wr) := ⟨by rw [← hq_]; exact (r1_ HB.out GE194.out)⟩; clear HO_4 HO_58 HO_8 BK194 HB hq_; have HO_4 := n0_; have HO_58 := n1_; have HO_8 := n2_; have BK194 := n3_; have HB := n4_; clear n0_ n1_ n2_ n3_ n4_)); have p44 : 0 ≤ (x60_2 : Int) := od_; have h44_ : x60_2 < (x8_2.length : Int) := od_; have l44_ := (Kd.R_reads' HO_8.out).1; have q44 : (x60_2 : Int) < ((4 : Nat) : Int) := (by omega); have q44k := q44; have r44 : ((4 : Int) ≤ x60_2) = False := eq_false (by omega); have z44_ : 0 < x8_2.length := (by omega); clear l44_ h44_; obtain ⟨go44, co44, eo44, gb44, gl44, cl44, HG44⟩ := Kd.R_form HO_8.out z44_; (obtain rfl : g211 = go44 := by (injection eo44 with ea_ en_ ec_; injection ea_ with ea_; injection ea_)); clear eo44; have GB44 := Aside0.mk gb44; have GG44 := Aside0.mk HG44; clear gb44 gl44 HG44; obtain ⟨hx44_0, hf44_0⟩ := Kd.R_celln 0 HO_8.out (x60_2 : Int) p44 q44; replace p44 := eq_true p44; replace q44 := eq_true q44; obtain ⟨hy45_, hz45_⟩ := Kd.R_celln 0 HO_8.out (x60_2 : Int) od_ q44k; have HP45 := Kd.R_putg HO_8.out (x60_2 : Int) t221) | ((with_reducible refine gate_store (t := 2) (p := 75) rfl ?_); refine store_event (t := 2) (p := 75) (v := ?vo_w46) (w1 := (wr.setCell ⟨g211, (x60_2 : Int).toNat, none⟩ (.int .i64 t221))) ?hg ?ho ?hn ?hr ?_; (case ho => rfl); (case hg => rfl); (case hn => rfl); (case hr => first | (go_simp; done) | (go_simp; rfl)); intro w46 hw; have hg : wr.grownBy w46 (some g211) := (by rw [hw]; exact HP45.2); have hp_ : Kd.R (Kd.int .i64) 185 w46 w.heap.size (fun _ => True) (.slice (some ⟨g211, 0, none⟩) 4 4 : Value) y223 := (by rw [hw, Ny223.out]; exact HP45.1); clear HP45; replace HO_4 := Aside0.mk (Kd.R_over' (v := (.slice (some ⟨g211, 0, none⟩) 4 4 : Value)) (rk_ HO_4.out) (Kd.R_typed HO_8.out) (by decide) hg); replace HO_58 := Aside0.mk (Kd.R_over' (v := (.slice (some ⟨g211, 0, none⟩) 4 4 : Value)) (rk_ HO_58.out) (Kd.R_typed HO_8.out) (by decide) hg); replace BK194 := Aside0.mk (blk_grown (g := gb194) (o := .cells #[.int .i64 x195000_2, .int .i64 x195001_2, .int .i64 x195002_2, .int .i64 x195003_2, .int .i64 x195004_2] 83 (0, 0)) (r0_ BK194.out) hg (Kd.R_ne HO_8.out BK194.out (by decide))); replace HO_8 := Aside0.mk (hp_); replace HB := Aside0.mk ((by rw [hw]; exact below_set (HB.out) GB44.out : Below w.heap.size w w46)); clear hg hw hp_))
          go_roundg k2
          case measure => have := HJ10.out; have := HK2.out; omega
          case rel => exact ⟨(y223), (wrap64 (x60_2 + 1)), (x195000_2), (x195001_2), (x195002_2), (x195003_2), (x195004_2), (by first | rfl | (simp; done) | (simp [*]; done)), H', ⟨by have := HJ10.out; have := HK2.out; omega⟩, ⟨rk_ HO_4.out⟩, ⟨rk_ HO_8.out⟩, ⟨rk_ HO_58.out⟩, ⟨r0_ BK194.out⟩, ⟨r1_ HB.out GE194.out⟩⟩
         ·replace c42 := Bool.eq_false_iff.mpr c42
          subst c42
          replace H : (some (0, 0, 0, 0, 0, 6)) = some (r1, r2, r3, r4, r5, r6) := by rw [if_neg (show ¬ (false = true) by decide)] at H; exact H
          simp only [Option.some.injEq, Prod.mk.injEq] at H
          obtain ⟨rfl, rfl, rfl, rfl, rfl, rfl⟩ := H
          have p220 : 0 ≤ (x60_2 : Int) := od_
          have q220 : x60_2 < (y217.length : Int) := od_
          obtain ⟨ad220, e220, hx220_0⟩ := Kd.at_string (Kd.R_reads' HO_58.out).2.2 x60_2 p220 q220
          cases e220
          replace p220 := eq_true p220
          replace q220 := eq_true q220
          go_wp2_with (first | ((with_reducible refine gate_callee (f := 162) rfl ?_); refine goesL_ (some 67) rfl rfl Try.func162 (by kernel_rfl) rfl #[.string (rdOf ByteArray.empty y217 x60_2)] rfl ag_ ?_; (with_reducible refine (impl_readDecimal.calls k2 (rdOf ByteArray.empty y217 x60_2) t221 false _ A41.out).mono ?_); rintro e w' ⟨rfl, ⟨nd, rfl⟩⟩; refine ⟨_, rfl, ?_⟩; (try (rw [drewN_self wr]; generalize hq_ : World.drewN wr _ = wr; have n0_ : Aside0 (Kd.R Kd.string 9 wr w.heap.size (fun k_ => some k_ ≠ (.slice (some ad220) y217.length co37 : Value).ownBlock) (.slice (some ad198) t195.length co14) t195) := ⟨by rw [← hq_]; exact (rk_ HO_4.out)⟩; have n1_ : Aside0 (Kd.R Kd.string 9 wr w.heap.size (fun k_ => some k_ ≠ (.slice (some ad198) t195.length co14 : Value).ownBlock) (.slice (some ad220) y217.length co37) y217) := ⟨by rw [← hq_]; exact (rk_ HO_58.out)⟩; have n2_ : Aside0 (Kd.R (Kd.int .i64) 185 wr w.heap.size (fun _ => True) (.slice (some ⟨g211, 0, none⟩) 4 4 : Value) x8_2) := ⟨by rw [← hq_]; exact (rk_ HO_8.out)⟩; have n3_ : Aside0 (wr.heap[gb194]? = some (.cells #[.int .i64 x195000_2, .int .i64 x195001_2, .int .i64 x195002_2, .int .i64 x195003_2, .int .i64 x195004_2] 83 (0, 0))) := ⟨by rw [← hq_]; exact (r0_ BK194.out)⟩; have n4_ : Aside0 (Below w.heap.size w wr) := ⟨by rw [← hq_]; exact (r1_ HB.out GE194.out)⟩; clear HO_4 HO_58 HO_8 BK194 HB hq_; have HO_4 := n0_; have HO_58 := n1_; have HO_8 := n2_; have BK194 := n3_; have HB := n4_; clear n0_ n1_ n2_ n3_ n4_)); have hcz47_0 : wr.cell? ⟨gb194, 0, none⟩ = some (.int .i64 x195000_2) := (blk_cell BK194.out 0).trans rfl; have hcz47_1 : wr.cell? ⟨gb194, 1, none⟩ = some (.int .i64 x195001_2) := (blk_cell BK194.out 1).trans rfl; have hcz47_2 : wr.cell? ⟨gb194, 2, none⟩ = some (.int .i64 x195002_2) := (blk_cell BK194.out 2).trans rfl; have hcz47_3 : wr.cell? ⟨gb194, 3, none⟩ = some (.int .i64 x195003_2) := (blk_cell BK194.out 3).trans rfl; have hcz47_4 : wr.cell? ⟨gb194, 4, none⟩ = some (.int .i64 x195004_2) := (blk_cell BK194.out 4).trans rfl; have hfz47_0 := blk_frozen BK194.out 0; have hfz47_1 := blk_frozen BK194.out 1; have hfz47_2 := blk_frozen BK194.out 2; have hfz47_3 := blk_frozen BK194.out 3; have hfz47_4 := blk_frozen BK194.out 4))
          refine bodyPost_ret (results_ct rfl _ _ gb194 83 #[.int .i64 0, .int .i64 0, .int .i64 0, .int .i64 0, .int .i64 0] (0, 0) _ rfl (by (with_reducible repeat (first | refine blk_drewN ?_ _ | refine blk_drew ?_ | refine blk_alloc ?_ _)); refine blk_put (cs := #[.int .i64 0, .int .i64 0, .int .i64 0, .int .i64 0, .int .i64 x195004_2]) ?_ 4 _ rfl; (with_reducible repeat (first | refine blk_drewN ?_ _ | refine blk_drew ?_ | refine blk_alloc ?_ _)); refine blk_put (cs := #[.int .i64 0, .int .i64 0, .int .i64 0, .int .i64 x195003_2, .int .i64 x195004_2]) ?_ 3 _ rfl; (with_reducible repeat (first | refine blk_drewN ?_ _ | refine blk_drew ?_ | refine blk_alloc ?_ _)); refine blk_put (cs := #[.int .i64 0, .int .i64 0, .int .i64 x195002_2, .int .i64 x195003_2, .int .i64 x195004_2]) ?_ 2 _ rfl; (with_reducible repeat (first | refine blk_drewN ?_ _ | refine blk_drew ?_ | refine blk_alloc ?_ _)); refine blk_put (cs := #[.int .i64 0, .int .i64 x195001_2, .int .i64 x195002_2, .int .i64 x195003_2, .int .i64 x195004_2]) ?_ 1 _ rfl; (with_reducible repeat (first | refine blk_drewN ?_ _ | refine blk_drew ?_ | refine blk_alloc ?_ _)); refine blk_put (cs := #[.int .i64 x195000_2, .int .i64 x195001_2, .int .i64 x195002_2, .int .i64 x195003_2, .int .i64 x195004_2]) ?_ 0 _ rfl; (with_reducible repeat (first | refine blk_drewN ?_ _ | refine blk_drew ?_ | refine blk_alloc ?_ _)); exact BK194.out) Try.underlying83 rfl (by kernel_rfl)) rfl ?_
          exact ⟨by first | rfl | (simp [errW_none, errW_some] <;> rfl) | (simp [*, errW_none, errW_some] <;> rfl), r1_ HB.out GE194.out⟩
        ·rw [if_neg c38] at H
         have c38b0 : decide (x60_2 < (y217.length : Int)) = false := decide_eq_false c38
         clear c38
         have H' := Aside0.mk H
         clear H
         go_wp2
         go_loopg [13] k2 (fun kq v13 w' => ∃ (x13_3 : Int) (x195000_3 : Int) (x195001_3 : Int) (x195002_3 : Int) (x195003_3 : Int) (x195004_3 : Int), v13 = .int .i64 x13_3 ∧ Aside0 (impl_ReadArea.l1 kq t195 x8_2 x13_3 = some (r1, r2, r3, r4, r5, r6)) ∧ Aside0 (kq ≤ k2) ∧ Aside0 (Kd.R Kd.string 9 w' w.heap.size (fun _ => True) (.slice (some ad198) t195.length co14) t195) ∧ Aside0 (Kd.R (Kd.int .i64) 185 w' w.heap.size (fun _ => True) (.slice (some ⟨g211, 0, none⟩) 4 4 : Value) x8_2) ∧ Aside0 (w'.heap[gb194]? = some (.cells #[.int .i64 x195000_3, .int .i64 x195001_3, .int .i64 x195002_3, .int .i64 x195003_3, .int .i64 x195004_3] 83 (0, 0))) ∧ Aside0 (Below w.heap.size w w'))
         case atStart => exact ⟨(0), (x195000_2), (x195001_2), (x195002_2), (x195003_2), (x195004_2), (by first | rfl | (simp; done) | (simp [*]; done)), H', ⟨Nat.le_refl _⟩, ⟨rk_ (Kd.R_mono HO_4.out (fun _ hk => trivial))⟩, ⟨rk_ HO_8.out⟩, ⟨r0_ BK194.out⟩, ⟨r1_ HB.out GE194.out⟩⟩
         case round =>
          clear H'
          try clear c1
          try clear p1
          try clear q1
          try clear hx1
          try clear qi1
          try clear c2
          try clear p2
          try clear q2
          try clear hx2
          try clear qi2
          try clear c3
          try clear c3b0
          try clear c3b1
          try clear c4
          try clear c4b0
          try clear c4b1
          try clear p4
          try clear q4
          try clear hx4
          try clear hf4
          try clear c6
          try clear c6b0
          try clear c6b1
          try clear p6
          try clear c7
          try clear c7b0
          try clear c7b1
          try clear c9
          try clear c9b0
          try clear c9b1
          try clear c16
          try clear p19
          try clear q19
          try clear hx19
          try clear qi19
          try clear c20
          try clear c20b0
          try clear c20b1
          try clear p20
          try clear q20
          try clear hx20
          try clear qi20
          try clear p21
          try clear q21
          try clear hx21
          try clear qi21
          try clear p22
          try clear q22
          try clear hx22
          try clear c24
          try clear c26
          try clear c26b0
          try clear c26b1
          try clear c27
          try clear c27b0
          try clear c27b1
          try clear c28
          try clear c28b0
          try clear c28b1
          try clear c29
          try clear c29b0
          try clear c29b1
          try clear c38
          try clear c38b0
          try clear c39
          try clear c39b0
          try clear c40
          try clear c40b0
          try clear c42
          try clear c43
          try clear c43b0
          try clear p44
          try clear q44
          try clear hx44
          try clear hf44
          try clear hcz25_0
          try clear hcz25_1
          try clear hcz25_2
          try clear hcz25_3
          try clear hcz25_4
          try clear hcz47_0
          try clear hcz47_1
          try clear hcz47_2
          try clear hcz47_3
          try clear hcz47_4
          try clear hfz25_0
          try clear hfz25_1
          try clear hfz25_2
          try clear hfz25_3
          try clear hfz25_4
          try clear hfz47_0
          try clear hfz47_1
          try clear hfz47_2
          try clear hfz47_3
          try clear hfz47_4
          try clear hx198_0
          try clear hx202_0
          try clear hx206_0
          try clear hx213_0
          try clear hx214_0
          try clear hx215_0
          try clear hx216_0
          try clear hx220_0
          try clear hx44_0
          try clear p1
          try clear p19
          try clear p198
          try clear p2
          try clear p20
          try clear p202
          try clear p206
          try clear p21
          try clear p213
          try clear p214
          try clear p215
          try clear p216
          try clear p220
          try clear p44
          try clear q1
          try clear q19
          try clear q198
          try clear q2
          try clear q20
          try clear q202
          try clear q206
          try clear q21
          try clear q213
          try clear q214
          try clear q215
          try clear q216
          try clear q220
          try clear q44
          obtain ⟨x13_3, x195000_3, x195001_3, x195002_3, x195003_3, x195004_3, rfl, HA, HK3, HO_4, HO_8, BK194, HB⟩ := hrel
          cases gk with
          | zero => exact absurd HA.out (by simp [impl_ReadArea.l1])
          | succ k3 =>
           have H := HA.out
           clear HA
           simp only [impl_ReadArea.l1] at H
           by_cases c48 : x13_3 ≤ 3
           ·rw [if_pos c48] at H
            have c48b0 : decide (x13_3 ≤ 3) = true := decide_eq_true c48
            clear c48
            by_cases c49 : 0 < (x8_2.length : Int)
            case neg =>
             rw [if_neg c49] at H
             exact absurd H (by simp)
            rw [if_pos c49] at H
            have c49b0 : decide (0 < (x8_2.length : Int)) = true := decide_eq_true c49
            have c49b1 : decide (0 < x8_2.length) = true := decide_eq_true (by omega)
            clear c49
            by_cases c50 : 1 < (x8_2.length : Int)
            case neg =>
             rw [if_neg c50] at H
             exact absurd H (by simp)
            rw [if_pos c50] at H
            have c50b0 : decide (1 < (x8_2.length : Int)) = true := decide_eq_true c50
            have c50b1 : decide (1 < x8_2.length) = true := decide_eq_true (by omega)
            clear c50
            by_cases c51 : 2 < (x8_2.length : Int)
            case neg =>
             rw [if_neg c51] at H
             exact absurd H (by simp)
            rw [if_pos c51] at H
            have c51b0 : decide (2 < (x8_2.length : Int)) = true := decide_eq_true c51
            have c51b1 : decide (2 < x8_2.length) = true := decide_eq_true (by omega)
            clear c51
            by_cases c52 : 3 < (x8_2.length : Int)
            case neg =>
             rw [if_neg c52] at H
             exact absurd H (by simp)
            rw [if_pos c52] at H
            have c52b0 : decide (3 < (x8_2.length : Int)) = true := decide_eq_true c52
            have c52b1 : decide (3 < x8_2.length) = true := decide_eq_true (by omega)
            clear c52
            replace H := Option.bind_eq_some_iff.mp H
            obtain ⟨t229, A530, H⟩ := H
            replace H : (if 0 < (t195.length : Int) then (if t229.toList = (rdOf ByteArray.empty t195 0).toList then ((impl_IsArea.f x13_3 (rd x8_2 0) (rd x8_2 1) (rd x8_2 2) (rd x8_2 3)).bind fun t231 => (if t231 = true then (some (x13_3, rd x8_2 0, rd x8_2 1, rd x8_2 2, rd x8_2 3, 0)) else (impl_ReadArea.l1 k3 t195 x8_2 (wrap64 (x13_3 + 1))))) else (impl_ReadArea.l1 k3 t195 x8_2 (wrap64 (x13_3 + 1)))) else (none)) = some (r1, r2, r3, r4, r5, r6) := H
            have A53 := Aside0.mk A530
            clear A530
            by_cases c54 : 0 < (t195.length : Int)
            case neg =>
             rw [if_neg c54] at H
             exact absurd H (by simp)
            rw [if_pos c54] at H
            have c54b0 : decide (0 < (t195.length : Int)) = true := decide_eq_true c54
            have c54b1 : decide (0 < t195.length) = true := decide_eq_true (by omega)
            clear c54
            by_cases c55 : t229.toList = (rdOf ByteArray.empty t195 0).toList
            ·rw [if_pos c55] at H
             have c55b0 : (t229.toList == (rdOf ByteArray.empty t195 0).toList) = true := beq_iff_eq.mpr c55
             have c55b1 : (t229.toList != (rdOf ByteArray.empty t195 0).toList) = false := bne_eq_false_iff_eq.mpr c55
             clear c55
             replace H := Option.bind_eq_some_iff.mp H
             obtain ⟨t231, A560, H⟩ := H
             replace H : (if t231 = true then (some (x13_3, rd x8_2 0, rd x8_2 1, rd x8_2 2, rd x8_2 3, 0)) else (impl_ReadArea.l1 k3 t195 x8_2 (wrap64 (x13_3 + 1)))) = some (r1, r2, r3, r4, r5, r6) := H
             have A56 := Aside0.mk A560
             clear A560
             by_cases c57 : t231 = true
             ·subst c57
              replace H : (some (x13_3, rd x8_2 0, rd x8_2 1, rd x8_2 2, rd x8_2 3, 0)) = some (r1, r2, r3, r4, r5, r6) := by rw [if_pos rfl] at H; exact H
              simp only [Option.some.injEq, Prod.mk.injEq] at H
              obtain ⟨rfl, rfl, rfl, rfl, rfl, rfl⟩ := H
              have p224 : 0 ≤ (0 : Int) := (by omega)
              have q224 : 0 < (x8_2.length : Int) := od_
              obtain ⟨ad224, e224, hx224_0⟩ := Kd.at_int (Kd.R_reads' HO_8.out).2.2 0 p224 (by omega)
              cases e224
              have qi224 : (0 < x8_2.length) = True := eq_true (by omega)
              replace hx224_0 := (show World.cell? _ ⟨g211, 0, none⟩ = _ from hx224_0)
              replace p224 := eq_true p224
              replace q224 := eq_true q224
              have p225 : 0 ≤ (1 : Int) := (by omega)
              have q225 : 1 < (x8_2.length : Int) := od_
              obtain ⟨ad225, e225, hx225_0⟩ := Kd.at_int (Kd.R_reads' HO_8.out).2.2 1 p225 (by omega)
              obtain rfl : (⟨g211, 0, none⟩ : Addr) = ad225 := (by injection e225)
              have qi225 : (1 < x8_2.length) = True := eq_true (by omega)
              replace hx225_0 := (show World.cell? _ ⟨g211, 1, none⟩ = _ from hx225_0)
              replace p225 := eq_true p225
              replace q225 := eq_true q225
              have p226 : 0 ≤ (2 : Int) := (by omega)
              have q226 : 2 < (x8_2.length : Int) := od_
              obtain ⟨ad226, e226, hx226_0⟩ := Kd.at_int (Kd.R_reads' HO_8.out).2.2 2 p226 (by omega)
              obtain rfl : (⟨g211, 0, none⟩ : Addr) = ad226 := (by injection e226)
              have qi226 : (2 < x8_2.length) = True := eq_true (by omega)
              replace hx226_0 := (show World.cell? _ ⟨g211, 2, none⟩ = _ from hx226_0)
              replace p226 := eq_true p226
              replace q226 := eq_true q226
              have p227 : 0 ≤ (3 : Int) := (by omega)
              have q227 : 3 < (x8_2.length : Int) := od_
              obtain ⟨ad227, e227, hx227_0⟩ := Kd.at_int (Kd.R_reads' HO_8.out).2.2 3 p227 (by omega)
              obtain rfl : (⟨g211, 0, none⟩ : Addr) = ad227 := (by injection e227)
              have qi227 : (3 < x8_2.length) = True := eq_true (by omega)
              replace hx227_0 := (show World.cell? _ ⟨g211, 3, none⟩ = _ from hx227_0)
              replace p227 := eq_true p227
              replace q227 := eq_true q227
              try go_wp2_with (first | ((with_reducible refine gate_dst (N := 14) rfl ?_); (try (refine gate_guard (by rfl) ?_; dsimp only)); refine box_event ?hg (N := 14) ?hd (cs := #[.int .i64 0, .int .i64 0, .int .i64 0, .int .i64 0, .int .i64 0]) (t := 83) ?hr ?_; (case hd => rfl); (case hg => rfl); (case hr => first | (go_simp; done) | (go_simp; rfl)); intro gb228 hg w59 hbox hb; replace HO_4 := Aside0.mk (Kd.R_below (rk_ HO_4.out) hb); replace HO_8 := Aside0.mk (Kd.R_below (rk_ HO_8.out) hb); have BK228 := Aside0.mk (hbox); have GW228 := Aside0.mk ((by rw [hg]; exact (below_size (r1_ HB.out GE194.out)) : w.heap.size ≤ gb228)); have GE228 := Aside0.mk ((by rw [hg]; exact (below_size (r1_ HB.out GE194.out)) : w.heap.size ≤ gb228)); replace HB := Aside0.mk (below_step (r1_ HB.out GE194.out) hb); have NB194_228 := Aside0.mk ((by rw [hg]; exact Nat.ne_of_lt (blk_lt (g := gb194) (o := .cells #[.int .i64 x195000_3, .int .i64 x195001_3, .int .i64 x195002_3, .int .i64 x195003_3, .int .i64 x195004_3] 83 (0, 0)) (r0_ BK194.out)) : gb194 ≠ gb228)); have NB228_194 := Aside0.mk ((by rw [hg]; exact Nat.ne_of_gt (blk_lt (g := gb194) (o := .cells #[.int .i64 x195000_3, .int .i64 x195001_3, .int .i64 x195002_3, .int .i64 x195003_3, .int .i64 x195004_3] 83 (0, 0)) (r0_ BK194.out)) : gb228 ≠ gb194)); replace BK194 := Aside0.mk (blk_below (g := gb194) (o := .cells #[.int .i64 x195000_3, .int .i64 x195001_3, .int .i64 x195002_3, .int .i64 x195003_3, .int .i64 x195004_3] 83 (0, 0)) (r0_ BK194.out) hb); clear hb hbox hg; have hnb60 := NB228_194.out; have hnc60 := NB194_228.out; have hcz61_0 : w59.cell? ⟨gb228, 0, none⟩ = some (.int .i64 0) := (blk_cell BK228.out 0).trans rfl; have hcz61_1 : w59.cell? ⟨gb228, 1, none⟩ = some (.int .i64 0) := (blk_cell BK228.out 1).trans rfl; have hcz61_2 : w59.cell? ⟨gb228, 2, none⟩ = some (.int .i64 0) := (blk_cell BK228.out 2).trans rfl; have hcz61_3 : w59.cell? ⟨gb228, 3, none⟩ = some (.int .i64 0) := (blk_cell BK228.out 3).trans rfl; have hcz61_4 : w59.cell? ⟨gb228, 4, none⟩ = some (.int .i64 0) := (blk_cell BK228.out 4).trans rfl; have hfz61_0 := blk_frozen BK228.out 0; have hfz61_1 := blk_frozen BK228.out 1; have hfz61_2 := blk_frozen BK228.out 2; have hfz61_3 := blk_frozen BK228.out 3; have hfz61_4 := blk_frozen BK228.out 4))
              have n0_ : Aside0 (Kd.R Kd.string 9 (((((w59.setCell ⟨gb228, 0, none⟩ (.int .i64 x13_3)).setCell ⟨gb228, 1, none⟩ (.int .i64 (rd x8_2 0))).setCell ⟨gb228, 2, none⟩ (.int .i64 (rd x8_2 1))).setCell ⟨gb228, 3, none⟩ (.int .i64 (rd x8_2 2))).setCell ⟨gb228, 4, none⟩ (.int .i64 (rd x8_2 3))) w.heap.size (fun _ => True) (.slice (some ad198) t195.length co14) t195) := ⟨rk_ (Kd.R_mono (Kd.R_far (p := ⟨gb228, 4, none⟩) (Kd.R_far (p := ⟨gb228, 3, none⟩) (Kd.R_far (p := ⟨gb228, 2, none⟩) (Kd.R_far (p := ⟨gb228, 1, none⟩) (Kd.R_far (p := ⟨gb228, 0, none⟩) (Kd.R_types HO_4.out BK228.out (by decide)) (fun _ hk => hk.2) (.int .i64 x13_3)) (fun _ hk => hk.2) (.int .i64 (rd x8_2 0))) (fun _ hk => hk.2) (.int .i64 (rd x8_2 1))) (fun _ hk => hk.2) (.int .i64 (rd x8_2 2))) (fun _ hk => hk.2) (.int .i64 (rd x8_2 3))) (fun _ hk => trivial))⟩
              have n1_ : Aside0 (Kd.R (Kd.int .i64) 185 (((((w59.setCell ⟨gb228, 0, none⟩ (.int .i64 x13_3)).setCell ⟨gb228, 1, none⟩ (.int .i64 (rd x8_2 0))).setCell ⟨gb228, 2, none⟩ (.int .i64 (rd x8_2 1))).setCell ⟨gb228, 3, none⟩ (.int .i64 (rd x8_2 2))).setCell ⟨gb228, 4, none⟩ (.int .i64 (rd x8_2 3))) w.heap.size (fun _ => True) (.slice (some ⟨g211, 0, none⟩) 4 4 : Value) x8_2) := ⟨rk_ (Kd.R_mono (Kd.R_far (p := ⟨gb228, 4, none⟩) (Kd.R_far (p := ⟨gb228, 3, none⟩) (Kd.R_far (p := ⟨gb228, 2, none⟩) (Kd.R_far (p := ⟨gb228, 1, none⟩) (Kd.R_far (p := ⟨gb228, 0, none⟩) (Kd.R_types HO_8.out BK228.out (by decide)) (fun _ hk => hk.2) (.int .i64 x13_3)) (fun _ hk => hk.2) (.int .i64 (rd x8_2 0))) (fun _ hk => hk.2) (.int .i64 (rd x8_2 1))) (fun _ hk => hk.2) (.int .i64 (rd x8_2 2))) (fun _ hk => hk.2) (.int .i64 (rd x8_2 3))) (fun _ hk => trivial))⟩
              have n2_ : Aside0 ((((((w59.setCell ⟨gb228, 0, none⟩ (.int .i64 x13_3)).setCell ⟨gb228, 1, none⟩ (.int .i64 (rd x8_2 0))).setCell ⟨gb228, 2, none⟩ (.int .i64 (rd x8_2 1))).setCell ⟨gb228, 3, none⟩ (.int .i64 (rd x8_2 2))).setCell ⟨gb228, 4, none⟩ (.int .i64 (rd x8_2 3))).heap[gb194]? = some (.cells #[.int .i64 x195000_3, .int .i64 x195001_3, .int .i64 x195002_3, .int .i64 x195003_3, .int .i64 x195004_3] 83 (0, 0))) := ⟨r11_ NB194_228.out BK194.out⟩
              have n3_ : Aside0 ((((((w59.setCell ⟨gb228, 0, none⟩ (.int .i64 x13_3)).setCell ⟨gb228, 1, none⟩ (.int .i64 (rd x8_2 0))).setCell ⟨gb228, 2, none⟩ (.int .i64 (rd x8_2 1))).setCell ⟨gb228, 3, none⟩ (.int .i64 (rd x8_2 2))).setCell ⟨gb228, 4, none⟩ (.int .i64 (rd x8_2 3))).heap[gb228]? = some (.cells #[.int .i64 x13_3, .int .i64 (rd x8_2 0), .int .i64 (rd x8_2 1), .int .i64 (rd x8_2 2), .int .i64 (rd x8_2 3)] 83 (0, 0))) := ⟨by (with_reducible repeat (first | refine blk_drewN ?_ _ | refine blk_drew ?_ | refine blk_alloc ?_ _)); refine blk_put (cs := #[.int .i64 x13_3, .int .i64 (rd x8_2 0), .int .i64 (rd x8_2 1), .int .i64 (rd x8_2 2), .int .i64 0]) ?_ 4 _ rfl; (with_reducible repeat (first | refine blk_drewN ?_ _ | refine blk_drew ?_ | refine blk_alloc ?_ _)); refine blk_put (cs := #[.int .i64 x13_3, .int .i64 (rd x8_2 0), .int .i64 (rd x8_2 1), .int .i64 0, .int .i64 0]) ?_ 3 _ rfl; (with_reducible repeat (first | refine blk_drewN ?_ _ | refine blk_drew ?_ | refine blk_alloc ?_ _)); refine blk_put (cs := #[.int .i64 x13_3, .int .i64 (rd x8_2 0), .int .i64 0, .int .i64 0, .int .i64 0]) ?_ 2 _ rfl; (with_reducible repeat (first | refine blk_drewN ?_ _ | refine blk_drew ?_ | refine blk_alloc ?_ _)); refine blk_put (cs := #[.int .i64 x13_3, .int .i64 0, .int .i64 0, .int .i64 0, .int .i64 0]) ?_ 1 _ rfl; (with_reducible repeat (first | refine blk_drewN ?_ _ | refine blk_drew ?_ | refine blk_alloc ?_ _)); refine blk_put (cs := #[.int .i64 0, .int .i64 0, .int .i64 0, .int .i64 0, .int .i64 0]) ?_ 0 _ rfl; (with_reducible repeat (first | refine blk_drewN ?_ _ | refine blk_drew ?_ | refine blk_alloc ?_ _)); exact BK228.out⟩
              have n4_ : Aside0 (Below w.heap.size w (((((w59.setCell ⟨gb228, 0, none⟩ (.int .i64 x13_3)).setCell ⟨gb228, 1, none⟩ (.int .i64 (rd x8_2 0))).setCell ⟨gb228, 2, none⟩ (.int .i64 (rd x8_2 1))).setCell ⟨gb228, 3, none⟩ (.int .i64 (rd x8_2 2))).setCell ⟨gb228, 4, none⟩ (.int .i64 (rd x8_2 3)))) := ⟨r5_ HB.out GE194.out GE228.out⟩
              (try clear HO_4)
              (try clear HO_8)
              (try clear BK194)
              (try clear BK228)
              (try clear HB)
              generalize (((((w59.setCell ⟨gb228, 0, none⟩ (.int .i64 x13_3)).setCell ⟨gb228, 1, none⟩ (.int .i64 (rd x8_2 0))).setCell ⟨gb228, 2, none⟩ (.int .i64 (rd x8_2 1))).setCell ⟨gb228, 3, none⟩ (.int .i64 (rd x8_2 2))).setCell ⟨gb228, 4, none⟩ (.int .i64 (rd x8_2 3))) = w62 at n0_ n1_ n2_ n3_ n4_ ⊢
              have HO_4 := n0_
              have HO_8 := n1_
              have BK194 := n2_
              have BK228 := n3_
              have HB := n4_
              clear n0_ n1_ n2_ n3_ n4_
              replace HO_4 := Aside0.mk (Kd.R_drew HO_4.out)
              replace HO_8 := Aside0.mk (Kd.R_drew HO_8.out)
              replace BK194 := Aside0.mk (blk_drew BK194.out)
              replace BK228 := Aside0.mk (blk_drew BK228.out)
              replace HB := Aside0.mk (below_drew1 HB.out)
              have p230 : 0 ≤ (0 : Int) := (by omega)
              have q230 : 0 < (t195.length : Int) := od_
              obtain ⟨ad230, e230, hx230_0⟩ := Kd.at_string (Kd.R_reads' HO_4.out).2.2 0 p230 q230
              obtain rfl : ad198 = ad230 := (by injection e230)
              have qi230 : (0 < t195.length) = True := eq_true (by omega)
              (try rw [show ((0 : Int)).toNat = 0 from rfl] at hx230_0)
              (try rw [Addr.add_zero'] at hx230_0)
              replace p230 := eq_true p230
              replace q230 := eq_true q230
              refine start_ (n := 10) (S := fun w' => w'.cell? ⟨gb228, 0, none⟩ = some (.int .i64 x13_3) ∧ w'.cell? ⟨gb228, 1, none⟩ = some (.int .i64 (rd x8_2 0)) ∧ w'.cell? ⟨gb228, 2, none⟩ = some (.int .i64 (rd x8_2 1)) ∧ w'.cell? ⟨gb228, 3, none⟩ = some (.int .i64 (rd x8_2 2)) ∧ w'.cell? ⟨gb228, 4, none⟩ = some (.int .i64 (rd x8_2 3)) ∧ w'.cell? ad198 = some (.string (rdOf ByteArray.empty t195 0))) (ds := []) #[f_,f_,f_,f_,f_,f_,f_,f_,f_,f_] (by kernel_rfl) rfl rfl ⟨(blk_cell BK228.out 0).trans rfl, (blk_cell BK228.out 1).trans rfl, (blk_cell BK228.out 2).trans rfl, (blk_cell BK228.out 3).trans rfl, (blk_cell BK228.out 4).trans rfl, hx230_0⟩ (fun hHeld => ?_); refine with_tabW impl_ReadArea.tab23 impl_ReadArea.bits23 (fun HT_ HW_ => ?_)
              generalize w62.drew = w63 at HO_4 HO_8 BK194 BK228 HB hx230_0 hHeld ⊢
              refine pu_ 0 91 #[t_,f_,f_,f_,f_,f_,f_,f_,f_,f_] HT_.out ?_
              refine pu_ 2 93 #[t_,f_,t_,f_,f_,f_,f_,f_,f_,f_] HT_.out ?_
              refine pu_ 3 94 #[t_,f_,t_,t_,f_,f_,f_,f_,f_,f_] HT_.out ?_
              refine take_ (i := 4) (N := some 95) (v := ?_) (a' := ?_) #[t_,f_,t_,t_,t_,f_,f_,f_,f_,f_] rfl rfl (take_ofW HT_.out HW_.out (by kernel_rfl)) (fun _ _ _ h => h) (Or.inl ⟨by rfl, ?_⟩) hHeld ?_ ?_
              rotate_left
              ·rintro w' ⟨s0, s1, s2, s3, s4, s5⟩
               go_simp
               with_reducible rfl
              rotate_left
              ·simp only [pz_]
               rfl
              refine one_ (i := 1) (N := some 92) #[t_,t_,t_,t_,t_,f_,f_,f_,f_,f_] rfl rfl (one_of HT_.out (by kernel_rfl)) (by decide) (fun K hK => ?_)
              refine goes_ Try.func163 (by kernel_rfl) rfl #[.int .i64 x13_3] (by rfl) rfl rfl ag_ ?_
              with_reducible refine (impl_kindWord.calls x13_3 t229 _ A53.out).mono ?_
              rintro e w' ⟨rfl, ⟨nd, rfl⟩⟩
              refine ⟨_, rfl, ?_⟩
              refine hK.out _ _ ⟨(blk_cell BK228.out 0).trans rfl, (blk_cell BK228.out 1).trans rfl, (blk_cell BK228.out 2).trans rfl, (blk_cell BK228.out 3).trans rfl, (blk_cell BK228.out 4).trans rfl, hHeld.2.2.2.2.2⟩ (fun hHeld => ?_)
              clear hK K
              refine norm_ (a' := ?_) ?_ ?_
              rotate_left
              ·show Act.put _ (some 92) _ = _
               simp only [pz_]
               rfl
              refine pu_ 5 96 #[t_,t_,t_,t_,t_,t_,f_,f_,f_,f_] HT_.out ?_
              refine pu_ 6 97 #[t_,t_,t_,t_,t_,t_,t_,f_,f_,f_] HT_.out ?_
              refine take_ (i := 7) (N := some 98) (v := ?_) (a' := ?_) #[t_,t_,t_,t_,t_,t_,t_,t_,f_,f_] rfl rfl (take_ofW HT_.out HW_.out (by kernel_rfl)) (fun _ _ _ h => h) (Or.inl ⟨by rfl, ?_⟩) hHeld ?_ ?_
              rotate_left
              ·rintro w' ⟨s0, s1, s2, s3, s4, s5⟩
               go_simp
               with_reducible rfl
              rotate_left
              ·simp only [pz_]
               rfl
              refine one_ (i := 8) (N := some 99) #[t_,t_,t_,t_,t_,t_,t_,t_,t_,f_] rfl rfl (one_of HT_.out (by kernel_rfl)) (by decide) (fun K hK => ?_)
              refine goes_ Try.func108 (by kernel_rfl) rfl #[.agg #[.int .i64 x13_3, .int .i64 (rd x8_2 0), .int .i64 (rd x8_2 1), .int .i64 (rd x8_2 2), .int .i64 (rd x8_2 3)]] (by rfl) rfl rfl ag_ ?_
              with_reducible refine (impl_IsArea.calls x13_3 (rd x8_2 0) (rd x8_2 1) (rd x8_2 2) (rd x8_2 3) true _ A56.out).mono ?_
              rintro e w64 ⟨rfl, hb⟩
              have HS5_ := (hb.cell (World.block_lt_of_cell? _ _ (hHeld.2.2.2.2.2))).trans (hHeld.2.2.2.2.2)
              refine ⟨_, rfl, ?_⟩
              replace HO_4 := Aside0.mk (Kd.R_below (rk_ HO_4.out) hb)
              replace HO_8 := Aside0.mk (Kd.R_below (rk_ HO_8.out) hb)
              replace BK194 := Aside0.mk (blk_below (g := gb194) (o := .cells #[.int .i64 x195000_3, .int .i64 x195001_3, .int .i64 x195002_3, .int .i64 x195003_3, .int .i64 x195004_3] 83 (0, 0)) (r0_ BK194.out) hb)
              replace BK228 := Aside0.mk (blk_below (g := gb228) (o := .cells #[.int .i64 x13_3, .int .i64 (rd x8_2 0), .int .i64 (rd x8_2 1), .int .i64 (rd x8_2 2), .int .i64 (rd x8_2 3)] 83 (0, 0)) (r0_ BK228.out) hb)
              replace HB := Aside0.mk (below_step (r5_ HB.out GE194.out GE228.out) hb)
              (try clear hb)
              (try clear hb2)
              (try clear hk)
              (try clear hi)
              refine hK.out _ _ ⟨(blk_cell BK228.out 0).trans rfl, (blk_cell BK228.out 1).trans rfl, (blk_cell BK228.out 2).trans rfl, (blk_cell BK228.out 3).trans rfl, (blk_cell BK228.out 4).trans rfl, HS5_⟩ (fun hHeld => ?_)
              clear hK K
              refine norm_ (a' := ?_) ?_ ?_
              rotate_left
              ·show Act.put _ (some 99) _ = _
               simp only [pz_]
               rfl
              refine pu_ 9 100 #[t_,t_,t_,t_,t_,t_,t_,t_,t_,t_] HT_.out ?_
              refine done_ (done_of HT_.out (by kernel_rfl)) ?_
              have hcz65_0 : w64.cell? ⟨gb228, 0, none⟩ = some (.int .i64 x13_3) := (blk_cell BK228.out 0).trans rfl
              have hcz65_1 : w64.cell? ⟨gb228, 1, none⟩ = some (.int .i64 (rd x8_2 0)) := (blk_cell BK228.out 1).trans rfl
              have hcz65_2 : w64.cell? ⟨gb228, 2, none⟩ = some (.int .i64 (rd x8_2 1)) := (blk_cell BK228.out 2).trans rfl
              have hcz65_3 : w64.cell? ⟨gb228, 3, none⟩ = some (.int .i64 (rd x8_2 2)) := (blk_cell BK228.out 3).trans rfl
              have hcz65_4 : w64.cell? ⟨gb228, 4, none⟩ = some (.int .i64 (rd x8_2 3)) := (blk_cell BK228.out 4).trans rfl
              have hfz65_0 := blk_frozen BK228.out 0
              have hfz65_1 := blk_frozen BK228.out 1
              have hfz65_2 := blk_frozen BK228.out 2
              have hfz65_3 := blk_frozen BK228.out 3
              have hfz65_4 := blk_frozen BK228.out 4
              have hcz66_0 : w64.cell? ⟨gb194, 0, none⟩ = some (.int .i64 x195000_3) := (blk_cell BK194.out 0).trans rfl
              have hcz66_1 : w64.cell? ⟨gb194, 1, none⟩ = some (.int .i64 x195001_3) := (blk_cell BK194.out 1).trans rfl
              have hcz66_2 : w64.cell? ⟨gb194, 2, none⟩ = some (.int .i64 x195002_3) := (blk_cell BK194.out 2).trans rfl
              have hcz66_3 : w64.cell? ⟨gb194, 3, none⟩ = some (.int .i64 x195003_3) := (blk_cell BK194.out 3).trans rfl
              have hcz66_4 : w64.cell? ⟨gb194, 4, none⟩ = some (.int .i64 x195004_3) := (blk_cell BK194.out 4).trans rfl
              have hfz66_0 := blk_frozen BK194.out 0
              have hfz66_1 := blk_frozen BK194.out 1
              have hfz66_2 := blk_frozen BK194.out 2
              have hfz66_3 := blk_frozen BK194.out 3
              have hfz66_4 := blk_frozen BK194.out 4
              try go_wp2
              refine bodyPost_ret (results_ct rfl _ _ gb194 83 #[.int .i64 x13_3, .int .i64 (rd x8_2 0), .int .i64 (rd x8_2 1), .int .i64 (rd x8_2 2), .int .i64 (rd x8_2 3)] (0, 0) _ rfl (by (with_reducible repeat (first | refine blk_drewN ?_ _ | refine blk_drew ?_ | refine blk_alloc ?_ _)); refine blk_put (cs := #[.int .i64 x13_3, .int .i64 (rd x8_2 0), .int .i64 (rd x8_2 1), .int .i64 (rd x8_2 2), .int .i64 x195004_3]) ?_ 4 _ rfl; (with_reducible repeat (first | refine blk_drewN ?_ _ | refine blk_drew ?_ | refine blk_alloc ?_ _)); refine blk_put (cs := #[.int .i64 x13_3, .int .i64 (rd x8_2 0), .int .i64 (rd x8_2 1), .int .i64 x195003_3, .int .i64 x195004_3]) ?_ 3 _ rfl; (with_reducible repeat (first | refine blk_drewN ?_ _ | refine blk_drew ?_ | refine blk_alloc ?_ _)); refine blk_put (cs := #[.int .i64 x13_3, .int .i64 (rd x8_2 0), .int .i64 x195002_3, .int .i64 x195003_3, .int .i64 x195004_3]) ?_ 2 _ rfl; (with_reducible repeat (first | refine blk_drewN ?_ _ | refine blk_drew ?_ | refine blk_alloc ?_ _)); refine blk_put (cs := #[.int .i64 x13_3, .int .i64 x195001_3, .int .i64 x195002_3, .int .i64 x195003_3, .int .i64 x195004_3]) ?_ 1 _ rfl; (with_reducible repeat (first | refine blk_drewN ?_ _ | refine blk_drew ?_ | refine blk_alloc ?_ _)); refine blk_put (cs := #[.int .i64 x195000_3, .int .i64 x195001_3, .int .i64 x195002_3, .int .i64 x195003_3, .int .i64 x195004_3]) ?_ 0 _ rfl; (with_reducible repeat (first | refine blk_drewN ?_ _ | refine blk_drew ?_ | refine blk_alloc ?_ _)); exact BK194.out) Try.underlying83 rfl (by kernel_rfl)) rfl ?_
              exact ⟨by first | rfl | (simp [errW_none, errW_some] <;> rfl) | (simp [*, errW_none, errW_some] <;> rfl), r5_ HB.out GE194.out GE228.out⟩
             ·replace c57 := Bool.eq_false_iff.mpr c57
              subst c57
              replace H : (impl_ReadArea.l1 k3 t195 x8_2 (wrap64 (x13_3 + 1))) = some (r1, r2, r3, r4, r5, r6) := by rw [if_neg (show ¬ (false = true) by decide)] at H; exact H
              have H' := Aside0.mk H
              clear H
              have p224 : 0 ≤ (0 : Int) := (by omega)
              have q224 : 0 < (x8_2.length : Int) := od_
              obtain ⟨ad224, e224, hx224_0⟩ := Kd.at_int (Kd.R_reads' HO_8.out).2.2 0 p224 (by omega)
              cases e224
              have qi224 : (0 < x8_2.length) = True := eq_true (by omega)
              replace hx224_0 := (show World.cell? _ ⟨g211, 0, none⟩ = _ from hx224_0)
              replace p224 := eq_true p224
              replace q224 := eq_true q224
              have p225 : 0 ≤ (1 : Int) := (by omega)
              have q225 : 1 < (x8_2.length : Int) := od_
              obtain ⟨ad225, e225, hx225_0⟩ := Kd.at_int (Kd.R_reads' HO_8.out).2.2 1 p225 (by omega)
              obtain rfl : (⟨g211, 0, none⟩ : Addr) = ad225 := (by injection e225)
              have qi225 : (1 < x8_2.length) = True := eq_true (by omega)
              replace hx225_0 := (show World.cell? _ ⟨g211, 1, none⟩ = _ from hx225_0)
              replace p225 := eq_true p225
              replace q225 := eq_true q225
              have p226 : 0 ≤ (2 : Int) := (by omega)
              have q226 : 2 < (x8_2.length : Int) := od_
              obtain ⟨ad226, e226, hx226_0⟩ := Kd.at_int (Kd.R_reads' HO_8.out).2.2 2 p226 (by omega)
              obtain rfl : (⟨g211, 0, none⟩ : Addr) = ad226 := (by injection e226)
              have qi226 : (2 < x8_2.length) = True := eq_true (by omega)
              replace hx226_0 := (show World.cell? _ ⟨g211, 2, none⟩ = _ from hx226_0)
              replace p226 := eq_true p226
              replace q226 := eq_true q226
              have p227 : 0 ≤ (3 : Int) := (by omega)
              have q227 : 3 < (x8_2.length : Int) := od_
              obtain ⟨ad227, e227, hx227_0⟩ := Kd.at_int (Kd.R_reads' HO_8.out).2.2 3 p227 (by omega)
              obtain rfl : (⟨g211, 0, none⟩ : Addr) = ad227 := (by injection e227)
              have qi227 : (3 < x8_2.length) = True := eq_true (by omega)
              replace hx227_0 := (show World.cell? _ ⟨g211, 3, none⟩ = _ from hx227_0)
              replace p227 := eq_true p227
              replace q227 := eq_true q227
              try go_wp2_with (first | ((with_reducible refine gate_dst (N := 14) rfl ?_); (try (refine gate_guard (by rfl) ?_; dsimp only)); refine box_event ?hg (N := 14) ?hd (cs := #[.int .i64 0, .int .i64 0, .int .i64 0, .int .i64 0, .int .i64 0]) (t := 83) ?hr ?_; (case hd => rfl); (case hg => rfl); (case hr => first | (go_simp; done) | (go_simp; rfl)); intro gb228 hg w68 hbox hb; replace HO_4 := Aside0.mk (Kd.R_below (rk_ HO_4.out) hb); replace HO_8 := Aside0.mk (Kd.R_below (rk_ HO_8.out) hb); have BK228 := Aside0.mk (hbox); have GW228 := Aside0.mk ((by rw [hg]; exact (below_size (r1_ HB.out GE194.out)) : w.heap.size ≤ gb228)); have GE228 := Aside0.mk ((by rw [hg]; exact (below_size (r1_ HB.out GE194.out)) : w.heap.size ≤ gb228)); replace HB := Aside0.mk (below_step (r1_ HB.out GE194.out) hb); have NB194_228 := Aside0.mk ((by rw [hg]; exact Nat.ne_of_lt (blk_lt (g := gb194) (o := .cells #[.int .i64 x195000_3, .int .i64 x195001_3, .int .i64 x195002_3, .int .i64 x195003_3, .int .i64 x195004_3] 83 (0, 0)) (r0_ BK194.out)) : gb194 ≠ gb228)); have NB228_194 := Aside0.mk ((by rw [hg]; exact Nat.ne_of_gt (blk_lt (g := gb194) (o := .cells #[.int .i64 x195000_3, .int .i64 x195001_3, .int .i64 x195002_3, .int .i64 x195003_3, .int .i64 x195004_3] 83 (0, 0)) (r0_ BK194.out)) : gb228 ≠ gb194)); replace BK194 := Aside0.mk (blk_below (g := gb194) (o := .cells #[.int .i64 x195000_3, .int .i64 x195001_3, .int .i64 x195002_3, .int .i64 x195003_3, .int .i64 x195004_3] 83 (0, 0)) (r0_ BK194.out) hb); clear hb hbox hg; have hnb69 := NB228_194.out; have hnc69 := NB194_228.out; have hcz70_0 : w68.cell? ⟨gb228, 0, none⟩ = some (.int .i64 0) := (blk_cell BK228.out 0).trans rfl; have hcz70_1 : w68.cell? ⟨gb228, 1, none⟩ = some (.int .i64 0) := (blk_cell BK228.out 1).trans rfl; have hcz70_2 : w68.cell? ⟨gb228, 2, none⟩ = some (.int .i64 0) := (blk_cell BK228.out 2).trans rfl; have hcz70_3 : w68.cell? ⟨gb228, 3, none⟩ = some (.int .i64 0) := (blk_cell BK228.out 3).trans rfl; have hcz70_4 : w68.cell? ⟨gb228, 4, none⟩ = some (.int .i64 0) := (blk_cell BK228.out 4).trans rfl; have hfz70_0 := blk_frozen BK228.out 0; have hfz70_1 := blk_frozen BK228.out 1; have hfz70_2 := blk_frozen BK228.out 2; have hfz70_3 := blk_frozen BK228.out 3; have hfz70_4 := blk_frozen BK228.out 4))
              have n0_ : Aside0 (Kd.R Kd.string 9 (((((w68.setCell ⟨gb228, 0, none⟩ (.int .i64 x13_3)).setCell ⟨gb228, 1, none⟩ (.int .i64 (rd x8_2 0))).setCell ⟨gb228, 2, none⟩ (.int .i64 (rd x8_2 1))).setCell ⟨gb228, 3, none⟩ (.int .i64 (rd x8_2 2))).setCell ⟨gb228, 4, none⟩ (.int .i64 (rd x8_2 3))) w.heap.size (fun _ => True) (.slice (some ad198) t195.length co14) t195) := ⟨rk_ (Kd.R_mono (Kd.R_far (p := ⟨gb228, 4, none⟩) (Kd.R_far (p := ⟨gb228, 3, none⟩) (Kd.R_far (p := ⟨gb228, 2, none⟩) (Kd.R_far (p := ⟨gb228, 1, none⟩) (Kd.R_far (p := ⟨gb228, 0, none⟩) (Kd.R_types HO_4.out BK228.out (by decide)) (fun _ hk => hk.2) (.int .i64 x13_3)) (fun _ hk => hk.2) (.int .i64 (rd x8_2 0))) (fun _ hk => hk.2) (.int .i64 (rd x8_2 1))) (fun _ hk => hk.2) (.int .i64 (rd x8_2 2))) (fun _ hk => hk.2) (.int .i64 (rd x8_2 3))) (fun _ hk => trivial))⟩
              have n1_ : Aside0 (Kd.R (Kd.int .i64) 185 (((((w68.setCell ⟨gb228, 0, none⟩ (.int .i64 x13_3)).setCell ⟨gb228, 1, none⟩ (.int .i64 (rd x8_2 0))).setCell ⟨gb228, 2, none⟩ (.int .i64 (rd x8_2 1))).setCell ⟨gb228, 3, none⟩ (.int .i64 (rd x8_2 2))).setCell ⟨gb228, 4, none⟩ (.int .i64 (rd x8_2 3))) w.heap.size (fun _ => True) (.slice (some ⟨g211, 0, none⟩) 4 4 : Value) x8_2) := ⟨rk_ (Kd.R_mono (Kd.R_far (p := ⟨gb228, 4, none⟩) (Kd.R_far (p := ⟨gb228, 3, none⟩) (Kd.R_far (p := ⟨gb228, 2, none⟩) (Kd.R_far (p := ⟨gb228, 1, none⟩) (Kd.R_far (p := ⟨gb228, 0, none⟩) (Kd.R_types HO_8.out BK228.out (by decide)) (fun _ hk => hk.2) (.int .i64 x13_3)) (fun _ hk => hk.2) (.int .i64 (rd x8_2 0))) (fun _ hk => hk.2) (.int .i64 (rd x8_2 1))) (fun _ hk => hk.2) (.int .i64 (rd x8_2 2))) (fun _ hk => hk.2) (.int .i64 (rd x8_2 3))) (fun _ hk => trivial))⟩
              have n2_ : Aside0 ((((((w68.setCell ⟨gb228, 0, none⟩ (.int .i64 x13_3)).setCell ⟨gb228, 1, none⟩ (.int .i64 (rd x8_2 0))).setCell ⟨gb228, 2, none⟩ (.int .i64 (rd x8_2 1))).setCell ⟨gb228, 3, none⟩ (.int .i64 (rd x8_2 2))).setCell ⟨gb228, 4, none⟩ (.int .i64 (rd x8_2 3))).heap[gb194]? = some (.cells #[.int .i64 x195000_3, .int .i64 x195001_3, .int .i64 x195002_3, .int .i64 x195003_3, .int .i64 x195004_3] 83 (0, 0))) := ⟨r11_ NB194_228.out BK194.out⟩
              have n3_ : Aside0 ((((((w68.setCell ⟨gb228, 0, none⟩ (.int .i64 x13_3)).setCell ⟨gb228, 1, none⟩ (.int .i64 (rd x8_2 0))).setCell ⟨gb228, 2, none⟩ (.int .i64 (rd x8_2 1))).setCell ⟨gb228, 3, none⟩ (.int .i64 (rd x8_2 2))).setCell ⟨gb228, 4, none⟩ (.int .i64 (rd x8_2 3))).heap[gb228]? = some (.cells #[.int .i64 x13_3, .int .i64 (rd x8_2 0), .int .i64 (rd x8_2 1), .int .i64 (rd x8_2 2), .int .i64 (rd x8_2 3)] 83 (0, 0))) := ⟨by (with_reducible repeat (first | refine blk_drewN ?_ _ | refine blk_drew ?_ | refine blk_alloc ?_ _)); refine blk_put (cs := #[.int .i64 x13_3, .int .i64 (rd x8_2 0), .int .i64 (rd x8_2 1), .int .i64 (rd x8_2 2), .int .i64 0]) ?_ 4 _ rfl; (with_reducible repeat (first | refine blk_drewN ?_ _ | refine blk_drew ?_ | refine blk_alloc ?_ _)); refine blk_put (cs := #[.int .i64 x13_3, .int .i64 (rd x8_2 0), .int .i64 (rd x8_2 1), .int .i64 0, .int .i64 0]) ?_ 3 _ rfl; (with_reducible repeat (first | refine blk_drewN ?_ _ | refine blk_drew ?_ | refine blk_alloc ?_ _)); refine blk_put (cs := #[.int .i64 x13_3, .int .i64 (rd x8_2 0), .int .i64 0, .int .i64 0, .int .i64 0]) ?_ 2 _ rfl; (with_reducible repeat (first | refine blk_drewN ?_ _ | refine blk_drew ?_ | refine blk_alloc ?_ _)); refine blk_put (cs := #[.int .i64 x13_3, .int .i64 0, .int .i64 0, .int .i64 0, .int .i64 0]) ?_ 1 _ rfl; (with_reducible repeat (first | refine blk_drewN ?_ _ | refine blk_drew ?_ | refine blk_alloc ?_ _)); refine blk_put (cs := #[.int .i64 0, .int .i64 0, .int .i64 0, .int .i64 0, .int .i64 0]) ?_ 0 _ rfl; (with_reducible repeat (first | refine blk_drewN ?_ _ | refine blk_drew ?_ | refine blk_alloc ?_ _)); exact BK228.out⟩
              have n4_ : Aside0 (Below w.heap.size w (((((w68.setCell ⟨gb228, 0, none⟩ (.int .i64 x13_3)).setCell ⟨gb228, 1, none⟩ (.int .i64 (rd x8_2 0))).setCell ⟨gb228, 2, none⟩ (.int .i64 (rd x8_2 1))).setCell ⟨gb228, 3, none⟩ (.int .i64 (rd x8_2 2))).setCell ⟨gb228, 4, none⟩ (.int .i64 (rd x8_2 3)))) := ⟨r5_ HB.out GE194.out GE228.out⟩
              (try clear HO_4)
              (try clear HO_8)
              (try clear BK194)
              (try clear BK228)
              (try clear HB)
              generalize (((((w68.setCell ⟨gb228, 0, none⟩ (.int .i64 x13_3)).setCell ⟨gb228, 1, none⟩ (.int .i64 (rd x8_2 0))).setCell ⟨gb228, 2, none⟩ (.int .i64 (rd x8_2 1))).setCell ⟨gb228, 3, none⟩ (.int .i64 (rd x8_2 2))).setCell ⟨gb228, 4, none⟩ (.int .i64 (rd x8_2 3))) = w71 at n0_ n1_ n2_ n3_ n4_ ⊢
              have HO_4 := n0_
              have HO_8 := n1_
              have BK194 := n2_
              have BK228 := n3_
              have HB := n4_
              clear n0_ n1_ n2_ n3_ n4_
              replace HO_4 := Aside0.mk (Kd.R_drew HO_4.out)
              replace HO_8 := Aside0.mk (Kd.R_drew HO_8.out)
              replace BK194 := Aside0.mk (blk_drew BK194.out)
              replace BK228 := Aside0.mk (blk_drew BK228.out)
              replace HB := Aside0.mk (below_drew1 HB.out)
              have p230 : 0 ≤ (0 : Int) := (by omega)
              have q230 : 0 < (t195.length : Int) := od_
              obtain ⟨ad230, e230, hx230_0⟩ := Kd.at_string (Kd.R_reads' HO_4.out).2.2 0 p230 q230
              obtain rfl : ad198 = ad230 := (by injection e230)
              have qi230 : (0 < t195.length) = True := eq_true (by omega)
              (try rw [show ((0 : Int)).toNat = 0 from rfl] at hx230_0)
              (try rw [Addr.add_zero'] at hx230_0)
              replace p230 := eq_true p230
              replace q230 := eq_true q230
              refine start_ (n := 10) (S := fun w' => w'.cell? ⟨gb228, 0, none⟩ = some (.int .i64 x13_3) ∧ w'.cell? ⟨gb228, 1, none⟩ = some (.int .i64 (rd x8_2 0)) ∧ w'.cell? ⟨gb228, 2, none⟩ = some (.int .i64 (rd x8_2 1)) ∧ w'.cell? ⟨gb228, 3, none⟩ = some (.int .i64 (rd x8_2 2)) ∧ w'.cell? ⟨gb228, 4, none⟩ = some (.int .i64 (rd x8_2 3)) ∧ w'.cell? ad198 = some (.string (rdOf ByteArray.empty t195 0))) (ds := []) #[f_,f_,f_,f_,f_,f_,f_,f_,f_,f_] (by kernel_rfl) rfl rfl ⟨(blk_cell BK228.out 0).trans rfl, (blk_cell BK228.out 1).trans rfl, (blk_cell BK228.out 2).trans rfl, (blk_cell BK228.out 3).trans rfl, (blk_cell BK228.out 4).trans rfl, hx230_0⟩ (fun hHeld => ?_); refine with_tabW impl_ReadArea.tab23 impl_ReadArea.bits23 (fun HT_ HW_ => ?_)
              generalize w71.drew = w72 at HO_4 HO_8 BK194 BK228 HB hx230_0 hHeld ⊢
              refine pu_ 0 91 #[t_,f_,f_,f_,f_,f_,f_,f_,f_,f_] HT_.out ?_
              refine pu_ 2 93 #[t_,f_,t_,f_,f_,f_,f_,f_,f_,f_] HT_.out ?_
              refine pu_ 3 94 #[t_,f_,t_,t_,f_,f_,f_,f_,f_,f_] HT_.out ?_
              refine take_ (i := 4) (N := some 95) (v := ?_) (a' := ?_) #[t_,f_,t_,t_,t_,f_,f_,f_,f_,f_] rfl rfl (take_ofW HT_.out HW_.out (by kernel_rfl)) (fun _ _ _ h => h) (Or.inl ⟨by rfl, ?_⟩) hHeld ?_ ?_
              rotate_left
              ·rintro w' ⟨s0, s1, s2, s3, s4, s5⟩
               go_simp
               with_reducible rfl
              rotate_left
              ·simp only [pz_]
               rfl
              refine one_ (i := 1) (N := some 92) #[t_,t_,t_,t_,t_,f_,f_,f_,f_,f_] rfl rfl (one_of HT_.out (by kernel_rfl)) (by decide) (fun K hK => ?_)
              refine goes_ Try.func163 (by kernel_rfl) rfl #[.int .i64 x13_3] (by rfl) rfl rfl ag_ ?_
              with_reducible refine (impl_kindWord.calls x13_3 t229 _ A53.out).mono ?_
              rintro e w' ⟨rfl, ⟨nd, rfl⟩⟩
              refine ⟨_, rfl, ?_⟩
              refine hK.out _ _ ⟨(blk_cell BK228.out 0).trans rfl, (blk_cell BK228.out 1).trans rfl, (blk_cell BK228.out 2).trans rfl, (blk_cell BK228.out 3).trans rfl, (blk_cell BK228.out 4).trans rfl, hHeld.2.2.2.2.2⟩ (fun hHeld => ?_)
              clear hK K
              refine norm_ (a' := ?_) ?_ ?_
              rotate_left
              ·show Act.put _ (some 92) _ = _
               simp only [pz_]
               rfl
              refine pu_ 5 96 #[t_,t_,t_,t_,t_,t_,f_,f_,f_,f_] HT_.out ?_
              refine pu_ 6 97 #[t_,t_,t_,t_,t_,t_,t_,f_,f_,f_] HT_.out ?_
              refine take_ (i := 7) (N := some 98) (v := ?_) (a' := ?_) #[t_,t_,t_,t_,t_,t_,t_,t_,f_,f_] rfl rfl (take_ofW HT_.out HW_.out (by kernel_rfl)) (fun _ _ _ h => h) (Or.inl ⟨by rfl, ?_⟩) hHeld ?_ ?_
              rotate_left
              ·rintro w' ⟨s0, s1, s2, s3, s4, s5⟩
               go_simp
               with_reducible rfl
              rotate_left
              ·simp only [pz_]
               rfl
              refine one_ (i := 8) (N := some 99) #[t_,t_,t_,t_,t_,t_,t_,t_,t_,f_] rfl rfl (one_of HT_.out (by kernel_rfl)) (by decide) (fun K hK => ?_)
              refine goes_ Try.func108 (by kernel_rfl) rfl #[.agg #[.int .i64 x13_3, .int .i64 (rd x8_2 0), .int .i64 (rd x8_2 1), .int .i64 (rd x8_2 2), .int .i64 (rd x8_2 3)]] (by rfl) rfl rfl ag_ ?_
              with_reducible refine (impl_IsArea.calls x13_3 (rd x8_2 0) (rd x8_2 1) (rd x8_2 2) (rd x8_2 3) false _ A56.out).mono ?_
              rintro e w73 ⟨rfl, hb⟩
              have HS5_ := (hb.cell (World.block_lt_of_cell? _ _ (hHeld.2.2.2.2.2))).trans (hHeld.2.2.2.2.2)
              refine ⟨_, rfl, ?_⟩
              replace HO_4 := Aside0.mk (Kd.R_below (rk_ HO_4.out) hb)
              replace HO_8 := Aside0.mk (Kd.R_below (rk_ HO_8.out) hb)
              replace BK194 := Aside0.mk (blk_below (g := gb194) (o := .cells #[.int .i64 x195000_3, .int .i64 x195001_3, .int .i64 x195002_3, .int .i64 x195003_3, .int .i64 x195004_3] 83 (0, 0)) (r0_ BK194.out) hb)
              replace BK228 := Aside0.mk (blk_below (g := gb228) (o := .cells #[.int .i64 x13_3, .int .i64 (rd x8_2 0), .int .i64 (rd x8_2 1), .int .i64 (rd x8_2 2), .int .i64 (rd x8_2 3)] 83 (0, 0)) (r0_ BK228.out) hb)
              replace HB := Aside0.mk (below_step (r5_ HB.out GE194.out GE228.out) hb)
              (try clear hb)
              (try clear hb2)
              (try clear hk)
              (try clear hi)
              refine hK.out _ _ ⟨(blk_cell BK228.out 0).trans rfl, (blk_cell BK228.out 1).trans rfl, (blk_cell BK228.out 2).trans rfl, (blk_cell BK228.out 3).trans rfl, (blk_cell BK228.out 4).trans rfl, HS5_⟩ (fun hHeld => ?_)
              clear hK K
              refine norm_ (a' := ?_) ?_ ?_
              rotate_left
              ·show Act.put _ (some 99) _ = _
               simp only [pz_]
               rfl
              refine pu_ 9 100 #[t_,t_,t_,t_,t_,t_,t_,t_,t_,t_] HT_.out ?_
              refine done_ (done_of HT_.out (by kernel_rfl)) ?_
              try go_wp2
              go_roundg k3
              case measure => have := HJ10.out; have := HK2.out; have := HK3.out; omega
              case rel => exact ⟨(wrap64 (x13_3 + 1)), (x195000_3), (x195001_3), (x195002_3), (x195003_3), (x195004_3), (by first | rfl | (simp; done) | (simp [*]; done)), H', ⟨by have := HJ10.out; have := HK2.out; have := HK3.out; omega⟩, ⟨rk_ HO_4.out⟩, ⟨rk_ HO_8.out⟩, ⟨r0_ BK194.out⟩, ⟨r5_ HB.out GE194.out GE228.out⟩⟩
            ·rw [if_neg c55] at H
             have c55b0 : (t229.toList == (rdOf ByteArray.empty t195 0).toList) = false := beq_eq_false_iff_ne.mpr c55
             have c55b1 : (t229.toList != (rdOf ByteArray.empty t195 0).toList) = true := bne_iff_ne.mpr c55
             have H' := Aside0.mk H
             clear H
             have p224 : 0 ≤ (0 : Int) := (by omega)
             have q224 : 0 < (x8_2.length : Int) := od_
             obtain ⟨ad224, e224, hx224_0⟩ := Kd.at_int (Kd.R_reads' HO_8.out).2.2 0 p224 (by omega)
             cases e224
             have qi224 : (0 < x8_2.length) = True := eq_true (by omega)
             replace hx224_0 := (show World.cell? _ ⟨g211, 0, none⟩ = _ from hx224_0)
             replace p224 := eq_true p224
             replace q224 := eq_true q224
             have p225 : 0 ≤ (1 : Int) := (by omega)
             have q225 : 1 < (x8_2.length : Int) := od_
             obtain ⟨ad225, e225, hx225_0⟩ := Kd.at_int (Kd.R_reads' HO_8.out).2.2 1 p225 (by omega)
             obtain rfl : (⟨g211, 0, none⟩ : Addr) = ad225 := (by injection e225)
             have qi225 : (1 < x8_2.length) = True := eq_true (by omega)
             replace hx225_0 := (show World.cell? _ ⟨g211, 1, none⟩ = _ from hx225_0)
             replace p225 := eq_true p225
             replace q225 := eq_true q225
             have p226 : 0 ≤ (2 : Int) := (by omega)
             have q226 : 2 < (x8_2.length : Int) := od_
             obtain ⟨ad226, e226, hx226_0⟩ := Kd.at_int (Kd.R_reads' HO_8.out).2.2 2 p226 (by omega)
             obtain rfl : (⟨g211, 0, none⟩ : Addr) = ad226 := (by injection e226)
             have qi226 : (2 < x8_2.length) = True := eq_true (by omega)
             replace hx226_0 := (show World.cell? _ ⟨g211, 2, none⟩ = _ from hx226_0)
             replace p226 := eq_true p226
             replace q226 := eq_true q226
             have p227 : 0 ≤ (3 : Int) := (by omega)
             have q227 : 3 < (x8_2.length : Int) := od_
             obtain ⟨ad227, e227, hx227_0⟩ := Kd.at_int (Kd.R_reads' HO_8.out).2.2 3 p227 (by omega)
             obtain rfl : (⟨g211, 0, none⟩ : Addr) = ad227 := (by injection e227)
             have qi227 : (3 < x8_2.length) = True := eq_true (by omega)
             replace hx227_0 := (show World.cell? _ ⟨g211, 3, none⟩ = _ from hx227_0)
             replace p227 := eq_true p227
             replace q227 := eq_true q227
             try go_wp2_with (first | ((with_reducible refine gate_dst (N := 14) rfl ?_); (try (refine gate_guard (by rfl) ?_; dsimp only)); refine box_event ?hg (N := 14) ?hd (cs := #[.int .i64 0, .int .i64 0, .int .i64 0, .int .i64 0, .int .i64 0]) (t := 83) ?hr ?_; (case hd => rfl); (case hg => rfl); (case hr => first | (go_simp; done) | (go_simp; rfl)); intro gb228 hg w75 hbox hb; replace HO_4 := Aside0.mk (Kd.R_below (rk_ HO_4.out) hb); replace HO_8 := Aside0.mk (Kd.R_below (rk_ HO_8.out) hb); have BK228 := Aside0.mk (hbox); have GW228 := Aside0.mk ((by rw [hg]; exact (below_size (r1_ HB.out GE194.out)) : w.heap.size ≤ gb228)); have GE228 := Aside0.mk ((by rw [hg]; exact (below_size (r1_ HB.out GE194.out)) : w.heap.size ≤ gb228)); replace HB := Aside0.mk (below_step (r1_ HB.out GE194.out) hb); have NB194_228 := Aside0.mk ((by rw [hg]; exact Nat.ne_of_lt (blk_lt (g := gb194) (o := .cells #[.int .i64 x195000_3, .int .i64 x195001_3, .int .i64 x195002_3, .int .i64 x195003_3, .int .i64 x195004_3] 83 (0, 0)) (r0_ BK194.out)) : gb194 ≠ gb228)); have NB228_194 := Aside0.mk ((by rw [hg]; exact Nat.ne_of_gt (blk_lt (g := gb194) (o := .cells #[.int .i64 x195000_3, .int .i64 x195001_3, .int .i64 x195002_3, .int .i64 x195003_3, .int .i64 x195004_3] 83 (0, 0)) (r0_ BK194.out)) : gb228 ≠ gb194)); replace BK194 := Aside0.mk (blk_below (g := gb194) (o := .cells #[.int .i64 x195000_3, .int .i64 x195001_3, .int .i64 x195002_3, .int .i64 x195003_3, .int .i64 x195004_3] 83 (0, 0)) (r0_ BK194.out) hb); clear hb hbox hg; have hnb76 := NB228_194.out; have hnc76 := NB194_228.out; have hcz77_0 : w75.cell? ⟨gb228, 0, none⟩ = some (.int .i64 0) := (blk_cell BK228.out 0).trans rfl; have hcz77_1 : w75.cell? ⟨gb228, 1, none⟩ = some (.int .i64 0) := (blk_cell BK228.out 1).trans rfl; have hcz77_2 : w75.cell? ⟨gb228, 2, none⟩ = some (.int .i64 0) := (blk_cell BK228.out 2).trans rfl; have hcz77_3 : w75.cell? ⟨gb228, 3, none⟩ = some (.int .i64 0) := (blk_cell BK228.out 3).trans rfl; have hcz77_4 : w75.cell? ⟨gb228, 4, none⟩ = some (.int .i64 0) := (blk_cell BK228.out 4).trans rfl; have hfz77_0 := blk_frozen BK228.out 0; have hfz77_1 := blk_frozen BK228.out 1; have hfz77_2 := blk_frozen BK228.out 2; have hfz77_3 := blk_frozen BK228.out 3; have hfz77_4 := blk_frozen BK228.out 4))
             have n0_ : Aside0 (Kd.R Kd.string 9 (((((w75.setCell ⟨gb228, 0, none⟩ (.int .i64 x13_3)).setCell ⟨gb228, 1, none⟩ (.int .i64 (rd x8_2 0))).setCell ⟨gb228, 2, none⟩ (.int .i64 (rd x8_2 1))).setCell ⟨gb228, 3, none⟩ (.int .i64 (rd x8_2 2))).setCell ⟨gb228, 4, none⟩ (.int .i64 (rd x8_2 3))) w.heap.size (fun _ => True) (.slice (some ad198) t195.length co14) t195) := ⟨rk_ (Kd.R_mono (Kd.R_far (p := ⟨gb228, 4, none⟩) (Kd.R_far (p := ⟨gb228, 3, none⟩) (Kd.R_far (p := ⟨gb228, 2, none⟩) (Kd.R_far (p := ⟨gb228, 1, none⟩) (Kd.R_far (p := ⟨gb228, 0, none⟩) (Kd.R_types HO_4.out BK228.out (by decide)) (fun _ hk => hk.2) (.int .i64 x13_3)) (fun _ hk => hk.2) (.int .i64 (rd x8_2 0))) (fun _ hk => hk.2) (.int .i64 (rd x8_2 1))) (fun _ hk => hk.2) (.int .i64 (rd x8_2 2))) (fun _ hk => hk.2) (.int .i64 (rd x8_2 3))) (fun _ hk => trivial))⟩
             have n1_ : Aside0 (Kd.R (Kd.int .i64) 185 (((((w75.setCell ⟨gb228, 0, none⟩ (.int .i64 x13_3)).setCell ⟨gb228, 1, none⟩ (.int .i64 (rd x8_2 0))).setCell ⟨gb228, 2, none⟩ (.int .i64 (rd x8_2 1))).setCell ⟨gb228, 3, none⟩ (.int .i64 (rd x8_2 2))).setCell ⟨gb228, 4, none⟩ (.int .i64 (rd x8_2 3))) w.heap.size (fun _ => True) (.slice (some ⟨g211, 0, none⟩) 4 4 : Value) x8_2) := ⟨rk_ (Kd.R_mono (Kd.R_far (p := ⟨gb228, 4, none⟩) (Kd.R_far (p := ⟨gb228, 3, none⟩) (Kd.R_far (p := ⟨gb228, 2, none⟩) (Kd.R_far (p := ⟨gb228, 1, none⟩) (Kd.R_far (p := ⟨gb228, 0, none⟩) (Kd.R_types HO_8.out BK228.out (by decide)) (fun _ hk => hk.2) (.int .i64 x13_3)) (fun _ hk => hk.2) (.int .i64 (rd x8_2 0))) (fun _ hk => hk.2) (.int .i64 (rd x8_2 1))) (fun _ hk => hk.2) (.int .i64 (rd x8_2 2))) (fun _ hk => hk.2) (.int .i64 (rd x8_2 3))) (fun _ hk => trivial))⟩
             have n2_ : Aside0 ((((((w75.setCell ⟨gb228, 0, none⟩ (.int .i64 x13_3)).setCell ⟨gb228, 1, none⟩ (.int .i64 (rd x8_2 0))).setCell ⟨gb228, 2, none⟩ (.int .i64 (rd x8_2 1))).setCell ⟨gb228, 3, none⟩ (.int .i64 (rd x8_2 2))).setCell ⟨gb228, 4, none⟩ (.int .i64 (rd x8_2 3))).heap[gb194]? = some (.cells #[.int .i64 x195000_3, .int .i64 x195001_3, .int .i64 x195002_3, .int .i64 x195003_3, .int .i64 x195004_3] 83 (0, 0))) := ⟨r11_ NB194_228.out BK194.out⟩
             have n3_ : Aside0 ((((((w75.setCell ⟨gb228, 0, none⟩ (.int .i64 x13_3)).setCell ⟨gb228, 1, none⟩ (.int .i64 (rd x8_2 0))).setCell ⟨gb228, 2, none⟩ (.int .i64 (rd x8_2 1))).setCell ⟨gb228, 3, none⟩ (.int .i64 (rd x8_2 2))).setCell ⟨gb228, 4, none⟩ (.int .i64 (rd x8_2 3))).heap[gb228]? = some (.cells #[.int .i64 x13_3, .int .i64 (rd x8_2 0), .int .i64 (rd x8_2 1), .int .i64 (rd x8_2 2), .int .i64 (rd x8_2 3)] 83 (0, 0))) := ⟨by (with_reducible repeat (first | refine blk_drewN ?_ _ | refine blk_drew ?_ | refine blk_alloc ?_ _)); refine blk_put (cs := #[.int .i64 x13_3, .int .i64 (rd x8_2 0), .int .i64 (rd x8_2 1), .int .i64 (rd x8_2 2), .int .i64 0]) ?_ 4 _ rfl; (with_reducible repeat (first | refine blk_drewN ?_ _ | refine blk_drew ?_ | refine blk_alloc ?_ _)); refine blk_put (cs := #[.int .i64 x13_3, .int .i64 (rd x8_2 0), .int .i64 (rd x8_2 1), .int .i64 0, .int .i64 0]) ?_ 3 _ rfl; (with_reducible repeat (first | refine blk_drewN ?_ _ | refine blk_drew ?_ | refine blk_alloc ?_ _)); refine blk_put (cs := #[.int .i64 x13_3, .int .i64 (rd x8_2 0), .int .i64 0, .int .i64 0, .int .i64 0]) ?_ 2 _ rfl; (with_reducible repeat (first | refine blk_drewN ?_ _ | refine blk_drew ?_ | refine blk_alloc ?_ _)); refine blk_put (cs := #[.int .i64 x13_3, .int .i64 0, .int .i64 0, .int .i64 0, .int .i64 0]) ?_ 1 _ rfl; (with_reducible repeat (first | refine blk_drewN ?_ _ | refine blk_drew ?_ | refine blk_alloc ?_ _)); refine blk_put (cs := #[.int .i64 0, .int .i64 0, .int .i64 0, .int .i64 0, .int .i64 0]) ?_ 0 _ rfl; (with_reducible repeat (first | refine blk_drewN ?_ _ | refine blk_drew ?_ | refine blk_alloc ?_ _)); exact BK228.out⟩
             have n4_ : Aside0 (Below w.heap.size w (((((w75.setCell ⟨gb228, 0, none⟩ (.int .i64 x13_3)).setCell ⟨gb228, 1, none⟩ (.int .i64 (rd x8_2 0))).setCell ⟨gb228, 2, none⟩ (.int .i64 (rd x8_2 1))).setCell ⟨gb228, 3, none⟩ (.int .i64 (rd x8_2 2))).setCell ⟨gb228, 4, none⟩ (.int .i64 (rd x8_2 3)))) := ⟨r5_ HB.out GE194.out GE228.out⟩
             (try clear HO_4)
             (try clear HO_8)
             (try clear BK194)
             (try clear BK228)
             (try clear HB)
             generalize (((((w75.setCell ⟨gb228, 0, none⟩ (.int .i64 x13_3)).setCell ⟨gb228, 1, none⟩ (.int .i64 (rd x8_2 0))).setCell ⟨gb228, 2, none⟩ (.int .i64 (rd x8_2 1))).setCell ⟨gb228, 3, none⟩ (.int .i64 (rd x8_2 2))).setCell ⟨gb228, 4, none⟩ (.int .i64 (rd x8_2 3))) = w78 at n0_ n1_ n2_ n3_ n4_ ⊢
             have HO_4 := n0_
             have HO_8 := n1_
             have BK194 := n2_
             have BK228 := n3_
             have HB := n4_
             clear n0_ n1_ n2_ n3_ n4_
             replace HO_4 := Aside0.mk (Kd.R_drew HO_4.out)
             replace HO_8 := Aside0.mk (Kd.R_drew HO_8.out)
             replace BK194 := Aside0.mk (blk_drew BK194.out)
             replace BK228 := Aside0.mk (blk_drew BK228.out)
             replace HB := Aside0.mk (below_drew1 HB.out)
             have p230 : 0 ≤ (0 : Int) := (by omega)
             have q230 : 0 < (t195.length : Int) := od_
             obtain ⟨ad230, e230, hx230_0⟩ := Kd.at_string (Kd.R_reads' HO_4.out).2.2 0 p230 q230
             obtain rfl : ad198 = ad230 := (by injection e230)
             have qi230 : (0 < t195.length) = True := eq_true (by omega)
             (try rw [show ((0 : Int)).toNat = 0 from rfl] at hx230_0)
             (try rw [Addr.add_zero'] at hx230_0)
             replace p230 := eq_true p230
             replace q230 := eq_true q230
             refine start_ (n := 10) (S := fun w' => w'.cell? ad198 = some (.string (rdOf ByteArray.empty t195 0))) (ds := []) #[f_,f_,f_,f_,f_,f_,f_,f_,f_,f_] (by kernel_rfl) rfl rfl (hx230_0) (fun hHeld => ?_); refine with_tabW impl_ReadArea.tab23 impl_ReadArea.bits23 (fun HT_ HW_ => ?_)
             generalize w78.drew = w79 at HO_4 HO_8 BK194 BK228 HB hx230_0 hHeld ⊢
             refine pu_ 0 91 #[t_,f_,f_,f_,f_,f_,f_,f_,f_,f_] HT_.out ?_
             refine pu_ 2 93 #[t_,f_,t_,f_,f_,f_,f_,f_,f_,f_] HT_.out ?_
             refine pu_ 3 94 #[t_,f_,t_,t_,f_,f_,f_,f_,f_,f_] HT_.out ?_
             refine take_ (i := 4) (N := some 95) (v := ?_) (a' := ?_) #[t_,f_,t_,t_,t_,f_,f_,f_,f_,f_] rfl rfl (take_ofW HT_.out HW_.out (by kernel_rfl)) (fun _ _ _ h => h) (Or.inl ⟨by rfl, ?_⟩) hHeld ?_ ?_
             rotate_left
             ·intro w' s0
              go_simp
              with_reducible rfl
             rotate_left
             ·simp only [pz_]
              rfl
             refine one_ (i := 1) (N := some 92) #[t_,t_,t_,t_,t_,f_,f_,f_,f_,f_] rfl rfl (one_of HT_.out (by kernel_rfl)) (by decide) (fun K hK => ?_)
             refine goes_ Try.func163 (by kernel_rfl) rfl #[.int .i64 x13_3] (by rfl) rfl rfl ag_ ?_
             with_reducible refine (impl_kindWord.calls x13_3 t229 _ A53.out).mono ?_
             rintro e w' ⟨rfl, ⟨nd, rfl⟩⟩
             refine ⟨_, rfl, ?_⟩
             refine hK.out _ _ (hHeld) (fun hHeld => ?_)
             clear hK K
             refine norm_ (a' := ?_) ?_ ?_
             rotate_left
             ·show Act.put _ (some 92) _ = _
              simp only [pz_]
              rfl
             refine pu_ 5 96 #[t_,t_,t_,t_,t_,t_,f_,f_,f_,f_] HT_.out ?_
             refine pu_ 6 97 #[t_,t_,t_,t_,t_,t_,t_,f_,f_,f_] HT_.out ?_
             refine un_ 7 98 #[t_,t_,t_,t_,t_,t_,t_,t_,f_,f_] HT_.out ?_
             refine un_ 8 99 #[t_,t_,t_,t_,t_,t_,t_,t_,t_,f_] HT_.out ?_
             refine pu_ 9 100 #[t_,t_,t_,t_,t_,t_,t_,t_,t_,t_] HT_.out ?_
             refine done_ (done_of HT_.out (by kernel_rfl)) ?_
             try go_wp2
             go_roundg k3
             case measure => have := HJ10.out; have := HK2.out; have := HK3.out; omega
             case rel => exact ⟨(wrap64 (x13_3 + 1)), (x195000_3), (x195001_3), (x195002_3), (x195003_3), (x195004_3), (by first | rfl | (simp; done) | (simp [*]; done)), H', ⟨by have := HJ10.out; have := HK2.out; have := HK3.out; omega⟩, ⟨rk_ HO_4.out⟩, ⟨rk_ HO_8.out⟩, ⟨r0_ BK194.out⟩, ⟨r5_ HB.out GE194.out GE228.out⟩⟩
           ·rw [if_neg c48] at H
            have c48b0 : decide (x13_3 ≤ 3) = false := decide_eq_false c48
            clear c48
            simp only [Option.some.injEq, Prod.mk.injEq] at H
            obtain ⟨rfl, rfl, rfl, rfl, rfl, rfl⟩ := H
            have hcz80_0 : wr.cell? ⟨gb194, 0, none⟩ = some (.int .i64 x195000_3) := (blk_cell BK194.out 0).trans rfl
            have hcz80_1 : wr.cell? ⟨gb194, 1, none⟩ = some (.int .i64 x195001_3) := (blk_cell BK194.out 1).trans rfl
            have hcz80_2 : wr.cell? ⟨gb194, 2, none⟩ = some (.int .i64 x195002_3) := (blk_cell BK194.out 2).trans rfl
            have hcz80_3 : wr.cell? ⟨gb194, 3, none⟩ = some (.int .i64 x195003_3) := (blk_cell BK194.out 3).trans rfl
            have hcz80_4 : wr.cell? ⟨gb194, 4, none⟩ = some (.int .i64 x195004_3) := (blk_cell BK194.out 4).trans rfl
            have hfz80_0 := blk_frozen BK194.out 0
            have hfz80_1 := blk_frozen BK194.out 1
            have hfz80_2 := blk_frozen BK194.out 2
            have hfz80_3 := blk_frozen BK194.out 3
            have hfz80_4 := blk_frozen BK194.out 4
            go_wp2
            refine bodyPost_ret (results_ct rfl _ _ gb194 83 #[.int .i64 0, .int .i64 0, .int .i64 0, .int .i64 0, .int .i64 0] (0, 0) _ rfl (by (with_reducible repeat (first | refine blk_drewN ?_ _ | refine blk_drew ?_ | refine blk_alloc ?_ _)); refine blk_put (cs := #[.int .i64 0, .int .i64 0, .int .i64 0, .int .i64 0, .int .i64 x195004_3]) ?_ 4 _ rfl; (with_reducible repeat (first | refine blk_drewN ?_ _ | refine blk_drew ?_ | refine blk_alloc ?_ _)); refine blk_put (cs := #[.int .i64 0, .int .i64 0, .int .i64 0, .int .i64 x195003_3, .int .i64 x195004_3]) ?_ 3 _ rfl; (with_reducible repeat (first | refine blk_drewN ?_ _ | refine blk_drew ?_ | refine blk_alloc ?_ _)); refine blk_put (cs := #[.int .i64 0, .int .i64 0, .int .i64 x195002_3, .int .i64 x195003_3, .int .i64 x195004_3]) ?_ 2 _ rfl; (with_reducible repeat (first | refine blk_drewN ?_ _ | refine blk_drew ?_ | refine blk_alloc ?_ _)); refine blk_put (cs := #[.int .i64 0, .int .i64 x195001_3, .int .i64 x195002_3, .int .i64 x195003_3, .int .i64 x195004_3]) ?_ 1 _ rfl; (with_reducible repeat (first | refine blk_drewN ?_ _ | refine blk_drew ?_ | refine blk_alloc ?_ _)); refine blk_put (cs := #[.int .i64 x195000_3, .int .i64 x195001_3, .int .i64 x195002_3, .int .i64 x195003_3, .int .i64 x195004_3]) ?_ 0 _ rfl; (with_reducible repeat (first | refine blk_drewN ?_ _ | refine blk_drew ?_ | refine blk_alloc ?_ _)); exact BK194.out) Try.underlying83 rfl (by kernel_rfl)) rfl ?_
            exact ⟨by first | rfl | (simp [errW_none, errW_some] <;> rfl) | (simp [*, errW_none, errW_some] <;> rfl), r1_ HB.out GE194.out⟩
  ·rw [if_neg c6] at H
   have c6b0 : ((t199.length : Int) == 2) = false := beq_eq_false_iff_ne.mpr c6
   have c6b1 : ((t199.length : Int) != 2) = true := bne_iff_ne.mpr c6
   simp only [Option.some.injEq, Prod.mk.injEq] at H
   obtain ⟨rfl, rfl, rfl, rfl, rfl, rfl⟩ := H
   go_enter Try.func62, Try.ntmps62
   go_wp2_with (first | ((with_reducible refine gate_dst (N := 2) rfl ?_); (try (refine gate_guard (by rfl) ?_; dsimp only)); refine box_event ?hg (N := 2) ?hd (cs := #[.int .i64 0, .int .i64 0, .int .i64 0, .int .i64 0, .int .i64 0]) (t := 83) ?hr ?_; (case hd => rfl); (case hg => rfl); (case hr => first | (go_simp; done) | (go_simp; rfl)); intro gb194 hg w81 hbox hb; have BK194 := Aside0.mk (hbox); have GW194 := Aside0.mk ((by rw [hg]; exact (below_size (bl_ HB.out)) : w.heap.size ≤ gb194)); have GE194 := Aside0.mk ((by rw [hg]; exact (below_size (bl_ HB.out)) : w.heap.size ≤ gb194)); replace HB := Aside0.mk (below_step (bl_ HB.out) hb); clear hb hbox hg) | ((with_reducible refine gate_callee (f := 161) rfl ?_); refine goesL_ (some 16) rfl rfl Try.func161 (by kernel_rfl) rfl #[.string a0, .int .u8 32] rfl ag_ ?_; (with_reducible refine (impl_splitAt.calls k a0 32 t195 _ A2.out).mono ?_); rintro e w82 ⟨v196, rfl, ho0, hb⟩; refine ⟨_, rfl, ?_⟩; have HO197 := Aside0.mk (Kd.R_lower ho0 (below_size (r1_ HB.out GE194.out))); replace BK194 := Aside0.mk (blk_below (g := gb194) (o := .cells #[.int .i64 0, .int .i64 0, .int .i64 0, .int .i64 0, .int .i64 0] 83 (0, 0)) (r0_ BK194.out) hb); replace HB := Aside0.mk (below_step (r1_ HB.out GE194.out) hb); (try clear hb); (try clear hb2); (try clear hk); (try clear hi); (try clear ho0); obtain ⟨Ao83, co83, eo83⟩ := Kd.R_slice HO197.out; subst eo83; have p198 : 0 ≤ (1 : Int) := (by omega); have q198 : 1 < (t195.length : Int) := od_; obtain ⟨ad198, e198, hx198_0⟩ := Kd.at_string (Kd.R_reads' HO197.out).2.2 1 p198 q198; cases e198; (try simp only [show (1 : Int).toNat = 1 from rfl, Nat.reduceMul, Nat.reduceEqDiff, Go.Addr.add, ↓reduceIte] at hx198_0); have qi198 : (1 < t195.length) = True := eq_true (by omega); (try rw [show ((1 : Int)).toNat = 1 from rfl] at hx198_0); replace p198 := eq_true p198; replace q198 := eq_true q198) | ((with_reducible refine gate_callee (f := 161) rfl ?_); refine goesL_ (some 24) rfl rfl Try.func161 (by kernel_rfl) rfl #[.string (rdOf ByteArray.empty t195 1), .int .u8 43] rfl ag_ ?_; (with_reducible refine (impl_splitAt.calls k (rdOf ByteArray.empty t195 1) 43 t199 _ A5.out).mono ?_); rintro e w84 ⟨v200, rfl, ho0, hb⟩; refine ⟨_, rfl, ?_⟩; have HO201 := Aside0.mk (Kd.R_lower (Kd.R_new' ho0 (Kd.R_lt (rk_ HO197.out))) (below_size (r1_ HB.out GE194.out))); replace HO197 := Aside0.mk (Kd.R_elder' (rk_ HO197.out) (Kd.R_base ho0) hb); replace BK194 := Aside0.mk (blk_below (g := gb194) (o := .cells #[.int .i64 0, .int .i64 0, .int .i64 0, .int .i64 0, .int .i64 0] 83 (0, 0)) (r0_ BK194.out) hb); replace HB := Aside0.mk (below_step (r1_ HB.out GE194.out) hb); (try clear hb); (try clear hb2); (try clear hk); (try clear hi); (try clear ho0); obtain ⟨Ao85, co85, eo85⟩ := Kd.R_slice HO201.out; subst eo85; have hcz86_0 : w84.cell? ⟨gb194, 0, none⟩ = some (.int .i64 0) := (blk_cell BK194.out 0).trans rfl; have hcz86_1 : w84.cell? ⟨gb194, 1, none⟩ = some (.int .i64 0) := (blk_cell BK194.out 1).trans rfl; have hcz86_2 : w84.cell? ⟨gb194, 2, none⟩ = some (.int .i64 0) := (blk_cell BK194.out 2).trans rfl; have hcz86_3 : w84.cell? ⟨gb194, 3, none⟩ = some (.int .i64 0) := (blk_cell BK194.out 3).trans rfl; have hcz86_4 : w84.cell? ⟨gb194, 4, none⟩ = some (.int .i64 0) := (blk_cell BK194.out 4).trans rfl; have hfz86_0 := blk_frozen BK194.out 0; have hfz86_1 := blk_frozen BK194.out 1; have hfz86_2 := blk_frozen BK194.out 2; have hfz86_3 := blk_frozen BK194.out 3; have hfz86_4 := blk_frozen BK194.out 4))
   refine bodyPost_ret (results_ct rfl _ _ gb194 83 #[.int .i64 0, .int .i64 0, .int .i64 0, .int .i64 0, .int .i64 0] (0, 0) _ rfl (r12_ BK194.out) Try.underlying83 rfl (by kernel_rfl)) rfl ?_
   exact ⟨by first | rfl | (simp [errW_none, errW_some] <;> rfl) | (simp [*, errW_none, errW_some] <;> rfl), r1_ HB.out GE194.out⟩
 ·rw [if_neg c3] at H
  have c3b0 : ((t195.length : Int) == 2) = false := beq_eq_false_iff_ne.mpr c3
  have c3b1 : ((t195.length : Int) != 2) = true := bne_iff_ne.mpr c3
  simp only [Option.some.injEq, Prod.mk.injEq] at H
  obtain ⟨rfl, rfl, rfl, rfl, rfl, rfl⟩ := H
  go_enter Try.func62, Try.ntmps62
  go_wp2_with (first | ((with_reducible refine gate_dst (N := 2) rfl ?_); (try (refine gate_guard (by rfl) ?_; dsimp only)); refine box_event ?hg (N := 2) ?hd (cs := #[.int .i64 0, .int .i64 0, .int .i64 0, .int .i64 0, .int .i64 0]) (t := 83) ?hr ?_; (case hd => rfl); (case hg => rfl); (case hr => first | (go_simp; done) | (go_simp; rfl)); intro gb194 hg w87 hbox hb; have BK194 := Aside0.mk (hbox); have GW194 := Aside0.mk ((by rw [hg]; exact (below_size (bl_ HB.out)) : w.heap.size ≤ gb194)); have GE194 := Aside0.mk ((by rw [hg]; exact (below_size (bl_ HB.out)) : w.heap.size ≤ gb194)); replace HB := Aside0.mk (below_step (bl_ HB.out) hb); clear hb hbox hg) | ((with_reducible refine gate_callee (f := 161) rfl ?_); refine goesL_ (some 16) rfl rfl Try.func161 (by kernel_rfl) rfl #[.string a0, .int .u8 32] rfl ag_ ?_; (with_reducible refine (impl_splitAt.calls k a0 32 t195 _ A2.out).mono ?_); rintro e w88 ⟨v196, rfl, ho0, hb⟩; refine ⟨_, rfl, ?_⟩; have HO197 := Aside0.mk (Kd.R_lower ho0 (below_size (r1_ HB.out GE194.out))); replace BK194 := Aside0.mk (blk_below (g := gb194) (o := .cells #[.int .i64 0, .int .i64 0, .int .i64 0, .int .i64 0, .int .i64 0] 83 (0, 0)) (r0_ BK194.out) hb); replace HB := Aside0.mk (below_step (r1_ HB.out GE194.out) hb); (try clear hb); (try clear hb2); (try clear hk); (try clear hi); (try clear ho0); obtain ⟨Ao89, co89, eo89⟩ := Kd.R_slice HO197.out; subst eo89; have hcz90_0 : w88.cell? ⟨gb194, 0, none⟩ = some (.int .i64 0) := (blk_cell BK194.out 0).trans rfl; have hcz90_1 : w88.cell? ⟨gb194, 1, none⟩ = some (.int .i64 0) := (blk_cell BK194.out 1).trans rfl; have hcz90_2 : w88.cell? ⟨gb194, 2, none⟩ = some (.int .i64 0) := (blk_cell BK194.out 2).trans rfl; have hcz90_3 : w88.cell? ⟨gb194, 3, none⟩ = some (.int .i64 0) := (blk_cell BK194.out 3).trans rfl; have hcz90_4 : w88.cell? ⟨gb194, 4, none⟩ = some (.int .i64 0) := (blk_cell BK194.out 4).trans rfl; have hfz90_0 := blk_frozen BK194.out 0; have hfz90_1 := blk_frozen BK194.out 1; have hfz90_2 := blk_frozen BK194.out 2; have hfz90_3 := blk_frozen BK194.out 3; have hfz90_4 := blk_frozen BK194.out 4))
  refine bodyPost_ret (results_ct rfl _ _ gb194 83 #[.int .i64 0, .int .i64 0, .int .i64 0, .int .i64 0, .int .i64 0] (0, 0) _ rfl (r12_ BK194.out) Try.underlying83 rfl (by kernel_rfl)) rfl ?_
  exact ⟨by first | rfl | (simp [errW_none, errW_some] <;> rfl) | (simp [*, errW_none, errW_some] <;> rfl), r1_ HB.out GE194.out⟩
end Go.Proofs.Ytedcdhnbceaaeaa.PFnAreaTexts
