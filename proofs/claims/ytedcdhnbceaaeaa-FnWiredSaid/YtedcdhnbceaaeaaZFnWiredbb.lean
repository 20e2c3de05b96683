/- QFnWirede of the law FnWired: taken over, declaration by declaration, as far as the law leans on it (the words and the printed functions are the kit's own print). No condition but what each says. -/
import Derived.Test.YtedcdhnbceaaeaaZFnWiredav
import Derived.Test.YtedcdhnbceaaeaaZFnWiredaw
import Derived.Test.YtedcdhnbceaaeaaZFnWiredba
namespace Go.Proofs.Ytedcdhnbceaaeaa.PFnWired
open Go.RowKit Go.Proofs.YtedcdhnbceaaeaaW.PrintWords Go.Proofs.YtedcdhnbceaaeaaW.PrintLast Go.Proofs.YtedcdhnbceaaeaaW.PrintMore
attribute [local go_sem] max2_int min2_int max_two min_two max_three min_three max_four min_four   -- for this text's walks alone
set_option linter.unusedVariables false
set_option linter.unusedSimpArgs false
open Bool renaming true → t_, false → f_
def impl_wireOf.l0 : Nat → Int → List (S160) → Int → Int → Option (Int)
 | 0, _, _, _, _ => none
 | k + 1, x1, x7, x8, x9 => if x9 < x8 then (if 0 ≤ x9 then (if x9 < (x7.length : Int) then (if ((rd_T160 x7 x9).f0) = x1 then (some x9) else (impl_wireOf.l0 k x1 x7 x8 (wrap64 (x9 + 1)))) else (none)) else (none)) else (some (-1))
def impl_wireOf.f (k : Nat) (l0 : List (S160)) (a1 : Int) : Option (Int) := impl_wireOf.l0 k a1 l0 (l0.length : Int) 0
set_option maxHeartbeats 8000000 in
set_option maxRecDepth 100000 in
theorem impl_wireOf.calls (k : Nat) (A0 : Option Addr) (c0 : Nat) (l0 : List (S160)) (a1 : Int) (r : Int) (w : World) (hr0 : Kd.C k160 w A0 l0.length l0) (hc0 : l0.length ≤ c0) (h : impl_wireOf.f k l0 a1 = some r) :
  Calls Try.prog 132 #[.slice A0 l0.length c0, .int .i64 a1] w fun e w' => e = .returned (.int .i64 r) ∧ Below w.heap.size w w' := by
 have hu160 := Try.underlying160
 have HR0 := Aside0.mk hr0
 have HC0 := Aside0.mk hc0
 clear hr0 hc0
 have HB := Aside0.mk (Below.refl w.heap.size w)
 have H : (impl_wireOf.l0 k a1 l0 (l0.length : Int) 0) = some r := h
 clear h
 have H' := Aside0.mk H
 clear H
 go_enter Try.func132, Try.ntmps132
 go_wp2
 go_loopg [9] k (fun kq v9 w' => ∃ (x9_1 : Int), v9 = .int .i64 x9_1 ∧ Aside0 (impl_wireOf.l0 kq a1 l0 (l0.length : Int) x9_1 = some r) ∧ Aside0 (kq ≤ k) ∧ Aside0 (Below w.heap.size w w'))
 case atStart => exact ⟨(0), (by first | rfl | (simp; done) | (simp [*]; done)), H', ⟨Nat.le_refl _⟩, ⟨bl_ HB.out⟩⟩
 case round =>
  clear H'
  try clear c1
  try clear p2
  obtain ⟨x9_1, rfl, HA, HK1, HB⟩ := hrel
  cases gk with
  | zero => exact absurd HA.out (by simp [impl_wireOf.l0])
  | succ k1 =>
   have H := HA.out
   clear HA
   simp only [impl_wireOf.l0] at H
   by_cases c3 : x9_1 < (l0.length : Int)
   ·rw [if_pos c3] at H
    have c3b0 : decide (x9_1 < (l0.length : Int)) = true := decide_eq_true c3
    clear c3
    by_cases c4 : 0 ≤ x9_1
    case neg =>
     rw [if_neg c4] at H
     exact absurd H (by simp)
    rw [if_pos c4] at H
    have c4b0 : decide (0 ≤ x9_1) = true := decide_eq_true c4
    clear c4
    by_cases c5 : x9_1 < (l0.length : Int)
    case neg =>
     rw [if_neg c5] at H
     exact absurd H (by simp)
    rw [if_pos c5] at H
    have c5b0 : decide (x9_1 < (l0.length : Int)) = true := decide_eq_true c5
    clear c5
    by_cases c6 : ((rd_T160 l0 x9_1).f0) = a1
    ·rw [if_pos c6] at H
     have c6b0 : (((rd_T160 l0 x9_1).f0) == a1) = true := beq_iff_eq.mpr c6
     have c6b1 : (((rd_T160 l0 x9_1).f0) != a1) = false := bne_eq_false_iff_eq.mpr c6
     clear c6
     obtain rfl := Option.some.inj H
     have p293 : 0 ≤ (x9_1 : Int) := od_
     have q293 : x9_1 < (l0.length : Int) := od_
     obtain ⟨ad293, e293, hx293_0, hx293_1, hx293_2⟩ := at_T160 HR0.out x9_1 p293 q293
     cases e293
     replace hx293_0 := bc_ HB.out hx293_0
     replace hx293_1 := bc_ HB.out hx293_1
     replace hx293_2 := bc_ HB.out hx293_2
     replace p293 := eq_true p293
     replace q293 := eq_true q293
     go_wp2_with (first | ((with_reducible refine gate_dst (N := 6) rfl ?_); refine box_event ?hg (N := 6) ?hd (cs := #[.int .i64 0, .int .i64 0, .int .i64 0]) (t := 160) ?hr ?_; (case hd => rfl); (case hg => rfl); (case hr => first | (go_simp; done) | (go_simp; rfl)); intro gb294 hg w7 hbox hb; have BK294 := Aside0.mk (hbox); have GW294 := Aside0.mk ((by rw [hg]; exact (below_size (bl_ HB.out)) : w.heap.size ≤ gb294)); have GE294 := Aside0.mk ((by rw [hg]; exact (below_size (bl_ HB.out)) : w.heap.size ≤ gb294)); replace HB := Aside0.mk (below_step (bl_ HB.out) hb); clear hb hbox hg; have hcz8_0 : w7.cell? ⟨gb294, 0, none⟩ = some (.int .i64 0) := (blk_cell BK294.out 0).trans rfl; have hcz8_1 : w7.cell? ⟨gb294, 1, none⟩ = some (.int .i64 0) := (blk_cell BK294.out 1).trans rfl; have hcz8_2 : w7.cell? ⟨gb294, 2, none⟩ = some (.int .i64 0) := (blk_cell BK294.out 2).trans rfl; have hfz8_0 := blk_frozen BK294.out 0; have hfz8_1 := blk_frozen BK294.out 1; have hfz8_2 := blk_frozen BK294.out 2))
     go_ret
     exact ⟨by first | rfl | (simp [errW_none, errW_some] <;> rfl) | (simp [*, errW_none, errW_some] <;> rfl), r4_ HB.out GE294.out⟩
    ·rw [if_neg c6] at H
     have c6b0 : (((rd_T160 l0 x9_1).f0) == a1) = false := beq_eq_false_iff_ne.mpr c6
     have c6b1 : (((rd_T160 l0 x9_1).f0) != a1) = true := bne_iff_ne.mpr c6
     have H' := Aside0.mk H
     clear H
     have p293 : 0 ≤ (x9_1 : Int) := od_
     have q293 : x9_1 < (l0.length : Int) := od_
     obtain ⟨ad293, e293, hx293_0, hx293_1, hx293_2⟩ := at_T160 HR0.out x9_1 p293 q293
     cases e293
     replace hx293_0 := bc_ HB.out hx293_0
     replace hx293_1 := bc_ HB.out hx293_1
     replace hx293_2 := bc_ HB.out hx293_2
     replace p293 := eq_true p293
     replace q293 := eq_true q293
     go_wp2_with (first | ((with_reducible refine gate_dst (N := 6) rfl ?_); refine box_event ?hg (N := 6) ?hd (cs := #[.int .i64 0, .int .i64 0, .int .i64 0]) (t := 160) ?hr ?_; (case hd => rfl); (case hg => rfl); (case hr => first | (go_simp; done) | (go_simp; rfl)); intro gb294 hg w9 hbox hb; have BK294 := Aside0.mk (hbox); have GW294 := Aside0.mk ((by rw [hg]; exact (below_size (bl_ HB.out)) : w.heap.size ≤ gb294)); have GE294 := Aside0.mk ((by rw [hg]; exact (below_size (bl_ HB.out)) : w.heap.size ≤ gb294)); replace HB := Aside0.mk (below_step (bl_ HB.out) hb); clear hb hbox hg; have hcz10_0 : w9.cell? ⟨gb294, 0, none⟩ = some (.int .i64 0) := (blk_cell BK294.out 0).trans rfl; have hcz10_1 : w9.cell? ⟨gb294, 1, none⟩ = some (.int .i64 0) := (blk_cell BK294.out 1).trans rfl; have hcz10_2 : w9.cell? ⟨gb294, 2, none⟩ = some (.int .i64 0) := (blk_cell BK294.out 2).trans rfl; have hfz10_0 := blk_frozen BK294.out 0; have hfz10_1 := blk_frozen BK294.out 1; have hfz10_2 := blk_frozen BK294.out 2))
     go_roundg k1
     case measure => have := HK1.out; omega
     case rel => exact ⟨(wrap64 (x9_1 + 1)), (by first | rfl | (simp; done) | (simp [*]; done)), H', ⟨by have := HK1.out; omega⟩, ⟨r4_ HB.out GE294.out⟩⟩
   ·rw [if_neg c3] at H
    have c3b0 : decide (x9_1 < (l0.length : Int)) = false := decide_eq_false c3
    clear c3
    obtain rfl := Option.some.inj H
    go_wp2
    go_ret
    exact ⟨by first | rfl | (simp [errW_none, errW_some] <;> rfl) | (simp [*, errW_none, errW_some] <;> rfl), bl_ HB.out⟩
def impl_looseCues.l0 : Nat → Int → List (S160) → List Int → Int → Option (List Int)
 | 0, _, _, _, _ => none
 | k + 1, x0, x1, x5, x6 => if x6 < x0 then ((impl_wireOf.f k x1 x6).bind fun t295 => (if t295 < 0 then (if x5.length < 17592186044416 then (impl_looseCues.l0 k x0 x1 (x5 ++ [x6]) (wrap64 (x6 + 1))) else (none)) else (impl_looseCues.l0 k x0 x1 x5 (wrap64 (x6 + 1))))) else (some x5)
def impl_looseCues.f (k : Nat) (a0 : Int) (l1 : List (S160)) : Option (List Int) := impl_looseCues.l0 k a0 l1 ([] : List Int) 0
set_option maxHeartbeats 8000000 in
set_option maxRecDepth 100000 in
theorem impl_looseCues.calls (k : Nat) (a0 : Int) (A1 : Option Addr) (c1 : Nat) (l1 : List (S160)) (r : List Int) (w : World) (hr1 : Kd.C k160 w A1 l1.length l1) (hc1 : l1.length ≤ c1) (h : impl_looseCues.f k a0 l1 = some r) :
  Calls Try.prog 124 #[.int .i64 a0, .slice A1 l1.length c1] w fun e w' => ∃ v0_ : Value, e = .returned (v0_) ∧ Kd.R (Kd.int .i64) 2 w' w.heap.size (fun _ => True) v0_ r ∧ Below w.heap.size w w' := by
 have HR1 := Aside0.mk hr1
 have HC1 := Aside0.mk hc1
 clear hr1 hc1
 have HB := Aside0.mk (Below.refl w.heap.size w)
 have H : (impl_looseCues.l0 k a0 l1 ([] : List Int) 0) = some r := h
 clear h
 have H' := Aside0.mk H
 clear H
 go_enter Try.func124, Try.ntmps124
 go_wp2
 go_loopg [5, 6] k (fun kq v5 v6 w' => ∃ (x5_1 : List Int) (x6_1 : Int), v6 = .int .i64 x6_1 ∧ Aside0 (impl_looseCues.l0 kq a0 l1 x5_1 x6_1 = some r) ∧ Aside0 (kq ≤ k) ∧ Aside0 (Kd.R (Kd.int .i64) 2 w' w.heap.size (fun _ => True) v5 x5_1) ∧ Aside0 (Below w.heap.size w w'))
 case atStart => exact ⟨(([] : List Int)), (0), (by first | rfl | (simp; done) | (simp [*]; done)), H', ⟨Nat.le_refl _⟩, ⟨by first | exact Kd.R_nil _ _ _ _ _ | exact Kd.N_nil _ _ _ _ _ | exact Kd.V_nil _ _ _ _ _ | exact Kd.Q_nil _ _ _ _ _ | exact Kd.S_nil _ _ _ _ _⟩, ⟨bl_ HB.out⟩⟩
 case round =>
  clear H'
  try clear c1
  try clear p2
  obtain ⟨x5_1, x6_1, rfl, HA, HK1, HO_5, HB⟩ := hrel
  cases gk with
  | zero => exact absurd HA.out (by simp [impl_looseCues.l0])
  | succ k1 =>
   have H := HA.out
   clear HA
   simp only [impl_looseCues.l0] at H
   by_cases c3 : x6_1 < a0
   ·rw [if_pos c3] at H
    have c3b0 : decide (x6_1 < a0) = true := decide_eq_true c3
    clear c3
    replace H := Option.bind_eq_some_iff.mp H
    obtain ⟨t295, A40, H⟩ := H
    replace H : (if t295 < 0 then (if x5_1.length < 17592186044416 then (impl_looseCues.l0 k1 a0 l1 (x5_1 ++ [x6_1]) (wrap64 (x6_1 + 1))) else (none)) else (impl_looseCues.l0 k1 a0 l1 x5_1 (wrap64 (x6_1 + 1)))) = some r := H
    have A4 := Aside0.mk A40
    clear A40
    by_cases c5 : t295 < 0
    ·rw [if_pos c5] at H
     have c5b0 : decide (t295 < 0) = true := decide_eq_true c5
     clear c5
     by_cases c6 : x5_1.length < 17592186044416
     case neg =>
      rw [if_neg c6] at H
      exact absurd H (by simp)
     rw [if_pos c6] at H
     have LMc6 := Aside0.mk c6
     clear c6
     obtain ⟨y296, hy296⟩ : ∃ y_ : List Int, y_ = (x5_1 ++ [x6_1]) := ⟨_, rfl⟩
     replace H : (impl_looseCues.l0 k1 a0 l1 y296 (wrap64 (x6_1 + 1))) = some r := by first | (rw [hy296]; with_reducible exact H) | (have H2_ := (Option.bind_some _ _).symm.trans H; rw [hy296]; with_reducible exact H2_) | (have H2_ := (Option.bind_some _ _).symm.trans H; with_reducible exact H2_) | with_reducible exact H | (rw [hy296]; exact H) | exact H
     have Ny296 := Aside0.mk hy296
     clear hy296
     have H' := Aside0.mk H
     clear H
     go_wp2_with (first | ((with_reducible refine gate_callee (f := 132) rfl ?_); refine goesL_ (some 14) rfl rfl Try.func132 (by kernel_rfl) rfl #[.slice A1 l1.length c1, .int .i64 x6_1] rfl ag_ ?_; (with_reducible refine (impl_wireOf.calls k1 _ _ l1 x6_1 t295 _ ?side1 ?side2 A4.out).mono ?_); (case side1 => exact r5_ HR1.out HB.out); (case side2 => exact HC1.out); rintro e w7 ⟨rfl, hb⟩; refine ⟨_, rfl, ?_⟩; replace HO_5 := Aside0.mk (Kd.R_below (rk_ HO_5.out) hb); replace HB := Aside0.mk (below_step (bl_ HB.out) hb); (try clear hb); (try clear hb2); (try clear hk); (try clear hi)) | ((with_reducible refine gate_builtin (b := .append) (xs := #[.tmp 16, .tmp 18]) rfl ?_); at_builtin; refine Kd.R_append (Kd.int .i64) (w0 := w) w.heap.size rfl (.tmp 16) (.tmp 18) 24 2 (.int .i64 0) 8 rfl Try.underlying24 info2 rfl (by decide) (by omega) u5 x5_1 x6_1 [.int .i64 x6_1] (fun _ => True) (fun _ => False) rfl rfl ?aP (fun _ hk => hk.elim) ?aF ?aO ?aB ?aS ?aL ?_; (case aP => exact rfl); (case aB => exact (bl_ HB.out)); (case aF => exact (fun _ _ => trivial)); (case aO => exact (rk_ HO_5.out)); (case aS => exact (below_size (bl_ HB.out))); (case aL => have := LMc6.out; omega); intro v297 w8 ho hb hg hat; rw [← Ny296.out] at ho; have n0_ := Aside0.mk (hb); have n1_ := Aside0.mk (ho); clear HB; clear HO_5; have HB := n0_; have HO298 := n1_; clear n0_ n1_; clear ho hb hg hat))
     go_roundg k1
     case measure => have := HK1.out; omega
     case rel => exact ⟨(y296), (wrap64 (x6_1 + 1)), (by first | rfl | (simp; done) | (simp [*]; done)), H', ⟨by have := HK1.out; omega⟩, ⟨rk_ HO298.out⟩, ⟨bl_ HB.out⟩⟩
    ·rw [if_neg c5] at H
     have c5b0 : decide (t295 < 0) = false := decide_eq_false c5
     clear c5
     have H' := Aside0.mk H
     clear H
     go_wp2_with (first | ((with_reducible refine gate_callee (f := 132) rfl ?_); refine goesL_ (some 14) rfl rfl Try.func132 (by kernel_rfl) rfl #[.slice A1 l1.length c1, .int .i64 x6_1] rfl ag_ ?_; (with_reducible refine (impl_wireOf.calls k1 _ _ l1 x6_1 t295 _ ?side1 ?side2 A4.out).mono ?_); (case side1 => exact r5_ HR1.out HB.out); (case side2 => exact HC1.out); rintro e w9 ⟨rfl, hb⟩; refine ⟨_, rfl, ?_⟩; replace HO_5 := Aside0.mk (Kd.R_below (rk_ HO_5.out) hb); replace HB := Aside0.mk (below_step (bl_ HB.out) hb); (try clear hb); (try clear hb2); (try clear hk); (try clear hi)))
     go_roundg k1
     case measure => have := HK1.out; omega
     case rel => exact ⟨(x5_1), (wrap64 (x6_1 + 1)), (by first | rfl | (simp; done) | (simp [*]; done)), H', ⟨by have := HK1.out; omega⟩, ⟨rk_ HO_5.out⟩, ⟨bl_ HB.out⟩⟩
   ·rw [if_neg c3] at H
    have c3b0 : decide (x6_1 < a0) = false := decide_eq_false c3
    clear c3
    obtain rfl := Option.some.inj H
    go_wp2
    go_ret
    exact ⟨_, by first | rfl | (simp [errW_none, errW_some] <;> rfl) | (simp [*, errW_none, errW_some] <;> rfl), rk_ HO_5.out, bl_ HB.out⟩
def impl_freePins.l0 : Nat → List (S200) → List (S160) → Int → List Int → Int → Option (List Int)
 | 0, _, _, _, _, _ => none
 | k + 1, x0, x1, x2, x7, x8 => if 0 ≤ x2 then (if x2 < (x0.length : Int) then (if x8 < ((rd_T200 x0 x2).f1) then ((impl_cueAt.f k x1 x2 x8).bind fun t300 => (if t300 < 0 then (if x7.length < 17592186044416 then (impl_freePins.l0 k x0 x1 x2 (x7 ++ [x8]) (wrap64 (x8 + 1))) else (none)) else (impl_freePins.l0 k x0 x1 x2 x7 (wrap64 (x8 + 1))))) else (some x7)) else (none)) else (none)
def impl_freePins.f (k : Nat) (l0 : List (S200)) (l1 : List (S160)) (a2 : Int) : Option (List Int) := impl_freePins.l0 k l0 l1 a2 ([] : List Int) 0
set_option maxHeartbeats 8000000 in
set_option maxRecDepth 100000 in
theorem impl_freePins.calls (k : Nat) (A0 : Option Addr) (c0 : Nat) (l0 : List (S200)) (A1 : Option Addr) (c1 : Nat) (l1 : List (S160)) (a2 : Int) (r : List Int) (w : World) (hr0 : Kd.C k200 w A0 l0.length l0) (hc0 : l0.length ≤ c0) (hr1 : Kd.C k160 w A1 l1.length l1) (hc1 : l1.length ≤ c1) (h : impl_freePins.f k l0 l1 a2 = some r) :
  Calls Try.prog 202 #[.slice A0 l0.length c0, .slice A1 l1.length c1, .int .i64 a2] w fun e w' => ∃ v0_ : Value, e = .returned (v0_) ∧ Kd.R (Kd.int .i64) 2 w' w.heap.size (fun _ => True) v0_ r ∧ Below w.heap.size w w' := by
 have HR0 := Aside0.mk hr0
 have HC0 := Aside0.mk hc0
 clear hr0 hc0
 have HR1 := Aside0.mk hr1
 have HC1 := Aside0.mk hc1
 clear hr1 hc1
 have HB := Aside0.mk (Below.refl w.heap.size w)
 have H : (impl_freePins.l0 k l0 l1 a2 ([] : List Int) 0) = some r := h
 clear h
 have H' := Aside0.mk H
 clear H
 go_enter Try.func202, Try.ntmps202
 go_wp2
 go_loopg [7, 8] k (fun kq v7 v8 w' => ∃ (x7_1 : List Int) (x8_1 : Int), v8 = .int .i64 x8_1 ∧ Aside0 (impl_freePins.l0 kq l0 l1 a2 x7_1 x8_1 = some r) ∧ Aside0 (kq ≤ k) ∧ Aside0 (Kd.R (Kd.int .i64) 2 w' w.heap.size (fun _ => True) v7 x7_1) ∧ Aside0 (Below w.heap.size w w'))
 case atStart => exact ⟨(([] : List Int)), (0), (by first | rfl | (simp; done) | (simp [*]; done)), H', ⟨Nat.le_refl _⟩, ⟨by first | exact Kd.R_nil _ _ _ _ _ | exact Kd.N_nil _ _ _ _ _ | exact Kd.V_nil _ _ _ _ _ | exact Kd.Q_nil _ _ _ _ _ | exact Kd.S_nil _ _ _ _ _⟩, ⟨bl_ HB.out⟩⟩
 case round =>
  clear H'
  try clear c1
  try clear c2
  try clear p2
  obtain ⟨x7_1, x8_1, rfl, HA, HK1, HO_7, HB⟩ := hrel
  cases gk with
  | zero => exact absurd HA.out (by simp [impl_freePins.l0])
  | succ k1 =>
   have H := HA.out
   clear HA
   simp only [impl_freePins.l0] at H
   by_cases c4 : 0 ≤ a2
   case neg =>
    rw [if_neg c4] at H
    exact absurd H (by simp)


   rw [if_pos c4] at H
   have c4b0 : decide (0 ≤ a2) = true := decide_eq_true c4
   clear c4
   by_cases c5 : a2 < (l0.length : Int)
   case neg =>
    rw [if_neg c5] at H
    exact absurd H (by simp)
   rw [if_pos c5] at H
   have c5b0 : decide (a2 < (l0.length : Int)) = true := decide_eq_true c5
   clear c5
   by_cases c6 : x8_1 < ((rd_T200 l0 a2).f1)
   ·rw [if_pos c6] at H
    have c6b0 : decide (x8_1 < ((rd_T200 l0 a2).f1)) = true := decide_eq_true c6
    clear c6
    replace H := Option.bind_eq_some_iff.mp H
    obtain ⟨t300, A70, H⟩ := H
    replace H : (if t300 < 0 then (if x7_1.length < 17592186044416 then (impl_freePins.l0 k1 l0 l1 a2 (x7_1 ++ [x8_1]) (wrap64 (x8_1 + 1))) else (none)) else (impl_freePins.l0 k1 l0 l1 a2 x7_1 (wrap64 (x8_1 + 1)))) = some r := H
    have A7 := Aside0.mk A70
    clear A70
    by_cases c8 : t300 < 0
    ·rw [if_pos c8] at H
     have c8b0 : decide (t300 < 0) = true := decide_eq_true c8
     clear c8
     by_cases c9 : x7_1.length < 17592186044416
     case neg =>
      rw [if_neg c9] at H
      exact absurd H (by simp)
     rw [if_pos c9] at H
     have LMc9 := Aside0.mk c9
     clear c9
     obtain ⟨y301, hy301⟩ : ∃ y_ : List Int, y_ = (x7_1 ++ [x8_1]) := ⟨_, rfl⟩
     replace H : (impl_freePins.l0 k1 l0 l1 a2 y301 (wrap64 (x8_1 + 1))) = some r := by first | (rw [hy301]; with_reducible exact H) | (have H2_ := (Option.bind_some _ _).symm.trans H; rw [hy301]; with_reducible exact H2_) | (have H2_ := (Option.bind_some _ _).symm.trans H; with_reducible exact H2_) | with_reducible exact H | (rw [hy301]; exact H) | exact H
     have Ny301 := Aside0.mk hy301
     clear hy301
     have H' := Aside0.mk H
     clear H
     have p299 : 0 ≤ (a2 : Int) := od_
     have q299 : a2 < (l0.length : Int) := od_
     obtain ⟨ad299, e299, hx299_0, hx299_1⟩ := at_T200 HR0.out a2 p299 q299
     cases e299
     replace hx299_0 := bc_ HB.out hx299_0
     replace hx299_1 := bc_ HB.out hx299_1
     replace p299 := eq_true p299
     replace q299 := eq_true q299
     go_wp2_with (first | ((with_reducible refine gate_callee (f := 133) rfl ?_); refine goesL_ (some 21) rfl rfl Try.func133 (by kernel_rfl) rfl #[.slice A1 l1.length c1, .int .i64 a2, .int .i64 x8_1] rfl ag_ ?_; (with_reducible refine (impl_cueAt.calls k1 _ _ l1 a2 x8_1 t300 _ ?side1 ?side2 A7.out).mono ?_); (case side1 => exact r5_ HR1.out HB.out); (case side2 => exact HC1.out); rintro e w10 ⟨rfl, hb⟩; refine ⟨_, rfl, ?_⟩; replace HO_7 := Aside0.mk (Kd.R_below (rk_ HO_7.out) hb); replace HB := Aside0.mk (below_step (bl_ HB.out) hb); (try clear hb); (try clear hb2); (try clear hk); (try clear hi)) | ((with_reducible refine gate_builtin (b := .append) (xs := #[.tmp 23, .tmp 25]) rfl ?_); at_builtin; refine Kd.R_append (Kd.int .i64) (w0 := w) w.heap.size rfl (.tmp 23) (.tmp 25) 24 2 (.int .i64 0) 8 rfl Try.underlying24 info2 rfl (by decide) (by omega) u7 x7_1 x8_1 [.int .i64 x8_1] (fun _ => True) (fun _ => False) rfl rfl ?aP (fun _ hk => hk.elim) ?aF ?aO ?aB ?aS ?aL ?_; (case aP => exact rfl); (case aB => exact (bl_ HB.out)); (case aF => exact (fun _ _ => trivial)); (case aO => exact (rk_ HO_7.out)); (case aS => exact (below_size (bl_ HB.out))); (case aL => have := LMc9.out; omega); intro v302 w11 ho hb hg hat; rw [← Ny301.out] at ho; have n0_ := Aside0.mk (hb); have n1_ := Aside0.mk (ho); clear HB; clear HO_7; have HB := n0_; have HO303 := n1_; clear n0_ n1_; clear ho hb hg hat))
     go_roundg k1
     case measure => have := HK1.out; omega
     case rel => exact ⟨(y301), (wrap64 (x8_1 + 1)), (by first | rfl | (simp; done) | (simp [*]; done)), H', ⟨by have := HK1.out; omega⟩, ⟨rk_ HO303.out⟩, ⟨bl_ HB.out⟩⟩
    ·rw [if_neg c8] at H
     have c8b0 : decide (t300 < 0) = false := decide_eq_false c8
     clear c8
     have H' := Aside0.mk H
     clear H
     have p299 : 0 ≤ (a2 : Int) := od_
     have q299 : a2 < (l0.length : Int) := od_
     obtain ⟨ad299, e299, hx299_0, hx299_1⟩ := at_T200 HR0.out a2 p299 q299
     cases e299
     replace hx299_0 := bc_ HB.out hx299_0
     replace hx299_1 := bc_ HB.out hx299_1
     replace p299 := eq_true p299
     replace q299 := eq_true q299
     go_wp2_with (first | ((with_reducible refine gate_callee (f := 133) rfl ?_); refine goesL_ (some 21) rfl rfl Try.func133 (by kernel_rfl) rfl #[.slice A1 l1.length c1, .int .i64 a2, .int .i64 x8_1] rfl ag_ ?_; (with_reducible refine (impl_cueAt.calls k1 _ _ l1 a2 x8_1 t300 _ ?side1 ?side2 A7.out).mono ?_); (case side1 => exact r5_ HR1.out HB.out); (case side2 => exact HC1.out); rintro e w12 ⟨rfl, hb⟩; refine ⟨_, rfl, ?_⟩; replace HO_7 := Aside0.mk (Kd.R_below (rk_ HO_7.out) hb); replace HB := Aside0.mk (below_step (bl_ HB.out) hb); (try clear hb); (try clear hb2); (try clear hk); (try clear hi)))
     go_roundg k1
     case measure => have := HK1.out; omega
     case rel => exact ⟨(x7_1), (wrap64 (x8_1 + 1)), (by first | rfl | (simp; done) | (simp [*]; done)), H', ⟨by have := HK1.out; omega⟩, ⟨rk_ HO_7.out⟩, ⟨bl_ HB.out⟩⟩
   ·rw [if_neg c6] at H
    have c6b0 : decide (x8_1 < ((rd_T200 l0 a2).f1)) = false := decide_eq_false c6
    clear c6
    obtain rfl := Option.some.inj H
    have p299 : 0 ≤ (a2 : Int) := od_
    have q299 : a2 < (l0.length : Int) := od_
    obtain ⟨ad299, e299, hx299_0, hx299_1⟩ := at_T200 HR0.out a2 p299 q299
    cases e299
    replace hx299_0 := bc_ HB.out hx299_0
    replace hx299_1 := bc_ HB.out hx299_1
    replace p299 := eq_true p299
    replace q299 := eq_true q299
    go_wp2
    go_ret
    exact ⟨_, by first | rfl | (simp [errW_none, errW_some] <;> rfl) | (simp [*, errW_none, errW_some] <;> rfl), rk_ HO_7.out, bl_ HB.out⟩
mutual
def impl_putWire.l0 : Nat → List (S200) → List (S160) → Int → Int → Int → Option ((List (S160)) × Bool)
 | 0, _, _, _, _, _ => none
 | k + 1, x0, x1, x2, x13, x14 => if x14 < x13 then ((impl_freePins.f k x0 x1 x14).bind fun t304 => (if (t304.length : Int) = 0 then (impl_putWire.l0 k x0 x1 x2 x13 (wrap64 (x14 + 1))) else ((some (([] : List (S160)) : List (S160))).bind fun y307 => (if y307.length + x1.length < 5864062014805 then ((some (y307 ++ x1 : List (S160))).bind fun y310 => (if 0 < (t304.length : Int) then ((some (([(⟨x2, x14, rd t304 0⟩ : S160)] : List (S160)) : List (S160))).bind fun y314 => (if y310.length + y314.length < 5864062014805 then ((some (y310 ++ y314 : List (S160))).bind fun y317 => (impl_putWire.l1 k y317 (wrap64 ((y317.length : Int) - 1)))) else (none))) else (none))) else (none))))) else (some (([] : List (S160)), false))
def impl_putWire.l1 : Nat → List (S160) → Int → Option ((List (S160)) × Bool)
 | 0, _, _ => none
 | k + 1, x10, x11 => if x11 > 0 then (if 0 ≤ (wrap64 (x11 - 1)) then (if (wrap64 (x11 - 1)) < (x10.length : Int) then (if 0 ≤ x11 then (if x11 < (x10.length : Int) then (if ((rd_T160 x10 (wrap64 (x11 - 1))).f0) > ((rd_T160 x10 x11).f0) then (impl_putWire.l1 k ((x10.set ((wrap64 (x11 - 1)) : Int).toNat (⟨(rd_T160 x10 x11).f0, (rd_T160 x10 x11).f1, (rd_T160 x10 x11).f2⟩ : S160)).set (x11 : Int).toNat (⟨(rd_T160 x10 (wrap64 (x11 - 1))).f0, (rd_T160 x10 (wrap64 (x11 - 1))).f1, (rd_T160 x10 (wrap64 (x11 - 1))).f2⟩ : S160)) (wrap64 (x11 - 1))) else (some (x10, true))) else (none)) else (none)) else (none)) else (none)) else (some (x10, true))
end
def impl_putWire.f (k : Nat) (l0 : List (S200)) (l1 : List (S160)) (a2 : Int) : Option ((List (S160)) × Bool) := impl_putWire.l0 k l0 l1 a2 (l0.length : Int) 0
def impl_putWire.T6 : Bool × List (List Nat × List Nat) := (true, [([], []), ([], []), ([0, 1], [0, 1]), ([], []), ([], []), ([], []), ([5], [5]), ([6], [6]), ([3, 4, 7], [3, 4, 7]), ([8], [8]), ([2, 9, 2], [2, 9]), ([10, 10, 0, 1, 2, 3, 4, 5, 6, 7, 8, 9, 10], [10])])
def impl_putWire.B6 : List Nat := [0, 0, 3, 0, 0, 0, 32, 96, 248, 504, 1023, 2047]
theorem impl_putWire.tab6 : rtab .any (opsOf Try.f125 6) = impl_putWire.T6 := by kernel_rfl
theorem impl_putWire.bits6 : waitsOk impl_putWire.T6.2 impl_putWire.B6 = true := by kernel_rfl
def impl_putWire.T8 : Bool × List (List Nat × List Nat) := (true, [([], []), ([0], [0]), ([1], [1]), ([2], [2]), ([2], [2]), ([4, 2], [2, 4]), ([3, 5, 2], [2, 3, 5]), ([6, 2], [2, 6]), ([7, 2], [2, 7]), ([2], [2]), ([2], [2]), ([9, 10, 2], [2, 9, 10]), ([11, 2], [2, 11]), ([12, 2], [2, 12]), ([8, 13, 2], [2, 8, 13]), ([2, 14], [2, 14])])
def impl_putWire.B8 : List Nat := [0, 1, 3, 7, 7, 23, 63, 127, 255, 7, 7, 1543, 3591, 7687, 16383, 32767]
theorem impl_putWire.tab8 : rtab .any (opsOf Try.f125 8) = impl_putWire.T8 := by kernel_rfl
theorem impl_putWire.bits8 : waitsOk impl_putWire.T8.2 impl_putWire.B8 = true := by kernel_rfl
def impl_putWire.T10 : Bool × List (List Nat × List Nat) := (true, [([], []), ([], []), ([1], [1]), ([], []), ([], []), ([], []), ([], []), ([5, 6], [5, 6]), ([7], [7]), ([], []), ([], []), ([10], [10]), ([9, 11], [9, 11]), ([12], [12]), ([0, 2, 0, 1, 2, 5, 6, 7, 8, 13], [0, 2]), ([14, 8, 0, 1, 2, 5, 6, 7, 8, 13], [8, 14]), ([3, 4, 0, 1, 2, 3, 4, 5, 6, 7, 8, 9, 10, 11, 12, 13, 14, 15], [3, 4]), ([16, 13, 15, 0, 1, 2, 3, 4, 5, 6, 7, 8, 9, 10, 11, 12, 13, 14, 15], [13, 16])])
def impl_putWire.B10 : List Nat := [0, 0, 2, 0, 0, 0, 0, 96, 224, 0, 0, 1024, 3584, 7680, 16359, 32743, 65535, 131071]
theorem impl_putWire.tab10 : rtab .any (opsOf Try.f125 10) = impl_putWire.T10 := by kernel_rfl
theorem impl_putWire.bits10 : waitsOk impl_putWire.T10.2 impl_putWire.B10 = true := by kernel_rfl
set_option maxHeartbeats 8000000 in
set_option maxRecDepth 100000 in
theorem impl_putWire.calls (k : Nat) (A0 : Option Addr) (c0 : Nat) (l0 : List (S200)) (A1 : Option Addr) (c1 : Nat) (l1 : List (S160)) (a2 : Int) (r1 : List (S160)) (r2 : Bool) (w : World) (hr0 : Kd.C k200 w A0 l0.length l0) (hc0 : l0.length ≤ c0) (hr1 : Kd.C k160 w A1 l1.length l1) (hc1 : l1.length ≤ c1) (h : impl_putWire.f k l0 l1 a2 = some (r1, r2)) :
  Calls Try.prog 125 #[.slice A0 l0.length c0, .slice A1 l1.length c1, .int .i64 a2] w fun e w' => ∃ v0_ : Value, e = .returned (.tuple #[v0_, .bool r2]) ∧ Kd.R k160 160 w' w.heap.size (fun _ => True) v0_ r1 ∧ Below w.heap.size w w' := by
 have hu160 := Try.underlying160
 have HR0 := Aside0.mk hr0
 have HC0 := Aside0.mk hc0
 clear hr0 hc0
 have HR1 := Aside0.mk hr1
 have HC1 := Aside0.mk hc1
 clear hr1 hc1
 have HB := Aside0.mk (Below.refl w.heap.size w)
 have H : (impl_putWire.l0 k l0 l1 a2 (l0.length : Int) 0) = some (r1, r2) := h
 clear h
 have H' := Aside0.mk H
 clear H
 go_enter Try.func125, Try.ntmps125
 go_wp2
 go_loopg [14] k (fun kq v14 w' => ∃ (x14_1 : Int), v14 = .int .i64 x14_1 ∧ Aside0 (impl_putWire.l0 kq l0 l1 a2 (l0.length : Int) x14_1 = some (r1, r2)) ∧ Aside0 (kq ≤ k) ∧ Aside0 (Below w.heap.size w w'))
 case atStart => exact ⟨(0), (by first | rfl | (simp; done) | (simp [*]; done)), H', ⟨Nat.le_refl _⟩, ⟨bl_ HB.out⟩⟩
 case round =>
  clear H'
  try clear c1
  try clear p2
  obtain ⟨x14_1, rfl, HA, HK1, HB⟩ := hrel
  cases gk with
  | zero => exact absurd HA.out (by simp [impl_putWire.l0])
  | succ k1 =>
   have H := HA.out
   clear HA
   simp only [impl_putWire.l0] at H
   by_cases c4 : x14_1 < (l0.length : Int)
   ·rw [if_pos c4] at H
    have c4b0 : decide (x14_1 < (l0.length : Int)) = true := decide_eq_true c4
    clear c4
    replace H := Option.bind_eq_some_iff.mp H
    obtain ⟨t304, A50, H⟩ := H
    replace H : (if (t304.length : Int) = 0 then (impl_putWire.l0 k1 l0 l1 a2 (l0.length : Int) (wrap64 (x14_1 + 1))) else ((some (([] : List (S160)) : List (S160))).bind fun y307 => (if y307.length + l1.length < 5864062014805 then ((some (y307 ++ l1 : List (S160))).bind fun y310 => (if 0 < (t304.length : Int) then ((some (([(⟨a2, x14_1, rd t304 0⟩ : S160)] : List (S160)) : List (S160))).bind fun y314 => (if y310.length + y314.length < 5864062014805 then ((some (y310 ++ y314 : List (S160))).bind fun y317 => (impl_putWire.l1 k1 y317 (wrap64 ((y317.length : Int) - 1)))) else (none))) else (none))) else (none)))) = some (r1, r2) := H
    have A5 := Aside0.mk A50
    clear A50
    by_cases c6 : (t304.length : Int) = 0
    ·rw [if_pos c6] at H
     have c6b0 : ((t304.length : Int) == 0) = true := beq_iff_eq.mpr c6
     have c6b1 : ((t304.length : Int) != 0) = false := bne_eq_false_iff_eq.mpr c6
     clear c6
     have H' := Aside0.mk H
     clear H
     go_wp2_with (first | ((with_reducible refine gate_callee (f := 202) rfl ?_); refine goesL_ (some 20) rfl rfl Try.func202 (by kernel_rfl) rfl #[.slice A0 l0.length c0, .slice A1 l1.length c1, .int .i64 x14_1] rfl ag_ ?_; (with_reducible refine (impl_freePins.calls k1 _ _ l0 _ _ l1 x14_1 t304 _ ?side1 ?side2 ?side3 ?side4 A5.out).mono ?_); (case side1 => exact r5_ HR0.out HB.out); (case side2 => exact HC0.out); (case side3 => exact r5_ HR1.out HB.out); (case side4 => exact HC1.out); rintro e w7 ⟨v305, rfl, ho0, hb⟩; refine ⟨_, rfl, ?_⟩; have HO306 := Aside0.mk (Kd.R_lower ho0 (below_size (bl_ HB.out))); replace HB := Aside0.mk (below_step (bl_ HB.out) hb); (try clear hb); (try clear hb2); (try clear hk); (try clear hi); (try clear ho0); obtain ⟨Ao8, co8, eo8⟩ := Kd.R_slice HO306.out; subst eo8))
     go_roundg k1
     case measure => have := HK1.out; omega
     case rel => exact ⟨(wrap64 (x14_1 + 1)), (by first | rfl | (simp; done) | (simp [*]; done)), H', ⟨by have := HK1.out; omega⟩, ⟨bl_ HB.out⟩⟩
    ·rw [if_neg c6] at H
     have c6b0 : ((t304.length : Int) == 0) = false := beq_eq_false_iff_ne.mpr c6
     have c6b1 : ((t304.length : Int) != 0) = true := bne_iff_ne.mpr c6
     have c6b2 : ¬ (t304 = []) := fun h_ => c6 (by rw [h_]; rfl)
     obtain ⟨y307, hy307⟩ : ∃ y_ : List (S160), y_ = (([] : List (S160))) := ⟨_, rfl⟩
     replace H : (if y307.length + l1.length < 5864062014805 then ((some (y307 ++ l1 : List (S160))).bind fun y310 => (if 0 < (t304.length : Int) then ((some (([(⟨a2, x14_1, rd t304 0⟩ : S160)] : List (S160)) : List (S160))).bind fun y314 => (if y310.length + y314.length < 5864062014805 then ((some (y310 ++ y314 : List (S160))).bind fun y317 => (impl_putWire.l1 k1 y317 (wrap64 ((y317.length : Int) - 1)))) else (none))) else (none))) else (none)) = some (r1, r2) := by first | (rw [hy307]; with_reducible exact H) | (have H2_ := (Option.bind_some _ _).symm.trans H; rw [hy307]; with_reducible exact H2_) | (have H2_ := (Option.bind_some _ _).symm.trans H; with_reducible exact H2_) | with_reducible exact H | (rw [hy307]; exact H) | exact H
     have Ny307 := Aside0.mk hy307
     clear hy307
     by_cases c9 : y307.length + l1.length < 5864062014805
     case neg =>
      rw [if_neg c9] at H
      exact absurd H (by simp)
     rw [if_pos c9] at H
     have LMc9 := Aside0.mk c9
     clear c9
     obtain ⟨y310, hy310⟩ : ∃ y_ : List (S160), y_ = (y307 ++ l1) := ⟨_, rfl⟩
     replace H : (if 0 < (t304.length : Int) then ((some (([(⟨a2, x14_1, rd t304 0⟩ : S160)] : List (S160)) : List (S160))).bind fun y314 => (if y310.length + y314.length < 5864062014805 then ((some (y310 ++ y314 : List (S160))).bind fun y317 => (impl_putWire.l1 k1 y317 (wrap64 ((y317.length : Int) - 1)))) else (none))) else (none)) = some (r1, r2) := by first | (rw [hy310]; with_reducible exact H) | (have H2_ := (Option.bind_some _ _).symm.trans H; rw [hy310]; with_reducible exact H2_) | (have H2_ := (Option.bind_some _ _).symm.trans H; with_reducible exact H2_) | with_reducible exact H | (rw [hy310]; exact H) | exact H
     have Ny310 := Aside0.mk hy310
     clear hy310
     by_cases c10 : 0 < (t304.length : Int)
     case neg =>
      rw [if_neg c10] at H
      exact absurd H (by simp)
     rw [if_pos c10] at H
     have c10b0 : decide (0 < (t304.length : Int)) = true := decide_eq_true c10
     have c10b1 : decide (0 < t304.length) = true := decide_eq_true (by omega)
     clear c10
     obtain ⟨y314, hy314⟩ : ∃ y_ : List (S160), y_ = (([(⟨a2, x14_1, rd t304 0⟩ : S160)] : List (S160))) := ⟨_, rfl⟩
     replace H : (if y310.length + y314.length < 5864062014805 then ((some (y310 ++ y314 : List (S160))).bind fun y317 => (impl_putWire.l1 k1 y317 (wrap64 ((y317.length : Int) - 1)))) else (none)) = some (r1, r2) := by first | (rw [hy314]; with_reducible exact H) | (have H2_ := (Option.bind_some _ _).symm.trans H; rw [hy314]; with_reducible exact H2_) | (have H2_ := (Option.bind_some _ _).symm.trans H; with_reducible exact H2_) | with_reducible exact H | (rw [hy314]; exact H) | exact H
     have Ny314 := Aside0.mk hy314
     clear hy314
     by_cases c11 : y310.length + y314.length < 5864062014805
     case neg =>
      rw [if_neg c11] at H
      exact absurd H (by simp)
     rw [if_pos c11] at H
     have LMc11 := Aside0.mk c11
     clear c11
     obtain ⟨y317, hy317⟩ : ∃ y_ : List (S160), y_ = (y310 ++ y314) := ⟨_, rfl⟩
     replace H : (impl_putWire.l1 k1 y317 (wrap64 ((y317.length : Int) - 1))) = some (r1, r2) := by first | (rw [hy317]; with_reducible exact H) | (have H2_ := (Option.bind_some _ _).symm.trans H; rw [hy317]; with_reducible exact H2_) | (have H2_ := (Option.bind_some _ _).symm.trans H; with_reducible exact H2_) | with_reducible exact H | (rw [hy317]; exact H) | exact H
     have Ny317 := Aside0.mk hy317
     clear hy317
     have H' := Aside0.mk H
     clear H
     try go_wp2_with (first | ((with_reducible refine gate_callee (f := 202) rfl ?_); refine goesL_ (some 20) rfl rfl Try.func202 (by kernel_rfl) rfl #[.slice A0 l0.length c0, .slice A1 l1.length c1, .int .i64 x14_1] rfl ag_ ?_; (with_reducible refine (impl_freePins.calls k1 _ _ l0 _ _ l1 x14_1 t304 _ ?side1 ?side2 ?side3 ?side4 A5.out).mono ?_); (case side1 => exact r5_ HR0.out HB.out); (case side2 => exact HC0.out); (case side3 => exact r5_ HR1.out HB.out); (case side4 => exact HC1.out); rintro e w12 ⟨v305, rfl, ho0, hb⟩; refine ⟨_, rfl, ?_⟩; have HO306 := Aside0.mk (Kd.R_lower ho0 (below_size (bl_ HB.out))); replace HB := Aside0.mk (below_step (bl_ HB.out) hb); (try clear hb); (try clear hb2); (try clear hk); (try clear hi); (try clear ho0); obtain ⟨Ao13, co13, eo13⟩ := Kd.R_slice HO306.out; subst eo13))
     replace HO306 := Aside0.mk (Kd.R_drew HO306.out)
     replace HB := Aside0.mk (below_drew1 HB.out)
     have p313 : 0 ≤ (0 : Int) := (by omega)
     have q313 : 0 < (t304.length : Int) := od_
     obtain ⟨ad313, e313, hx313_0⟩ := Kd.at_int (Kd.R_reads' HO306.out).2.2 0 p313 q313
     cases e313
     have qi313 : (0 < t304.length) = True := eq_true (by omega)
     (try rw [show ((0 : Int)).toNat = 0 from rfl] at hx313_0)
     (try rw [Addr.add_zero'] at hx313_0)
     replace p313 := eq_true p313
     replace q313 := eq_true q313
     refine start_ (n := 12) (S := fun w' => w'.cell? ad313 = some (.int .i64 (rd t304 0))) (ds := []) #[f_,f_,f_,f_,f_,f_,f_,f_,f_,f_,f_,f_] (by kernel_rfl) rfl rfl (hx313_0) (fun hHeld => ?_); refine with_tabW impl_putWire.tab6 impl_putWire.bits6 (fun HT_ HW_ => ?_)
     generalize w12.drew = w14 at HO306 HB hx313_0 hHeld ⊢
     refine pu_ 1 25 #[f_,t_,f_,f_,f_,f_,f_,f_,f_,f_,f_,f_] HT_.out ?_
     refine pu_ 3 27 #[f_,t_,f_,t_,f_,f_,f_,f_,f_,f_,f_,f_] HT_.out ?_
     refine pu_ 4 28 #[f_,t_,f_,t_,t_,f_,f_,f_,f_,f_,f_,f_] HT_.out ?_
     refine pu_ 5 29 #[f_,t_,f_,t_,t_,t_,f_,f_,f_,f_,f_,f_] HT_.out ?_
     refine pu_ 6 30 #[f_,t_,f_,t_,t_,t_,t_,f_,f_,f_,f_,f_] HT_.out ?_
     refine take_ (i := 7) (N := some 31) (v := ?_) (a' := ?_) #[f_,t_,f_,t_,t_,t_,t_,t_,f_,f_,f_,f_] rfl rfl (take_ofW HT_.out HW_.out (by kernel_rfl)) (fun _ _ _ h => h) (Or.inl ⟨by rfl, ?_⟩) hHeld ?_ ?_
     rotate_left
     ·intro w' s0
      go_simp
      with_reducible rfl
     rotate_left
     ·simp only [pz_]
      rfl
     refine pu_ 8 32 #[f_,t_,f_,t_,t_,t_,t_,t_,t_,f_,f_,f_] HT_.out ?_
     refine join_ (σ := Value × Value × Value) 2 #[t_,t_,t_,t_,t_,t_,t_,t_,t_,t_,f_,f_] (fun s_ => [(24, s_.1), (26, s_.2.1), (33, s_.2.2)]) (fun s_ w' => (w'.cell? ad313 = some (.int .i64 (rd t304 0))) ∧ (Kd.R (Kd.int .i64) 2 w' w.heap.size (fun _ => True) (.slice (some ad313) t304.length co13) t304) ∧ (Kd.R k160 160 w' w.heap.size (fun k_ => some k_ ≠ (s_.2.2 : Value).ownBlock) s_.2.1 y310) ∧ (Kd.R k160 160 w' w.heap.size (fun k_ => some k_ ≠ (s_.2.1 : Value).ownBlock) s_.2.2 y314) ∧ (Below w.heap.size w w')) ?_ ?_
     rotate_left
     ·intro hCont
      refine two_ (i := 0) (j := 9) (Ni := some 24) (Nj := some 33) #[t_,t_,f_,t_,t_,t_,t_,t_,t_,f_,f_,f_] #[f_,t_,f_,t_,t_,t_,t_,t_,t_,t_,f_,f_] rfl rfl rfl rfl (two_of HT_.out (by kernel_rfl)) (by decide) (by decide) (fun K hK => ?_) (fun K hK => ?_)
      ·skip
       refine Kd.R_lit_step k160 _ 160 ?hg (N := 24) ?hd (xs := ([] : List (S160))) (inner := []) (ok := fun _ => True) (okp := fun _ => True) ?hr ?hp (fun _ hk => hk) trivial (Below.refl _ _) (Nat.le_refl _) (by simp) ?_; (case hd => rfl); (case hg => rfl); (case hr => first | (go_simp; done) | (go_simp; rfl)); (case hp => exact (Reps.none _ _))
       intro v308 w15 ho16 hb hg_ hnew_
       have HS0_ := (hb.cell (World.block_lt_of_cell? _ _ (hHeld))).trans (hHeld)
       clear hg_ hnew_
       (first | rw [← Ny307.out] at ho16 | (simp only [Int.reduceToNat] at ho16; rw [← Ny307.out] at ho16))
       replace HO306 := Aside0.mk (Kd.R_below (rk_ HO306.out) hb)
       have HO309 := Aside0.mk (Kd.R_lower ho16 (below_size (bl_ HB.out)))
       replace HB := Aside0.mk (below_step (bl_ HB.out) hb)
       clear hb ho16
       refine hK.out _ _ (HS0_) (fun hHeld => ?_)
       clear hK K
       refine norm_ (a' := ?_) ?_ ?_
       rotate_left
       ·show Act.put _ (some 24) _ = _
        simp only [pz_]
        rfl
       refine two_ (i := 2) (j := 9) (Ni := some 26) (Nj := some 33) #[t_,t_,t_,t_,t_,t_,t_,t_,t_,f_,f_,f_] #[t_,t_,f_,t_,t_,t_,t_,t_,t_,t_,f_,f_] rfl rfl rfl rfl (two_of HT_.out (by kernel_rfl)) (by decide) (by decide) (fun K hK => ?_) (fun K hK => ?_)
       ·skip
        refine Kd.R_append_rows_step k160 (w0 := w) w.heap.size (by rfl) (.tmp 24) (.tmp 25) 44 160 (.agg #[(.int .i64 0), (.int .i64 0), (.int .i64 0)]) 24 rfl Try.underlying44 info160 rfl (by decide) (by omega) v308 y307 l1 _ _ _ (fun _ => True) (fun _ => False) rfl rfl ?aO ?aR (fun _ _ h => h) (fun _ h => h.elim) ?aF ?aB ?aS ?aL ?_
        (case aR => exact r5_ HR1.out HB.out)
        (case aB => exact (bl_ HB.out))
        (case aF => exact (fun _ _ => trivial))
        (case aO => exact (rk_ HO309.out))
        (case aS => exact (below_size (bl_ HB.out)))
        (case aL => have := LMc9.out; omega)
        intro v311 w17 ho hb hg hat
        have HS0_ := cell_grown hg (hHeld) (by obtain ⟨cs_, hc_⟩ := Kd.R_typed (HO306.out) _ rfl; exact Kd.R_ne (HO309.out) hc_ (by decide))
        rw [← Ny310.out] at ho
        have n0_ := Aside0.mk (Kd.R_over' (rk_ HO306.out) (Kd.R_typed (rk_ HO309.out)) (by decide) hg)
        have n1_ := Aside0.mk (hb)
        have n2_ := Aside0.mk (ho)
        clear HO306
        clear HB
        clear HO309
        have HO306 := n0_
        have HB := n1_
        have HO312 := n2_
        clear n0_ n1_ n2_
        clear ho hb hg hat
        refine hK.out _ _ (HS0_) (fun hHeld => ?_)
        clear hK K
        refine norm_ (a' := ?_) ?_ ?_
        rotate_left
        ·show Act.put _ (some 26) _ = _
         simp only [pz_]
         rfl
        refine one_ (i := 9) (N := some 33) #[t_,t_,t_,t_,t_,t_,t_,t_,t_,t_,f_,f_] rfl rfl (one_of HT_.out (by kernel_rfl)) (by decide) (fun K hK => ?_)
        refine Kd.R_lit_step k160 _ 160 ?hg (N := 33) ?hd (xs := ([(⟨a2, x14_1, rd t304 0⟩ : S160)] : List (S160))) (inner := [.int .i64 a2, .int .i64 x14_1, .int .i64 (rd t304 0)]) (ok := fun _ => True) (okp := fun _ => True) ?hr ?hp (fun _ hk => hk) trivial (Below.refl _ _) (Nat.le_refl _) (by simp) ?_; (case hd => rfl); (case hg => rfl); (case hr => first | (go_simp; done) | (go_simp; rfl)); (case hp => exact (Reps.c3 (show Kd.M k160 _ _ _ (⟨a2, x14_1, rd t304 0⟩ : S160) [.int .i64 a2, .int .i64 x14_1, .int .i64 (rd t304 0)] from (k160_mkM _ _ _ (⟨a2, x14_1, rd t304 0⟩ : S160) )) (Reps.none _ _)))
        intro v315 w18 ho19 hb hg_ hnew_
        have HS0_ := (hb.cell (World.block_lt_of_cell? _ _ (hHeld))).trans (hHeld)
        clear hg_ hnew_
        (first | rw [← Ny314.out] at ho19 | (simp only [Int.reduceToNat] at ho19; rw [← Ny314.out] at ho19))
        replace HO306 := Aside0.mk (Kd.R_below (rk_ HO306.out) hb)
        have HO316 := Aside0.mk (Kd.R_lower (Kd.R_new' ho19 (Kd.R_lt (rk_ HO312.out))) (below_size (bl_ HB.out)))
        replace HO312 := Aside0.mk (Kd.R_elder' (rk_ HO312.out) (Kd.R_base ho19) hb)
        replace HB := Aside0.mk (below_step (bl_ HB.out) hb)
        clear hb ho19
        refine hK.out _ _ (HS0_) (fun hHeld => ?_)
        clear hK K
        refine norm_ (a' := ?_) ?_ ?_
        rotate_left
        ·show Act.put _ (some 33) _ = _
         simp only [pz_]
         rfl
        exact norm_ (by simp only [putAll, Act.put, List.setIfInBounds_toArray, List.set_cons_zero, List.set_cons_succ]) (hCont (v308, v311, v315) _ ⟨hHeld, (rk_ HO306.out), (rk_ (Kd.R_mono HO312.out (fun _ hk => hk.2))), (rk_ (Kd.R_mono HO316.out (fun _ hk => hk.2))), (bl_ HB.out)⟩)
       ·skip
        refine Kd.R_lit_step k160 _ 160 ?hg (N := 33) ?hd (xs := ([(⟨a2, x14_1, rd t304 0⟩ : S160)] : List (S160))) (inner := [.int .i64 a2, .int .i64 x14_1, .int .i64 (rd t304 0)]) (ok := fun _ => True) (okp := fun _ => True) ?hr ?hp (fun _ hk => hk) trivial (Below.refl _ _) (Nat.le_refl _) (by simp) ?_; (case hd => rfl); (case hg => rfl); (case hr => first | (go_simp; done) | (go_simp; rfl)); (case hp => exact (Reps.c3 (show Kd.M k160 _ _ _ (⟨a2, x14_1, rd t304 0⟩ : S160) [.int .i64 a2, .int .i64 x14_1, .int .i64 (rd t304 0)] from (k160_mkM _ _ _ (⟨a2, x14_1, rd t304 0⟩ : S160) )) (Reps.none _ _)))
        intro v315 w17 ho18 hb hg_ hnew_
        have HS0_ := (hb.cell (World.block_lt_of_cell? _ _ (hHeld))).trans (hHeld)
        clear hg_ hnew_
        (first | rw [← Ny314.out] at ho18 | (simp only [Int.reduceToNat] at ho18; rw [← Ny314.out] at ho18))
        replace HO306 := Aside0.mk (Kd.R_below (rk_ HO306.out) hb)
        have HO316 := Aside0.mk (Kd.R_lower (Kd.R_new' ho18 (Kd.R_lt (rk_ HO309.out))) (below_size (bl_ HB.out)))
        replace HO309 := Aside0.mk (Kd.R_elder' (rk_ HO309.out) (Kd.R_base ho18) hb)
        replace HB := Aside0.mk (below_step (bl_ HB.out) hb)
        clear hb ho18
        refine hK.out _ _ (HS0_) (fun hHeld => ?_)
        clear hK K
        refine norm_ (a' := ?_) ?_ ?_
        rotate_left
        ·show Act.put _ (some 33) _ = _
         simp only [pz_]
         rfl
        refine one_ (i := 2) (N := some 26) #[t_,t_,t_,t_,t_,t_,t_,t_,t_,t_,f_,f_] rfl rfl (one_of HT_.out (by kernel_rfl)) (by decide) (fun K hK => ?_)
        refine Kd.R_append_rows_step k160 (w0 := w) w.heap.size (by rfl) (.tmp 24) (.tmp 25) 44 160 (.agg #[(.int .i64 0), (.int .i64 0), (.int .i64 0)]) 24 rfl Try.underlying44 info160 rfl (by decide) (by omega) v308 y307 l1 _ _ _ (fun k_ => some k_ ≠ (v315 : Value).ownBlock) (fun _ => False) rfl rfl ?aO ?aR (fun _ _ h => h) (fun _ h => h.elim) ?aF ?aB ?aS ?aL ?_
        (case aR => exact r5_ HR1.out HB.out)
        (case aB => exact (bl_ HB.out))
        (case aF => exact (fun k_ hk => Kd.fresh' (Kd.R_lt (rk_ HO316.out)) k_ hk))
        (case aO => exact (rk_ (Kd.R_mono HO309.out (fun _ hk => hk.2))))
        (case aS => exact (below_size (bl_ HB.out)))
        (case aL => have := LMc9.out; omega)
        intro v311 w19 ho hb hg hat
        have HS0_ := cell_grown hg (hHeld) (by obtain ⟨cs_, hc_⟩ := Kd.R_typed (HO306.out) _ rfl; exact Kd.R_ne (HO309.out) hc_ (by decide))
        rw [← Ny310.out] at ho
        have n0_ := Aside0.mk (Kd.R_over' (rk_ HO306.out) (Kd.R_typed (rk_ HO309.out)) (by decide) hg)
        have n1_ := Aside0.mk (Kd.R_after (ok := (fun _ => True)) (rk_ HO316.out) hg hat)
        have n2_ := Aside0.mk (hb)
        have n3_ := Aside0.mk (ho)
        clear HO306
        clear HO316
        clear HB
        clear HO309
        have HO306 := n0_
        have HO316 := n1_
        have HB := n2_
        have HO312 := n3_
        clear n0_ n1_ n2_ n3_
        clear ho hb hg hat
        refine hK.out _ _ (HS0_) (fun hHeld => ?_)
        clear hK K
        refine norm_ (a' := ?_) ?_ ?_
        rotate_left
        ·show Act.put _ (some 26) _ = _
         simp only [pz_]
         rfl
        exact norm_ (by simp only [putAll, Act.put, List.setIfInBounds_toArray, List.set_cons_zero, List.set_cons_succ]) (hCont (v308, v311, v315) _ ⟨hHeld, (rk_ HO306.out), (rk_ HO312.out), (rk_ (Kd.R_mono HO316.out (fun _ hk => hk.2))), (bl_ HB.out)⟩)
      ·skip
       refine Kd.R_lit_step k160 _ 160 ?hg (N := 33) ?hd (xs := ([(⟨a2, x14_1, rd t304 0⟩ : S160)] : List (S160))) (inner := [.int .i64 a2, .int .i64 x14_1, .int .i64 (rd t304 0)]) (ok := fun _ => True) (okp := fun _ => True) ?hr ?hp (fun _ hk => hk) trivial (Below.refl _ _) (Nat.le_refl _) (by simp) ?_; (case hd => rfl); (case hg => rfl); (case hr => first | (go_simp; done) | (go_simp; rfl)); (case hp => exact (Reps.c3 (show Kd.M k160 _ _ _ (⟨a2, x14_1, rd t304 0⟩ : S160) [.int .i64 a2, .int .i64 x14_1, .int .i64 (rd t304 0)] from (k160_mkM _ _ _ (⟨a2, x14_1, rd t304 0⟩ : S160) )) (Reps.none _ _)))
       intro v315 w15 ho16 hb hg_ hnew_
       have HS0_ := (hb.cell (World.block_lt_of_cell? _ _ (hHeld))).trans (hHeld)
       clear hg_ hnew_
       (first | rw [← Ny314.out] at ho16 | (simp only [Int.reduceToNat] at ho16; rw [← Ny314.out] at ho16))
       replace HO306 := Aside0.mk (Kd.R_below (rk_ HO306.out) hb)
       have HO316 := Aside0.mk (Kd.R_lower ho16 (below_size (bl_ HB.out)))
       replace HB := Aside0.mk (below_step (bl_ HB.out) hb)
       clear hb ho16
       refine hK.out _ _ (HS0_) (fun hHeld => ?_)
       clear hK K
       refine norm_ (a' := ?_) ?_ ?_
       rotate_left
       ·show Act.put _ (some 33) _ = _
        simp only [pz_]
        rfl
       refine one_ (i := 0) (N := some 24) #[t_,t_,f_,t_,t_,t_,t_,t_,t_,t_,f_,f_] rfl rfl (one_of HT_.out (by kernel_rfl)) (by decide) (fun K hK => ?_)
       refine Kd.R_lit_step k160 _ 160 ?hg (N := 24) ?hd (xs := ([] : List (S160))) (inner := []) (ok := fun _ => True) (okp := fun _ => True) ?hr ?hp (fun _ hk => hk) trivial (Below.refl _ _) (Nat.le_refl _) (by simp) ?_; (case hd => rfl); (case hg => rfl); (case hr => first | (go_simp; done) | (go_simp; rfl)); (case hp => exact (Reps.none _ _))
       intro v308 w17 ho18 hb hg_ hnew_
       have HS0_ := (hb.cell (World.block_lt_of_cell? _ _ (hHeld))).trans (hHeld)
       clear hg_ hnew_
       (first | rw [← Ny307.out] at ho18 | (simp only [Int.reduceToNat] at ho18; rw [← Ny307.out] at ho18))
       replace HO306 := Aside0.mk (Kd.R_below (rk_ HO306.out) hb)
       have HO309 := Aside0.mk (Kd.R_lower (Kd.R_new' ho18 (Kd.R_lt (rk_ HO316.out))) (below_size (bl_ HB.out)))
       replace HO316 := Aside0.mk (Kd.R_elder' (rk_ HO316.out) (Kd.R_base ho18) hb)
       replace HB := Aside0.mk (below_step (bl_ HB.out) hb)
       clear hb ho18
       refine hK.out _ _ (HS0_) (fun hHeld => ?_)
       clear hK K
       refine norm_ (a' := ?_) ?_ ?_
       rotate_left
       ·show Act.put _ (some 24) _ = _
        simp only [pz_]
        rfl
       refine one_ (i := 2) (N := some 26) #[t_,t_,t_,t_,t_,t_,t_,t_,t_,t_,f_,f_] rfl rfl (one_of HT_.out (by kernel_rfl)) (by decide) (fun K hK => ?_)
       refine Kd.R_append_rows_step k160 (w0 := w) w.heap.size (by rfl) (.tmp 24) (.tmp 25) 44 160 (.agg #[(.int .i64 0), (.int .i64 0), (.int .i64 0)]) 24 rfl Try.underlying44 info160 rfl (by decide) (by omega) v308 y307 l1 _ _ _ (fun k_ => some k_ ≠ (v315 : Value).ownBlock) (fun _ => False) rfl rfl ?aO ?aR (fun _ _ h => h) (fun _ h => h.elim) ?aF ?aB ?aS ?aL ?_
       (case aR => exact r5_ HR1.out HB.out)
       (case aB => exact (bl_ HB.out))
       (case aF => exact (fun k_ hk => Kd.fresh' (Kd.R_lt (rk_ HO316.out)) k_ hk))
       (case aO => exact (rk_ (Kd.R_mono HO309.out (fun _ hk => hk.2))))
       (case aS => exact (below_size (bl_ HB.out)))
       (case aL => have := LMc9.out; omega)
       intro v311 w19 ho hb hg hat
       have HS0_ := cell_grown hg (hHeld) (by obtain ⟨cs_, hc_⟩ := Kd.R_typed (HO306.out) _ rfl; exact Kd.R_ne (HO309.out) hc_ (by decide))
       rw [← Ny310.out] at ho
       have n0_ := Aside0.mk (Kd.R_over' (rk_ HO306.out) (Kd.R_typed (rk_ HO309.out)) (by decide) hg)
       have n1_ := Aside0.mk (Kd.R_after (ok := (fun _ => True)) (rk_ HO316.out) hg hat)
       have n2_ := Aside0.mk (hb)
       have n3_ := Aside0.mk (ho)
       clear HO306
       clear HO316
       clear HB
       clear HO309
       have HO306 := n0_
       have HO316 := n1_
       have HB := n2_
       have HO312 := n3_
       clear n0_ n1_ n2_ n3_
       clear ho hb hg hat
       refine hK.out _ _ (HS0_) (fun hHeld => ?_)
       clear hK K
       refine norm_ (a' := ?_) ?_ ?_
       rotate_left
       ·show Act.put _ (some 26) _ = _
        simp only [pz_]
        rfl
       exact norm_ (by simp only [putAll, Act.put, List.setIfInBounds_toArray, List.set_cons_zero, List.set_cons_succ]) (hCont (v308, v311, v315) _ ⟨hHeld, (rk_ HO306.out), (rk_ HO312.out), (rk_ (Kd.R_mono HO316.out (fun _ hk => hk.2))), (bl_ HB.out)⟩)
     rintro ⟨v308, v311, v315⟩ w20 ⟨hS_, h0_, h1_, h2_, h3_⟩
     have n0_ : Aside0 (Kd.R (Kd.int .i64) 2 w20 w.heap.size (fun _ => True) (.slice (some ad313) t304.length co13) t304) := ⟨h0_⟩
     have n1_ : Aside0 (Kd.R k160 160 w20 w.heap.size (fun k_ => some k_ ≠ (v315 : Value).ownBlock) v311 y310) := ⟨h1_⟩
     have n2_ : Aside0 (Kd.R k160 160 w20 w.heap.size (fun k_ => some k_ ≠ (v311 : Value).ownBlock) v315 y314) := ⟨h2_⟩
     have n3_ : Aside0 (Below w.heap.size w w20) := ⟨h3_⟩
     clear HO306
     clear HB
     clear h0_ h1_ h2_ h3_
     have HO306 := n0_
     have HO312 := n1_
     have HO316 := n2_
     have HB := n3_
     clear n0_ n1_ n2_ n3_
     have hHeld : w20.cell? ad313 = some (.int .i64 (rd t304 0)) := hS_
     obtain ⟨Ao22, co22, eo22⟩ := Kd.R_slice HO316.out
     (first | subst eo22 | (injection eo22 with f1_ f2_ f3_; have f4_ := f1_.symm; have f5_ := f3_.symm; clear f1_ f2_ f3_; subst f4_; subst f5_))
     refine norm_ (a' := ?_) ?_ ?_
     rotate_left
     ·simp only [putAll, Act.put, List.setIfInBounds_toArray, List.set_cons_zero, List.set_cons_succ]
      rfl
     refine one_ (i := 10) (N := some 34) #[t_,t_,t_,t_,t_,t_,t_,t_,t_,t_,t_,f_] rfl rfl (one_of HT_.out (by kernel_rfl)) (by decide) (fun K hK => ?_)
     refine Kd.R_append_rows_step k160 (w0 := w) w.heap.size (by rfl) (.tmp 26) (.tmp 33) 44 160 (.agg #[(.int .i64 0), (.int .i64 0), (.int .i64 0)]) 24 rfl Try.underlying44 info160 rfl (by decide) (by omega) v311 y310 y314 _ _ _ (fun k_ => some k_ ≠ (.slice Ao22 y314.length co22 : Value).ownBlock) (fun _ => False) rfl rfl ?aO ?aR (fun _ _ h => h) (fun _ h => h.elim) ?aF ?aB ?aS ?aL ?_
     (case aR => exact r7_ HO316.out)
     (case aB => exact (bl_ HB.out))
     (case aF => exact (fun k_ hk => Kd.fresh' (Kd.R_lt (rk_ HO316.out)) k_ hk))
     (case aO => exact (rk_ HO312.out))
     (case aS => exact (below_size (bl_ HB.out)))
     (case aL => have := LMc11.out; omega)
     intro v318 w21 ho hb hg hat
     have HS0_ := cell_grown hg (hHeld) (by obtain ⟨cs_, hc_⟩ := Kd.R_typed (HO306.out) _ rfl; exact Kd.R_ne (HO312.out) hc_ (by decide))
     rw [← Ny317.out] at ho
     have n0_ := Aside0.mk (Kd.R_over' (rk_ HO306.out) (Kd.R_typed (rk_ HO312.out)) (by decide) hg)
     have n1_ := Aside0.mk (Kd.R_after (ok := (fun _ => True)) (rk_ (Kd.R_mono HO316.out (fun _ hk => ⟨trivial, hk⟩))) hg hat)
     have n2_ := Aside0.mk (hb)
     have n3_ := Aside0.mk (ho)
     clear HO306
     clear HO316
     clear HB
     clear HO312
     have HO306 := n0_
     have HO316 := n1_
     have HB := n2_
     have HO319 := n3_
     clear n0_ n1_ n2_ n3_
     clear ho hb hg hat
     refine hK.out _ _ (HS0_) (fun hHeld => ?_)
     clear hK K
     refine norm_ (a' := ?_) ?_ ?_
     rotate_left
     ·show Act.put _ (some 34) _ = _
      simp only [pz_]
      rfl
     refine pu_ 11 10 #[t_,t_,t_,t_,t_,t_,t_,t_,t_,t_,t_,t_] HT_.out ?_
     refine done_ (done_of HT_.out (by kernel_rfl)) ?_
     obtain ⟨Ao23, co23, eo23⟩ := Kd.R_slice HO319.out
     subst eo23
     try go_wp2
     go_loopg [11] k1 (fun kq v11 w' => ∃ (x10_2 : List (S160)) (x11_2 : Int), v11 = .int .i64 x11_2 ∧ Aside0 (impl_putWire.l1 kq x10_2 x11_2 = some (r1, r2)) ∧ Aside0 (kq ≤ k1) ∧ Aside0 (Kd.R k160 160 w' w.heap.size (fun _ => True) (.slice Ao23 y317.length co23) x10_2) ∧ Aside0 (Below w.heap.size w w'))
     case atStart => exact ⟨(y317), (wrap64 ((y317.length : Int) - 1)), (by first | rfl | (simp; done) | (simp [*]; done)), H', ⟨Nat.le_refl _⟩, ⟨rk_ (Kd.R_mono HO319.out (fun _ hk => trivial))⟩, ⟨bl_ HB.out⟩⟩
     case round =>
      clear H'
      try clear c1
      try clear c2
      try clear p2
      try clear c3
      try clear p3
      try clear q3
      try clear hx3
      try clear qi3
      try clear c4
      try clear c4b0
      try clear c6
      try clear c6b0
      try clear c6b1
      try clear c6b2
      try clear p6
      try clear c9
      try clear c10
      try clear c10b0
      try clear c10b1
      try clear c11
      try clear c12
      try clear c20
      try clear hx313_0
      try clear p2
      try clear p313
      try clear q313
      obtain ⟨x10_2, x11_2, rfl, HA, HK2, HO_10, HB⟩ := hrel
      have hl10_2 := (Kd.R_reads' HO_10.out).1
      rw [hl10_2] at HO_10
      (try simp only [hl10_2])
      cases gk with
      | zero => exact absurd HA.out (by simp [impl_putWire.l1])
      | succ k2 =>
       have H := HA.out
       clear HA
       simp only [impl_putWire.l1] at H
       by_cases c24 : x11_2 > 0
       ·rw [if_pos c24] at H
        have c24b0 : decide (0 < x11_2) = true := decide_eq_true c24
        clear c24
        obtain ⟨ji25, hji25⟩ : ∃ j_ : Int, (wrap64 (x11_2 - 1)) = j_ := ⟨_, rfl⟩
        replace H : (if 0 ≤ (ji25) then (if (ji25) < (x10_2.length : Int) then (if 0 ≤ x11_2 then (if x11_2 < (x10_2.length : Int) then (if ((rd_T160 x10_2 (ji25)).f0) > ((rd_T160 x10_2 x11_2).f0) then (impl_putWire.l1 k2 ((x10_2.set ((ji25) : Int).toNat (⟨(rd_T160 x10_2 x11_2).f0, (rd_T160 x10_2 x11_2).f1, (rd_T160 x10_2 x11_2).f2⟩ : S160)).set (x11_2 : Int).toNat (⟨(rd_T160 x10_2 (ji25)).f0, (rd_T160 x10_2 (ji25)).f1, (rd_T160 x10_2 (ji25)).f2⟩ : S160)) ji25) else (some (x10_2, true))) else (none)) else (none)) else (none)) else (none)) = some (r1, r2) := by first | (rw [hji25] at H; exact H) | (simp only [hji25] at H ⊢; exact H)
        have hji25w : (IntKind.i64.wrap (x11_2 - 1)) = ji25 := (i64_w _).trans hji25
        by_cases c26 : 0 ≤ (ji25)
        case neg =>
         rw [if_neg c26] at H
         exact absurd H (by simp)
        rw [if_pos c26] at H
        have c26b0 : decide (0 ≤ (ji25)) = true := decide_eq_true c26
        clear c26
        by_cases c27 : (ji25) < (x10_2.length : Int)
        case neg =>
         rw [if_neg c27] at H
         exact absurd H (by simp)
        rw [if_pos c27] at H
        have c27b0 : decide ((ji25) < (x10_2.length : Int)) = true := decide_eq_true c27
        clear c27
        by_cases c28 : 0 ≤ x11_2
        case neg =>
         rw [if_neg c28] at H
         exact absurd H (by simp)
        rw [if_pos c28] at H
        have c28b0 : decide (0 ≤ x11_2) = true := decide_eq_true c28
        clear c28
        by_cases c29 : x11_2 < (x10_2.length : Int)
        case neg =>
         rw [if_neg c29] at H
         exact absurd H (by simp)
        rw [if_pos c29] at H
        have c29b0 : decide (x11_2 < (x10_2.length : Int)) = true := decide_eq_true c29
        clear c29
        by_cases c30 : ((rd_T160 x10_2 (ji25)).f0) > ((rd_T160 x10_2 x11_2).f0)
        ·rw [if_pos c30] at H
         have c30b0 : decide (((rd_T160 x10_2 x11_2).f0) < ((rd_T160 x10_2 (ji25)).f0)) = true := decide_eq_true c30
         clear c30
         obtain ⟨y324, hy324⟩ : ∃ y_ : List (S160), y_ = (x10_2.set ((ji25) : Int).toNat (⟨(rd_T160 x10_2 x11_2).f0, (rd_T160 x10_2 x11_2).f1, (rd_T160 x10_2 x11_2).f2⟩ : S160)) := ⟨_, rfl⟩
         replace H : (impl_putWire.l1 k2 (y324.set (x11_2 : Int).toNat (⟨(rd_T160 x10_2 (ji25)).f0, (rd_T160 x10_2 (ji25)).f1, (rd_T160 x10_2 (ji25)).f2⟩ : S160)) ji25) = some (r1, r2) := by first | (rw [hy324]; with_reducible exact H) | (have H2_ := (Option.bind_some _ _).symm.trans H; rw [hy324]; with_reducible exact H2_) | (have H2_ := (Option.bind_some _ _).symm.trans H; with_reducible exact H2_) | with_reducible exact H | (rw [hy324]; exact H) | exact H
         have Ny324 := Aside0.mk hy324
         clear hy324
         obtain ⟨y325, hy325⟩ : ∃ y_ : List (S160), y_ = (y324.set (x11_2 : Int).toNat (⟨(rd_T160 x10_2 (ji25)).f0, (rd_T160 x10_2 (ji25)).f1, (rd_T160 x10_2 (ji25)).f2⟩ : S160)) := ⟨_, rfl⟩
         replace H : (impl_putWire.l1 k2 y325 ji25) = some (r1, r2) := by first | (rw [hy325]; with_reducible exact H) | (have H2_ := (Option.bind_some _ _).symm.trans H; rw [hy325]; with_reducible exact H2_) | (have H2_ := (Option.bind_some _ _).symm.trans H; with_reducible exact H2_) | with_reducible exact H | (rw [hy325]; exact H) | exact H
         have Ny325 := Aside0.mk hy325
         clear hy325
         have H' := Aside0.mk H
         clear H
         try go_wp2
         replace HO_10 := Aside0.mk (Kd.R_drew HO_10.out)
         replace HB := Aside0.mk (below_drew1 HB.out)
         have p320 : 0 ≤ ((ji25) : Int) := od_
         have q320 : (ji25) < (x10_2.length : Int) := od_
         obtain ⟨ad320, e320, hx320_0, hx320_1, hx320_2⟩ := at_T160 (Kd.R_reads' HO_10.out).2.2 (ji25) p320 q320
         cases e320
         replace p320 := eq_true p320
         replace q320 := eq_true q320
         have p321 : 0 ≤ (x11_2 : Int) := od_
         have q321 : x11_2 < (x10_2.length : Int) := od_
         obtain ⟨ad321, e321, hx321_0, hx321_1, hx321_2⟩ := at_T160 (Kd.R_reads' HO_10.out).2.2 x11_2 p321 q321
         obtain rfl : ad320 = ad321 := (by injection e321)
         replace p321 := eq_true p321
         replace q321 := eq_true q321
         refine start_ (n := 16) (S := fun w' => w'.cell? (ad320.add (((ji25)).toNat * 3)) = some (.int .i64 ((rd_T160 x10_2 (ji25)).f0)) ∧ w'.cell? ⟨(ad320.add (((ji25)).toNat * 3)).block, (ad320.add (((ji25)).toNat * 3)).off + 1, none⟩ = some (.int .i64 ((rd_T160 x10_2 (ji25)).f1)) ∧ w'.cell? ⟨(ad320.add (((ji25)).toNat * 3)).block, (ad320.add (((ji25)).toNat * 3)).off + 2, none⟩ = some (.int .i64 ((rd_T160 x10_2 (ji25)).f2)) ∧ w'.cell? (ad320.add ((x11_2).toNat * 3)) = some (.int .i64 ((rd_T160 x10_2 x11_2).f0)) ∧ w'.cell? ⟨(ad320.add ((x11_2).toNat * 3)).block, (ad320.add ((x11_2).toNat * 3)).off + 1, none⟩ = some (.int .i64 ((rd_T160 x10_2 x11_2).f1)) ∧ w'.cell? ⟨(ad320.add ((x11_2).toNat * 3)).block, (ad320.add ((x11_2).toNat * 3)).off + 2, none⟩ = some (.int .i64 ((rd_T160 x10_2 x11_2).f2))) (ds := []) #[f_,f_,f_,f_,f_,f_,f_,f_,f_,f_,f_,f_,f_,f_,f_,f_] (by kernel_rfl) rfl rfl ⟨hx320_0, hx320_1, hx320_2, hx321_0, hx321_1, hx321_2⟩ (fun hHeld => ?_); refine with_tabW impl_putWire.tab8 impl_putWire.bits8 (fun HT_ HW_ => ?_)
         generalize wr.drew = w33 at HO_10 HB hx320_0 hx320_1 hx320_2 hx321_0 hx321_1 hx321_2 hHeld ⊢
         refine pu_ 0 38 #[t_,f_,f_,f_,f_,f_,f_,f_,f_,f_,f_,f_,f_,f_,f_,f_] HT_.out ?_
         refine pu_ 1 39 #[t_,t_,f_,f_,f_,f_,f_,f_,f_,f_,f_,f_,f_,f_,f_,f_] HT_.out ?_
         refine pu_ 2 40 #[t_,t_,t_,f_,f_,f_,f_,f_,f_,f_,f_,f_,f_,f_,f_,f_] HT_.out ?_
         refine pu_ 3 41 #[t_,t_,t_,t_,f_,f_,f_,f_,f_,f_,f_,f_,f_,f_,f_,f_] HT_.out ?_
         refine pu_ 4 42 #[t_,t_,t_,t_,t_,f_,f_,f_,f_,f_,f_,f_,f_,f_,f_,f_] HT_.out ?_
         refine pu_ 5 43 #[t_,t_,t_,t_,t_,t_,f_,f_,f_,f_,f_,f_,f_,f_,f_,f_] HT_.out ?_
         refine pu_ 6 44 #[t_,t_,t_,t_,t_,t_,t_,f_,f_,f_,f_,f_,f_,f_,f_,f_] HT_.out ?_
         refine pu_ 7 45 #[t_,t_,t_,t_,t_,t_,t_,t_,f_,f_,f_,f_,f_,f_,f_,f_] HT_.out ?_
         refine pu_ 9 47 #[t_,t_,t_,t_,t_,t_,t_,t_,f_,t_,f_,f_,f_,f_,f_,f_] HT_.out ?_
         refine pu_ 10 48 #[t_,t_,t_,t_,t_,t_,t_,t_,f_,t_,t_,f_,f_,f_,f_,f_] HT_.out ?_
         refine pu_ 11 49 #[t_,t_,t_,t_,t_,t_,t_,t_,f_,t_,t_,t_,f_,f_,f_,f_] HT_.out ?_
         refine pu_ 12 50 #[t_,t_,t_,t_,t_,t_,t_,t_,f_,t_,t_,t_,t_,f_,f_,f_] HT_.out ?_
         refine take_ (i := 8) (N := some 46) (v := ?_) (a' := ?_) #[t_,t_,t_,t_,t_,t_,t_,t_,t_,t_,t_,t_,t_,f_,f_,f_] rfl rfl (take_ofW HT_.out HW_.out (by kernel_rfl)) (fun _ _ _ h => h) (Or.inl ⟨by rfl, ?_⟩) hHeld ?_ ?_
         rotate_left
         ·rintro w' ⟨s0, s1, s2, s3, s4, s5⟩
          go_simp
          with_reducible rfl
         rotate_left
         ·simp only [pz_]
          rfl
         refine take_ (i := 13) (N := some 51) (v := ?_) (a' := ?_) #[t_,t_,t_,t_,t_,t_,t_,t_,t_,t_,t_,t_,t_,t_,f_,f_] rfl rfl (take_ofW HT_.out HW_.out (by kernel_rfl)) (fun _ _ _ h => h) (Or.inl ⟨by rfl, ?_⟩) hHeld ?_ ?_
         rotate_left
         ·rintro w' ⟨s0, s1, s2, s3, s4, s5⟩
          go_simp
          with_reducible rfl
         rotate_left
         ·simp only [pz_]
          rfl
         refine pu_ 14 52 #[t_,t_,t_,t_,t_,t_,t_,t_,t_,t_,t_,t_,t_,t_,t_,f_] HT_.out ?_
         refine pu_ 15 53 #[t_,t_,t_,t_,t_,t_,t_,t_,t_,t_,t_,t_,t_,t_,t_,t_] HT_.out ?_
         refine done_ (done_of HT_.out (by kernel_rfl)) ?_
         try go_wp2
         replace HO_10 := Aside0.mk (Kd.R_drew HO_10.out)
         replace HB := Aside0.mk (below_drew1 HB.out)
         have p322 : 0 ≤ (x11_2 : Int) := od_
         have q322 : x11_2 < (x10_2.length : Int) := od_
         obtain ⟨ad322, e322, hx322_0, hx322_1, hx322_2⟩ := at_T160 (Kd.R_reads' HO_10.out).2.2 x11_2 p322 q322
         obtain rfl : ad320 = ad322 := (by injection e322)
         replace p322 := eq_true p322
         replace q322 := eq_true q322
         have p323 : 0 ≤ ((ji25) : Int) := od_
         have q323 : (ji25) < (x10_2.length : Int) := od_
         obtain ⟨ad323, e323, hx323_0, hx323_1, hx323_2⟩ := at_T160 (Kd.R_reads' HO_10.out).2.2 (ji25) p323 q323
         obtain rfl : ad320 = ad323 := (by injection e323)
         replace p323 := eq_true p323
         replace q323 := eq_true q323
         have p31 : 0 ≤ ((ji25) : Int) := od_
         have q31 : ((ji25) : Int) < ((x10_2.length : Int) : Int) := od_
         obtain ⟨go31, co31, eo31, gb31, gl31, cl31, HG31⟩ := Kd.R_form HO_10.out (by omega)
         (first | cases eo31 | (injection eo31 with ea_ en_ ec_; (first | subst ea_ | (injection ea_ with ea_; subst ea_)); subst ec_; clear en_))
         have GB31 := Aside0.mk gb31
         have GG31 := Aside0.mk HG31
         clear gb31 gl31 HG31
         (first | simp only [add_plain] at hx320_0 | skip)
         (first | simp only [add_plain] at hx320_1 | skip)
         (first | simp only [add_plain] at hx320_2 | skip)
         (first | simp only [add_plain] at hx321_0 | skip)
         (first | simp only [add_plain] at hx321_1 | skip)
         (first | simp only [add_plain] at hx321_2 | skip)
         (first | simp only [add_plain] at hx322_0 | skip)
         (first | simp only [add_plain] at hx322_1 | skip)
         (first | simp only [add_plain] at hx322_2 | skip)
         (first | simp only [add_plain] at hx323_0 | skip)
         (first | simp only [add_plain] at hx323_1 | skip)
         (first | simp only [add_plain] at hx323_2 | skip)
         obtain ⟨ce31, hcl31, hM31, hcc31, hfr31⟩ := Kd.R_elem HO_10.out z160 ((ji25) : Int) p31 q31
         obtain rfl := k160_openM hM31
         have hx31_0 : World.cell? _ ⟨go31, ((ji25) : Int).toNat * 3, none⟩ = some (.int .i64 ((rd_T160 x10_2 (ji25)).f0)) := hcc31 0 _ rfl
         have hx31_1 : World.cell? _ ⟨go31, ((ji25) : Int).toNat * 3 + 1, none⟩ = some (.int .i64 ((rd_T160 x10_2 (ji25)).f1)) := hcc31 1 _ rfl
         have hx31_2 : World.cell? _ ⟨go31, ((ji25) : Int).toNat * 3 + 2, none⟩ = some (.int .i64 ((rd_T160 x10_2 (ji25)).f2)) := hcc31 2 _ rfl
         have hf31_0 : World.frozen? _ ⟨go31, ((ji25) : Int).toNat * 3, none⟩ = false := hfr31 0
         have hf31_1 : World.frozen? _ ⟨go31, ((ji25) : Int).toNat * 3 + 1, none⟩ = false := hfr31 1
         have hf31_2 : World.frozen? _ ⟨go31, ((ji25) : Int).toNat * 3 + 2, none⟩ = false := hfr31 2
         clear hcl31 hcc31 hfr31 hM31
         replace p31 := eq_true p31
         replace q31 := eq_true q31
         obtain ⟨ce35, hcl35, hM35, hcc35, hfr35⟩ := Kd.R_elem HO_10.out z160 ((ji25) : Int) od_ (by have h_ : ((ji25) : Int) < ((x10_2.length : Int) : Int) := od_; first | exact h_ | (have e_ := (Kd.R_reads' HO_10.out).1; omega) | simpa using h_)
         obtain rfl := k160_openM hM35
         have HP35 := (Kd.R_seg HO_10.out ((ji25) : Int) od_ (by have h_ : ((ji25) : Int) < ((x10_2.length : Int) : Int) := od_; first | exact h_ | (have e_ := (Kd.R_reads' HO_10.out).1; omega) | simpa using h_) (seg := [.int .i64 ((rd_T160 x10_2 x11_2).f0), .int .i64 ((rd_T160 x10_2 x11_2).f1), .int .i64 ((rd_T160 x10_2 x11_2).f2)]) (j := 0) hcl35 hcc35 (show 3 ≤ 3 from by decide) (x' := (⟨(rd_T160 x10_2 x11_2).f0, (rd_T160 x10_2 x11_2).f1, (rd_T160 x10_2 x11_2).f2⟩ : S160)) (k160_mkM _ _ _ (⟨(rd_T160 x10_2 x11_2).f0, (rd_T160 x10_2 x11_2).f1, (rd_T160 x10_2 x11_2).f2⟩ : S160) ) (fun _ hk => hk)).1
         rw [← Ny324.out] at HP35
         have HQ35 := Aside0.mk HP35
         clear hcl35 hcc35 hfr35 hM35 HP35
         have p32 : 0 ≤ (x11_2 : Int) := od_
         have q32 : (x11_2 : Int) < ((x10_2.length : Int) : Int) := od_
         obtain ⟨ce32, hcl32, hM32, hcc32, hfr32⟩ := Kd.R_elem HQ35.out z160 (x11_2 : Int) p32 q32
         obtain rfl := k160_openM hM32
         have hx32_0 : World.cell? _ ⟨go31, (x11_2 : Int).toNat * 3, none⟩ = some (.int .i64 ((rd_T160 y324 x11_2).f0)) := hcc32 0 _ rfl
         have hx32_1 : World.cell? _ ⟨go31, (x11_2 : Int).toNat * 3 + 1, none⟩ = some (.int .i64 ((rd_T160 y324 x11_2).f1)) := hcc32 1 _ rfl
         have hx32_2 : World.cell? _ ⟨go31, (x11_2 : Int).toNat * 3 + 2, none⟩ = some (.int .i64 ((rd_T160 y324 x11_2).f2)) := hcc32 2 _ rfl
         have hf32_0 : World.frozen? _ ⟨go31, (x11_2 : Int).toNat * 3, none⟩ = false := hfr32 0
         have hf32_1 : World.frozen? _ ⟨go31, (x11_2 : Int).toNat * 3 + 1, none⟩ = false := hfr32 1
         have hf32_2 : World.frozen? _ ⟨go31, (x11_2 : Int).toNat * 3 + 2, none⟩ = false := hfr32 2
         clear hcl32 hcc32 hfr32 hM32
         replace p32 := eq_true p32
         replace q32 := eq_true q32
         obtain ⟨ce36, hcl36, hM36, hcc36, hfr36⟩ := Kd.R_elem HQ35.out z160 (x11_2 : Int) od_ (by have h_ : (x11_2 : Int) < ((x10_2.length : Int) : Int) := od_; first | exact h_ | (have e_ := (Kd.R_reads' HO_10.out).1; omega) | simpa using h_)
         obtain rfl := k160_openM hM36
         have HP36 := (Kd.R_seg HQ35.out (x11_2 : Int) od_ (by have h_ : (x11_2 : Int) < ((x10_2.length : Int) : Int) := od_; first | exact h_ | (have e_ := (Kd.R_reads' HO_10.out).1; omega) | simpa using h_) (seg := [.int .i64 ((rd_T160 x10_2 (ji25)).f0), .int .i64 ((rd_T160 x10_2 (ji25)).f1), .int .i64 ((rd_T160 x10_2 (ji25)).f2)]) (j := 0) hcl36 hcc36 (show 3 ≤ 3 from by decide) (x' := (⟨(rd_T160 x10_2 (ji25)).f0, (rd_T160 x10_2 (ji25)).f1, (rd_T160 x10_2 (ji25)).f2⟩ : S160)) (k160_mkM _ _ _ (⟨(rd_T160 x10_2 (ji25)).f0, (rd_T160 x10_2 (ji25)).f1, (rd_T160 x10_2 (ji25)).f2⟩ : S160) ) (fun _ hk => hk)).1
         rw [← Ny325.out] at HP36
         have HQ36 := Aside0.mk HP36
         clear hcl36 hcc36 hfr36 hM36 HP36
         refine start_ (n := 18) (S := fun w' => w'.cell? ⟨go31, ((x11_2).toNat * 3), none⟩ = some (.int .i64 ((rd_T160 x10_2 x11_2).f0)) ∧ w'.cell? ⟨go31, ((x11_2).toNat * 3) + 1, none⟩ = some (.int .i64 ((rd_T160 x10_2 x11_2).f1)) ∧ w'.cell? ⟨go31, ((x11_2).toNat * 3) + 2, none⟩ = some (.int .i64 ((rd_T160 x10_2 x11_2).f2)) ∧ w'.cell? ⟨go31, (((ji25)).toNat * 3), none⟩ = some (.int .i64 ((rd_T160 x10_2 (ji25)).f0)) ∧ w'.cell? ⟨go31, (((ji25)).toNat * 3) + 1, none⟩ = some (.int .i64 ((rd_T160 x10_2 (ji25)).f1)) ∧ w'.cell? ⟨go31, (((ji25)).toNat * 3) + 2, none⟩ = some (.int .i64 ((rd_T160 x10_2 (ji25)).f2))) (ds := [15, 17]) #[f_,f_,f_,f_,f_,f_,f_,f_,f_,f_,f_,f_,f_,f_,f_,f_,f_,f_] (by kernel_rfl) rfl rfl ⟨hx322_0, hx322_1, hx322_2, hx323_0, hx323_1, hx323_2⟩ (fun hHeld => ?_); refine with_tabW impl_putWire.tab10 impl_putWire.bits10 (fun HT_ HW_ => ?_)
         generalize w33.drew = w34 at HO_10 HB GG31 HQ35 HQ36 hf31_0 hf31_1 hf31_2 hf32_0 hf32_1 hf32_2 hx31_0 hx31_1 hx31_2 hx320_0 hx320_1 hx320_2 hx321_0 hx321_1 hx321_2 hx322_0 hx322_1 hx322_2 hx323_0 hx323_1 hx323_2 hx32_0 hx32_1 hx32_2 hHeld ⊢
         refine pu_ 0 56 #[t_,f_,f_,f_,f_,f_,f_,f_,f_,f_,f_,f_,f_,f_,f_,f_,f_,f_] HT_.out ?_
         refine pu_ 1 57 #[t_,t_,f_,f_,f_,f_,f_,f_,f_,f_,f_,f_,f_,f_,f_,f_,f_,f_] HT_.out ?_
         refine pu_ 2 58 #[t_,t_,t_,f_,f_,f_,f_,f_,f_,f_,f_,f_,f_,f_,f_,f_,f_,f_] HT_.out ?_
         refine pu_ 3 59 #[t_,t_,t_,t_,f_,f_,f_,f_,f_,f_,f_,f_,f_,f_,f_,f_,f_,f_] HT_.out ?_
         refine pu_ 4 60 #[t_,t_,t_,t_,t_,f_,f_,f_,f_,f_,f_,f_,f_,f_,f_,f_,f_,f_] HT_.out ?_
         refine pu_ 5 61 #[t_,t_,t_,t_,t_,t_,f_,f_,f_,f_,f_,f_,f_,f_,f_,f_,f_,f_] HT_.out ?_
         refine pu_ 6 62 #[t_,t_,t_,t_,t_,t_,t_,f_,f_,f_,f_,f_,f_,f_,f_,f_,f_,f_] HT_.out ?_
         refine pu_ 7 63 #[t_,t_,t_,t_,t_,t_,t_,t_,f_,f_,f_,f_,f_,f_,f_,f_,f_,f_] HT_.out ?_
         refine pu_ 9 65 #[t_,t_,t_,t_,t_,t_,t_,t_,f_,t_,f_,f_,f_,f_,f_,f_,f_,f_] HT_.out ?_
         refine pu_ 10 66 #[t_,t_,t_,t_,t_,t_,t_,t_,f_,t_,t_,f_,f_,f_,f_,f_,f_,f_] HT_.out ?_
         refine pu_ 11 67 #[t_,t_,t_,t_,t_,t_,t_,t_,f_,t_,t_,t_,f_,f_,f_,f_,f_,f_] HT_.out ?_
         refine pu_ 12 68 #[t_,t_,t_,t_,t_,t_,t_,t_,f_,t_,t_,t_,t_,f_,f_,f_,f_,f_] HT_.out ?_
         refine take_ (i := 8) (N := some 64) (v := ?_) (a' := ?_) #[t_,t_,t_,t_,t_,t_,t_,t_,t_,t_,t_,t_,t_,f_,f_,f_,f_,f_] rfl rfl (take_ofW HT_.out HW_.out (by kernel_rfl)) (fun _ _ _ h => h) (Or.inl ⟨by rfl, ?_⟩) hHeld ?_ ?_
         rotate_left
         ·rintro w' ⟨s0, s1, s2, s3, s4, s5⟩
          go_simp
          with_reducible rfl
         rotate_left
         ·simp only [pz_]
          rfl
         refine take_ (i := 13) (N := some 69) (v := ?_) (a' := ?_) #[t_,t_,t_,t_,t_,t_,t_,t_,t_,t_,t_,t_,t_,t_,f_,f_,f_,f_] rfl rfl (take_ofW HT_.out HW_.out (by kernel_rfl)) (fun _ _ _ h => h) (Or.inl ⟨by rfl, ?_⟩) hHeld ?_ ?_
         rotate_left
         ·rintro w' ⟨s0, s1, s2, s3, s4, s5⟩
          go_simp
          with_reducible rfl
         rotate_left
         ·simp only [pz_]
          rfl
         refine pu_ 14 70 #[t_,t_,t_,t_,t_,t_,t_,t_,t_,t_,t_,t_,t_,t_,t_,f_,f_,f_] HT_.out ?_
         refine last_ (i := 15) (N := none) #[t_,t_,t_,t_,t_,t_,t_,t_,t_,t_,t_,t_,t_,t_,t_,t_,f_,f_] rfl rfl (one_of HT_.out (by kernel_rfl)) (by decide) (fun K hK => ?_)
         refine skip_ (w1 := ?_) (by rfl) rfl ?_ ?_
         rotate_left
         ·go_simp
          rfl
         refine hK.out _ _ ?_
         clear hK K
         refine pu_ 16 71 #[t_,t_,t_,t_,t_,t_,t_,t_,t_,t_,t_,t_,t_,t_,t_,t_,t_,f_] HT_.out ?_
         have hnz_ : ((ji25) : Int).toNat * 3 ≠ (x11_2 : Int).toNat * 3 := by have h1_ : (0 : Int) ≤ ji25 := of_eq_true p31; have h2_ : (0 : Int) ≤ x11_2 := of_eq_true p32; have h3_ := hji25; unfold wrap64 at h3_; omega
         have hz0_ : World.cell? (w34.setCell ⟨go31, ((ji25) : Int).toNat * 3, none⟩ (.int .i64 ((rd_T160 x10_2 x11_2).f0))) ⟨go31, (x11_2 : Int).toNat * 3, none⟩ = some (.int .i64 ((rd_T160 x10_2 x11_2).f0)) := (World.cell?_setCell_other _ _ _ _ (fun e_ => by have e2_ := congrArg Addr.off e_; simp only at e2_; omega)).trans hx322_0
         have hg0_ : World.frozen? w34 ⟨go31, (x11_2 : Int).toNat * 3, none⟩ = false := (World.frozen?_setCells _ _ _ _ _).symm.trans hf32_0
         have hz1_ : World.cell? ((w34.setCell ⟨go31, ((ji25) : Int).toNat * 3, none⟩ (.int .i64 ((rd_T160 x10_2 x11_2).f0))).setCell ⟨go31, ((ji25) : Int).toNat * 3 + 1, none⟩ (.int .i64 ((rd_T160 x10_2 x11_2).f1))) ⟨go31, (x11_2 : Int).toNat * 3 + 1, none⟩ = some (.int .i64 ((rd_T160 x10_2 x11_2).f1)) := ((World.cell?_setCell_other _ _ _ _ (fun e_ => by have e2_ := congrArg Addr.off e_; simp only at e2_; omega)).trans (World.cell?_setCell_other _ _ _ _ (fun e_ => by have e2_ := congrArg Addr.off e_; simp only at e2_; omega))).trans hx322_1
         have hg1_ : World.frozen? w34 ⟨go31, (x11_2 : Int).toNat * 3 + 1, none⟩ = false := (World.frozen?_setCells _ _ _ _ _).symm.trans hf32_1
         have hz2_ : World.cell? (((w34.setCell ⟨go31, ((ji25) : Int).toNat * 3, none⟩ (.int .i64 ((rd_T160 x10_2 x11_2).f0))).setCell ⟨go31, ((ji25) : Int).toNat * 3 + 1, none⟩ (.int .i64 ((rd_T160 x10_2 x11_2).f1))).setCell ⟨go31, ((ji25) : Int).toNat * 3 + 2, none⟩ (.int .i64 ((rd_T160 x10_2 x11_2).f2))) ⟨go31, (x11_2 : Int).toNat * 3 + 2, none⟩ = some (.int .i64 ((rd_T160 x10_2 x11_2).f2)) := (((World.cell?_setCell_other _ _ _ _ (fun e_ => by have e2_ := congrArg Addr.off e_; simp only at e2_; omega)).trans (World.cell?_setCell_other _ _ _ _ (fun e_ => by have e2_ := congrArg Addr.off e_; simp only at e2_; omega))).trans (World.cell?_setCell_other _ _ _ _ (fun e_ => by have e2_ := congrArg Addr.off e_; simp only at e2_; omega))).trans hx322_2
         have hg2_ : World.frozen? w34 ⟨go31, (x11_2 : Int).toNat * 3 + 2, none⟩ = false := (World.frozen?_setCells _ _ _ _ _).symm.trans hf32_2
         refine last_ (i := 17) (N := none) #[t_,t_,t_,t_,t_,t_,t_,t_,t_,t_,t_,t_,t_,t_,t_,t_,t_,t_] rfl rfl (one_of HT_.out (by kernel_rfl)) (by decide) (fun K hK => ?_)
         refine skip_ (w1 := ?_) (by rfl) rfl ?_ ?_
         rotate_left
         ·go_simp
          rfl
         refine hK.out _ _ ?_
         clear hK K
         refine done_ (done_of HT_.out (by kernel_rfl)) ?_
         try go_wp2
         (try simp only [← hl10_2])
         go_roundg k2
         case measure => have := HK1.out; have := HK2.out; omega
         case rel => exact ⟨(y325), (ji25), (by first | rfl | (simp; done) | (simp only [← hji25] <;> (first | rfl | simp)) | (simp [*]; done)), H', ⟨by have := HK1.out; have := HK2.out; omega⟩, ⟨by (try simp only [hl10_2]); (with_reducible repeat (first | apply Kd.R_alloc | apply Kd.R_drewN | apply Kd.R_drew)); exact HQ36.out⟩, ⟨by repeat (first | (with_reducible first | exact HB.out | apply below_alloc | apply pw_below_drewN | apply below_drew1 | refine below_set ?_ GB31.out | refine below_set ?_ GB31.out | refine below_set ?_ GB31.out | refine below_set ?_ GB31.out | refine below_set ?_ GB31.out | refine below_set ?_ GB31.out) | exact HB.out)⟩⟩
        ·rw [if_neg c30] at H
         have c30b0 : decide (((rd_T160 x10_2 x11_2).f0) < ((rd_T160 x10_2 (ji25)).f0)) = false := decide_eq_false c30
         clear c30
         simp only [Option.some.injEq, Prod.mk.injEq] at H
         obtain ⟨rfl, rfl⟩ := H
         try go_wp2
         replace HO_10 := Aside0.mk (Kd.R_drew HO_10.out)
         replace HB := Aside0.mk (below_drew1 HB.out)
         have p320 : 0 ≤ ((ji25) : Int) := od_
         have q320 : (ji25) < (x10_2.length : Int) := od_
         obtain ⟨ad320, e320, hx320_0, hx320_1, hx320_2⟩ := at_T160 (Kd.R_reads' HO_10.out).2.2 (ji25) p320 q320
         cases e320
         replace p320 := eq_true p320
         replace q320 := eq_true q320
         have p321 : 0 ≤ (x11_2 : Int) := od_
         have q321 : x11_2 < (x10_2.length : Int) := od_
         obtain ⟨ad321, e321, hx321_0, hx321_1, hx321_2⟩ := at_T160 (Kd.R_reads' HO_10.out).2.2 x11_2 p321 q321
         obtain rfl : ad320 = ad321 := (by injection e321)
         replace p321 := eq_true p321
         replace q321 := eq_true q321
         refine start_ (n := 16) (S := fun w' => w'.cell? (ad320.add (((ji25)).toNat * 3)) = some (.int .i64 ((rd_T160 x10_2 (ji25)).f0)) ∧ w'.cell? ⟨(ad320.add (((ji25)).toNat * 3)).block, (ad320.add (((ji25)).toNat * 3)).off + 1, none⟩ = some (.int .i64 ((rd_T160 x10_2 (ji25)).f1)) ∧ w'.cell? ⟨(ad320.add (((ji25)).toNat * 3)).block, (ad320.add (((ji25)).toNat * 3)).off + 2, none⟩ = some (.int .i64 ((rd_T160 x10_2 (ji25)).f2)) ∧ w'.cell? (ad320.add ((x11_2).toNat * 3)) = some (.int .i64 ((rd_T160 x10_2 x11_2).f0)) ∧ w'.cell? ⟨(ad320.add ((x11_2).toNat * 3)).block, (ad320.add ((x11_2).toNat * 3)).off + 1, none⟩ = some (.int .i64 ((rd_T160 x10_2 x11_2).f1)) ∧ w'.cell? ⟨(ad320.add ((x11_2).toNat * 3)).block, (ad320.add ((x11_2).toNat * 3)).off + 2, none⟩ = some (.int .i64 ((rd_T160 x10_2 x11_2).f2))) (ds := []) #[f_,f_,f_,f_,f_,f_,f_,f_,f_,f_,f_,f_,f_,f_,f_,f_] (by kernel_rfl) rfl rfl ⟨hx320_0, hx320_1, hx320_2, hx321_0, hx321_1, hx321_2⟩ (fun hHeld => ?_); refine with_tabW impl_putWire.tab8 impl_putWire.bits8 (fun HT_ HW_ => ?_)
         generalize wr.drew = w37 at HO_10 HB hx320_0 hx320_1 hx320_2 hx321_0 hx321_1 hx321_2 hHeld ⊢
         refine pu_ 0 38 #[t_,f_,f_,f_,f_,f_,f_,f_,f_,f_,f_,f_,f_,f_,f_,f_] HT_.out ?_
         refine pu_ 1 39 #[t_,t_,f_,f_,f_,f_,f_,f_,f_,f_,f_,f_,f_,f_,f_,f_] HT_.out ?_
         refine pu_ 2 40 #[t_,t_,t_,f_,f_,f_,f_,f_,f_,f_,f_,f_,f_,f_,f_,f_] HT_.out ?_
         refine pu_ 3 41 #[t_,t_,t_,t_,f_,f_,f_,f_,f_,f_,f_,f_,f_,f_,f_,f_] HT_.out ?_
         refine pu_ 4 42 #[t_,t_,t_,t_,t_,f_,f_,f_,f_,f_,f_,f_,f_,f_,f_,f_] HT_.out ?_
         refine pu_ 5 43 #[t_,t_,t_,t_,t_,t_,f_,f_,f_,f_,f_,f_,f_,f_,f_,f_] HT_.out ?_
         refine pu_ 6 44 #[t_,t_,t_,t_,t_,t_,t_,f_,f_,f_,f_,f_,f_,f_,f_,f_] HT_.out ?_
         refine pu_ 7 45 #[t_,t_,t_,t_,t_,t_,t_,t_,f_,f_,f_,f_,f_,f_,f_,f_] HT_.out ?_
         refine pu_ 9 47 #[t_,t_,t_,t_,t_,t_,t_,t_,f_,t_,f_,f_,f_,f_,f_,f_] HT_.out ?_
         refine pu_ 10 48 #[t_,t_,t_,t_,t_,t_,t_,t_,f_,t_,t_,f_,f_,f_,f_,f_] HT_.out ?_
         refine pu_ 11 49 #[t_,t_,t_,t_,t_,t_,t_,t_,f_,t_,t_,t_,f_,f_,f_,f_] HT_.out ?_
         refine pu_ 12 50 #[t_,t_,t_,t_,t_,t_,t_,t_,f_,t_,t_,t_,t_,f_,f_,f_] HT_.out ?_
         refine take_ (i := 8) (N := some 46) (v := ?_) (a' := ?_) #[t_,t_,t_,t_,t_,t_,t_,t_,t_,t_,t_,t_,t_,f_,f_,f_] rfl rfl (take_ofW HT_.out HW_.out (by kernel_rfl)) (fun _ _ _ h => h) (Or.inl ⟨by rfl, ?_⟩) hHeld ?_ ?_
         rotate_left
         ·rintro w' ⟨s0, s1, s2, s3, s4, s5⟩
          go_simp
          with_reducible rfl
         rotate_left
         ·simp only [pz_]
          rfl
         refine take_ (i := 13) (N := some 51) (v := ?_) (a' := ?_) #[t_,t_,t_,t_,t_,t_,t_,t_,t_,t_,t_,t_,t_,t_,f_,f_] rfl rfl (take_ofW HT_.out HW_.out (by kernel_rfl)) (fun _ _ _ h => h) (Or.inl ⟨by rfl, ?_⟩) hHeld ?_ ?_
         rotate_left
         ·rintro w' ⟨s0, s1, s2, s3, s4, s5⟩
          go_simp
          with_reducible rfl
         rotate_left
         ·simp only [pz_]
          rfl
         refine pu_ 14 52 #[t_,t_,t_,t_,t_,t_,t_,t_,t_,t_,t_,t_,t_,t_,t_,f_] HT_.out ?_
         refine pu_ 15 53 #[t_,t_,t_,t_,t_,t_,t_,t_,t_,t_,t_,t_,t_,t_,t_,t_] HT_.out ?_
         refine done_ (done_of HT_.out (by kernel_rfl)) ?_
         try go_wp2
         go_ret2
         exact ⟨_, by first | rfl | (simp [errW_none, errW_some] <;> rfl) | (simp only [← hji25]; first | rfl | (simp [errW_none, errW_some] <;> rfl)) | (simp [*, errW_none, errW_some] <;> rfl), rk_ HO_10.out, bl_ HB.out⟩
       ·rw [if_neg c24] at H
        have c24b0 : decide (0 < x11_2) = false := decide_eq_false c24
        clear c24
        simp only [Option.some.injEq, Prod.mk.injEq] at H
        obtain ⟨rfl, rfl⟩ := H
        try go_wp2
        replace HO_10 := Aside0.mk (Kd.R_drew HO_10.out)
        replace HB := Aside0.mk (below_drew1 HB.out)
        refine start_ (n := 16) (S := fun w' => True) (ds := []) #[f_,f_,f_,f_,f_,f_,f_,f_,f_,f_,f_,f_,f_,f_,f_,f_] (by kernel_rfl) rfl rfl trivial (fun hHeld => ?_); refine with_tabW impl_putWire.tab8 impl_putWire.bits8 (fun HT_ HW_ => ?_)
        generalize wr.drew = w38 at HO_10 HB hHeld ⊢
        refine pu_ 0 38 #[t_,f_,f_,f_,f_,f_,f_,f_,f_,f_,f_,f_,f_,f_,f_,f_] HT_.out ?_
        refine pu_ 1 39 #[t_,t_,f_,f_,f_,f_,f_,f_,f_,f_,f_,f_,f_,f_,f_,f_] HT_.out ?_
        refine pu_ 2 40 #[t_,t_,t_,f_,f_,f_,f_,f_,f_,f_,f_,f_,f_,f_,f_,f_] HT_.out ?_
        refine un_ 3 41 #[t_,t_,t_,t_,f_,f_,f_,f_,f_,f_,f_,f_,f_,f_,f_,f_] HT_.out ?_
        refine un_ 4 42 #[t_,t_,t_,t_,t_,f_,f_,f_,f_,f_,f_,f_,f_,f_,f_,f_] HT_.out ?_
        refine un_ 5 43 #[t_,t_,t_,t_,t_,t_,f_,f_,f_,f_,f_,f_,f_,f_,f_,f_] HT_.out ?_
        refine un_ 6 44 #[t_,t_,t_,t_,t_,t_,t_,f_,f_,f_,f_,f_,f_,f_,f_,f_] HT_.out ?_
        refine un_ 7 45 #[t_,t_,t_,t_,t_,t_,t_,t_,f_,f_,f_,f_,f_,f_,f_,f_] HT_.out ?_
        refine un_ 8 46 #[t_,t_,t_,t_,t_,t_,t_,t_,t_,f_,f_,f_,f_,f_,f_,f_] HT_.out ?_
        refine un_ 9 47 #[t_,t_,t_,t_,t_,t_,t_,t_,t_,t_,f_,f_,f_,f_,f_,f_] HT_.out ?_
        refine un_ 10 48 #[t_,t_,t_,t_,t_,t_,t_,t_,t_,t_,t_,f_,f_,f_,f_,f_] HT_.out ?_
        refine un_ 11 49 #[t_,t_,t_,t_,t_,t_,t_,t_,t_,t_,t_,t_,f_,f_,f_,f_] HT_.out ?_
        refine un_ 12 50 #[t_,t_,t_,t_,t_,t_,t_,t_,t_,t_,t_,t_,t_,f_,f_,f_] HT_.out ?_
        refine un_ 13 51 #[t_,t_,t_,t_,t_,t_,t_,t_,t_,t_,t_,t_,t_,t_,f_,f_] HT_.out ?_
        refine un_ 14 52 #[t_,t_,t_,t_,t_,t_,t_,t_,t_,t_,t_,t_,t_,t_,t_,f_] HT_.out ?_
        refine pu_ 15 53 #[t_,t_,t_,t_,t_,t_,t_,t_,t_,t_,t_,t_,t_,t_,t_,t_] HT_.out ?_
        refine done_ (done_of HT_.out (by kernel_rfl)) ?_
        try go_wp2
        go_ret2
        exact ⟨_, by first | rfl | (simp [errW_none, errW_some] <;> rfl) | (simp [*, errW_none, errW_some] <;> rfl), rk_ HO_10.out, bl_ HB.out⟩
   ·rw [if_neg c4] at H
    have c4b0 : decide (x14_1 < (l0.length : Int)) = false := decide_eq_false c4
    clear c4
    simp only [Option.some.injEq, Prod.mk.injEq] at H
    obtain ⟨rfl, rfl⟩ := H
    go_wp2
    go_ret2
    exact ⟨_, by first | rfl | (simp [errW_none, errW_some] <;> rfl) | (simp [*, errW_none, errW_some] <;> rfl), by first | exact Kd.R_nil _ _ _ _ _ | exact Kd.N_nil _ _ _ _ _ | exact Kd.V_nil _ _ _ _ _ | exact Kd.Q_nil _ _ _ _ _ | exact Kd.S_nil _ _ _ _ _, bl_ HB.out⟩
def impl_WireAll.l0 : Nat → List (S200) → List (S160) → List Int → Int → Int → Option ((List (S160)) × Int)
 | 0, _, _, _, _, _ => none
 | k + 1, x0, x8, x23, x24, x25 => if x25 < x24 then (if 0 ≤ x25 then (if x25 < (x23.length : Int) then ((impl_putWire.f k x0 x8 (rd x23 x25)).bind fun bt337 => (if bt337.2 = true then (impl_WireAll.l0 k x0 bt337.1 x23 x24 (wrap64 (x25 + 1))) else (some (([] : List (S160)), 4)))) else (none)) else (none)) else (some (x8, 0))
def impl_WireAll.f (k : Nat) (l0 : List (S200)) (a1 : Int) (l2 : List (S160)) : Option ((List (S160)) × Int) := (impl_AreWires.f k l0 a1 l2).bind fun t326 => (if t326 = true then ((some (([] : List (S160)) : List (S160))).bind fun y327 => (if y327.length + l2.length < 5864062014805 then ((impl_looseCues.f k a1 l2).bind fun t333 => (impl_WireAll.l0 k l0 (y327 ++ l2) t333 (t333.length : Int) 0)) else (none))) else (some (([] : List (S160)), 1)))
set_option maxHeartbeats 8000000 in
set_option maxRecDepth 100000 in
theorem impl_WireAll.calls (k : Nat) (A0 : Option Addr) (c0 : Nat) (l0 : List (S200)) (a1 : Int) (A2 : Option Addr) (c2 : Nat) (l2 : List (S160)) (r1 : List (S160)) (r2 : Int) (w : World) (hr0 : Kd.C k200 w A0 l0.length l0) (hc0 : l0.length ≤ c0) (hr2 : Kd.C k160 w A2 l2.length l2) (hc2 : l2.length ≤ c2) (h : impl_WireAll.f k l0 a1 l2 = some (r1, r2)) :
  Calls Try.prog 31 #[.slice A0 l0.length c0, .int .i64 a1, .slice A2 l2.length c2] w fun e w' => ∃ v0_ : Value, e = .returned (.tuple #[v0_, .int .i64 r2]) ∧ Kd.R k160 160 w' w.heap.size (fun _ => True) v0_ r1 ∧ Below w.heap.size w w' := by
 have HR0 := Aside0.mk hr0
 have HC0 := Aside0.mk hc0
 clear hr0 hc0
 have HR2 := Aside0.mk hr2
 have HC2 := Aside0.mk hc2
 clear hr2 hc2
 have HB := Aside0.mk (Below.refl w.heap.size w)
 have H : ((impl_AreWires.f k l0 a1 l2).bind fun t326 => (if t326 = true then ((some (([] : List (S160)) : List (S160))).bind fun y327 => (if y327.length + l2.length < 5864062014805 then ((impl_looseCues.f k a1 l2).bind fun t333 => (impl_WireAll.l0 k l0 (y327 ++ l2) t333 (t333.length : Int) 0)) else (none))) else (some (([] : List (S160)), 1)))) = some (r1, r2) := h
 clear h
 replace H := Option.bind_eq_some_iff.mp H
 obtain ⟨t326, A40, H⟩ := H
 replace H : (if t326 = true then ((some (([] : List (S160)) : List (S160))).bind fun y327 => (if y327.length + l2.length < 5864062014805 then ((impl_looseCues.f k a1 l2).bind fun t333 => (impl_WireAll.l0 k l0 (y327 ++ l2) t333 (t333.length : Int) 0)) else (none))) else (some (([] : List (S160)), 1))) = some (r1, r2) := H
 have A4 := Aside0.mk A40
 clear A40
 by_cases c5 : t326 = true
 ·subst c5
  replace H : ((some (([] : List (S160)) : List (S160))).bind fun y327 => (if y327.length + l2.length < 5864062014805 then ((impl_looseCues.f k a1 l2).bind fun t333 => (impl_WireAll.l0 k l0 (y327 ++ l2) t333 (t333.length : Int) 0)) else (none))) = some (r1, r2) := by rw [if_pos rfl] at H; exact H
  obtain ⟨y327, hy327⟩ : ∃ y_ : List (S160), y_ = (([] : List (S160))) := ⟨_, rfl⟩
  replace H : (if y327.length + l2.length < 5864062014805 then ((impl_looseCues.f k a1 l2).bind fun t333 => (impl_WireAll.l0 k l0 (y327 ++ l2) t333 (t333.length : Int) 0)) else (none)) = some (r1, r2) := by first | (rw [hy327]; with_reducible exact H) | (have H2_ := (Option.bind_some _ _).symm.trans H; rw [hy327]; with_reducible exact H2_) | (have H2_ := (Option.bind_some _ _).symm.trans H; with_reducible exact H2_) | with_reducible exact H | (rw [hy327]; exact H) | exact H
  have Ny327 := Aside0.mk hy327
  clear hy327
  by_cases c6 : y327.length + l2.length < 5864062014805
  case neg =>
   rw [if_neg c6] at H
   exact absurd H (by simp)
  rw [if_pos c6] at H
  have LMc6 := Aside0.mk c6
  clear c6
  obtain ⟨y330, hy330⟩ : ∃ y_ : List (S160), y_ = (y327 ++ l2) := ⟨_, rfl⟩
  replace H : ((impl_looseCues.f k a1 l2).bind fun t333 => (impl_WireAll.l0 k l0 y330 t333 (t333.length : Int) 0)) = some (r1, r2) := by first | (rw [hy330]; with_reducible exact H) | (have H2_ := (Option.bind_some _ _).symm.trans H; rw [hy330]; with_reducible exact H2_) | (have H2_ := (Option.bind_some _ _).symm.trans H; with_reducible exact H2_) | with_reducible exact H | (rw [hy330]; exact H) | exact H
  have Ny330 := Aside0.mk hy330
  clear hy330
  replace H := Option.bind_eq_some_iff.mp H
  obtain ⟨t333, A70, H⟩ := H
  replace H : (impl_WireAll.l0 k l0 y330 t333 (t333.length : Int) 0) = some (r1, r2) := H
  have A7 := Aside0.mk A70
  clear A70
  have H' := Aside0.mk H
  clear H
  go_enter Try.func31, Try.ntmps31
  go_wp2_with (first | ((with_reducible refine gate_callee (f := 44) rfl ?_); refine goesL_ (some 16) rfl rfl Try.func44 (by kernel_rfl) rfl #[.slice A0 l0.length c0, .int .i64 a1, .slice A2 l2.length c2] rfl ag_ ?_; (with_reducible refine (impl_AreWires.calls k _ _ l0 a1 _ _ l2 true _ ?side1 ?side2 ?side3 ?side4 A4.out).mono ?_); (case side1 => exact r9_ HR0.out); (case side2 => exact HC0.out); (case side3 => exact r9_ HR2.out); (case side4 => exact HC2.out); rintro e w8 ⟨rfl, hb⟩; refine ⟨_, rfl, ?_⟩; replace HB := Aside0.mk (below_step (bl_ HB.out) hb); (try clear hb); (try clear hb2); (try clear hk); (try clear hi)) | ((with_reducible refine gate_dst (N := 18) rfl ?_); refine Kd.R_lit k160 _ 160 ?hg (N := 18) ?hd (xs := ([] : List (S160))) (inner := []) (ok := fun _ => True) (okp := fun _ => True) ?hr ?hp (fun _ hk => hk) trivial (Below.refl _ _) (Nat.le_refl _) (by simp) ?_; (case hd => rfl); (case hg => rfl); (case hr => first | (go_simp; done) | (go_simp; rfl)); (case hp => exact (Reps.none _ _)); intro v328 w9 ho10 hb hg_ hnew_; clear hg_ hnew_; (first | rw [← Ny327.out] at ho10 | (simp only [Int.reduceToNat] at ho10; rw [← Ny327.out] at ho10)); have HO329 := Aside0.mk (Kd.R_lower ho10 (below_size (bl_ HB.out))); replace HB := Aside0.mk (below_step (bl_ HB.out) hb); clear hb ho10) | ((with_reducible refine gate_builtin (b := .append) (xs := #[.tmp 18, .tmp 19]) rfl ?_); at_builtin; refine Kd.R_append_rows k160 (w0 := w) w.heap.size rfl (.tmp 18) (.tmp 19) 44 160 (.agg #[(.int .i64 0), (.int .i64 0), (.int .i64 0)]) 24 rfl Try.underlying44 info160 rfl (by decide) (by omega) v328 y327 l2 _ _ _ (fun _ => True) (fun _ => False) rfl rfl ?aO ?aR (fun _ _ h => h) (fun _ h => h.elim) ?aF ?aB ?aS ?aL ?_; (case aR => exact r5_ HR2.out HB.out); (case aB => exact (bl_ HB.out)); (case aF => exact (fun _ _ => trivial)); (case aO => exact (rk_ HO329.out)); (case aS => exact (below_size (bl_ HB.out))); (case aL => have := LMc6.out; omega); intro v331 w11 ho hb hg hat; rw [← Ny330.out] at ho; have n0_ := Aside0.mk (hb); have n1_ := Aside0.mk (ho); clear HB; clear HO329; have HB := n0_; have HO332 := n1_; clear n0_ n1_; clear ho hb hg hat) | ((with_reducible refine gate_callee (f := 124) rfl ?_); refine goesL_ (some 23) rfl rfl Try.func124 (by kernel_rfl) rfl #[.int .i64 a1, .slice A2 l2.length c2] rfl ag_ ?_; (with_reducible refine (impl_looseCues.calls k a1 _ _ l2 t333 _ ?side1 ?side2 A7.out).mono ?_); (case side1 => exact r5_ HR2.out HB.out); (case side2 => exact HC2.out); rintro e w12 ⟨v334, rfl, ho0, hb⟩; refine ⟨_, rfl, ?_⟩; replace HO332 := Aside0.mk (Kd.R_below (rk_ HO332.out) hb); have HO335 := Aside0.mk (Kd.R_lower ho0 (below_size (bl_ HB.out))); replace HB := Aside0.mk (below_step (bl_ HB.out) hb); (try clear hb); (try clear hb2); (try clear hk); (try clear hi); (try clear ho0); obtain ⟨Ao13, co13, eo13⟩ := Kd.R_slice HO335.out; subst eo13))
  go_loopg [8, 25] k (fun kq v8 v25 w' => ∃ (x8_1 : List (S160)) (x25_1 : Int), v25 = .int .i64 x25_1 ∧ Aside0 (impl_WireAll.l0 kq l0 x8_1 t333 (t333.length : Int) x25_1 = some (r1, r2)) ∧ Aside0 (kq ≤ k) ∧ Aside0 (Kd.R k160 160 w' w.heap.size (fun _ => True) v8 x8_1) ∧ Aside0 (Kd.R (Kd.int .i64) 2 w' w.heap.size (fun _ => True) (.slice Ao13 t333.length co13) t333) ∧ Aside0 (Below w.heap.size w w'))
  case atStart => exact ⟨(y330), (0), (by first | rfl | (simp; done) | (simp [*]; done)), H', ⟨Nat.le_refl _⟩, ⟨rk_ HO332.out⟩, ⟨rk_ HO335.out⟩, ⟨bl_ HB.out⟩⟩
  case round =>
   clear H'
   try clear c1
   try clear c2
   try clear p2
   try clear c3
   try clear c4
   try clear c5
   try clear c6
   try clear c12
   obtain ⟨x8_1, x25_1, rfl, HA, HK1, HO_8, HO_23, HB⟩ := hrel
   cases gk with
   | zero => exact absurd HA.out (by simp [impl_WireAll.l0])
   | succ k1 =>
    have H := HA.out
    clear HA
    simp only [impl_WireAll.l0] at H
    by_cases c14 : x25_1 < (t333.length : Int)
    ·rw [if_pos c14] at H
     have c14b0 : decide (x25_1 < (t333.length : Int)) = true := decide_eq_true c14
     clear c14
     by_cases c15 : 0 ≤ x25_1
     case neg =>
      rw [if_neg c15] at H
      exact absurd H (by simp)
     rw [if_pos c15] at H
     have c15b0 : decide (0 ≤ x25_1) = true := decide_eq_true c15
     clear c15
     by_cases c16 : x25_1 < (t333.length : Int)
     case neg =>
      rw [if_neg c16] at H
      exact absurd H (by simp)
     rw [if_pos c16] at H
     have c16b0 : decide (x25_1 < (t333.length : Int)) = true := decide_eq_true c16
     clear c16
     replace H := Option.bind_eq_some_iff.mp H
     obtain ⟨⟨t337, t338⟩, A170, H⟩ := H
     replace H : (if t338 = true then (impl_WireAll.l0 k1 l0 t337 t333 (t333.length : Int) (wrap64 (x25_1 + 1))) else (some (([] : List (S160)), 4))) = some (r1, r2) := H
     have A17 := Aside0.mk A170
     clear A170
     by_cases c18 : t338 = true
     ·subst c18
      replace H : (impl_WireAll.l0 k1 l0 t337 t333 (t333.length : Int) (wrap64 (x25_1 + 1))) = some (r1, r2) := by rw [if_pos rfl] at H; exact H
      have H' := Aside0.mk H
      clear H
      have p336 : 0 ≤ (x25_1 : Int) := od_
      have q336 : x25_1 < (t333.length : Int) := od_
      obtain ⟨ad336, e336, hx336_0⟩ := Kd.at_int (Kd.R_reads' HO_23.out).2.2 x25_1 p336 q336
      cases e336
      replace p336 := eq_true p336
      replace q336 := eq_true q336
      obtain ⟨Ao19, co19, eo19⟩ := Kd.R_slice HO_8.out
      subst eo19
      go_wp2_with (first | ((with_reducible refine gate_callee (f := 125) rfl ?_); refine goesL_ (some 33) rfl rfl Try.func125 (by kernel_rfl) rfl #[.slice A0 l0.length c0, .slice Ao19 x8_1.length co19, .int .i64 (rd t333 x25_1)] rfl ag_ ?_; (with_reducible refine (impl_putWire.calls k1 _ _ l0 _ _ x8_1 (rd t333 x25_1) t337 true _ ?side1 ?side2 ?side3 ?side4 A17.out).mono ?_); (case side1 => exact r5_ HR0.out HB.out); (case side2 => exact HC0.out); (case side3 => exact r7_ HO_8.out); (case side4 => exact (Kd.R_reads' HO_8.out).2.1); rintro e w20 ⟨v339, rfl, ho0, hb⟩; refine ⟨_, rfl, ?_⟩; replace HO_23 := Aside0.mk (Kd.R_below (rk_ HO_23.out) hb); have HO340 := Aside0.mk (Kd.R_lower (Kd.R_new' ho0 (Kd.R_lt (rk_ HO_8.out))) (below_size (bl_ HB.out))); replace HO_8 := Aside0.mk (Kd.R_elder' (rk_ HO_8.out) (Kd.R_base ho0) hb); replace HB := Aside0.mk (below_step (bl_ HB.out) hb); (try clear hb); (try clear hb2); (try clear hk); (try clear hi); (try clear ho0)))
      go_roundg k1
      case measure => have := HK1.out; omega
      case rel => exact ⟨(t337), (wrap64 (x25_1 + 1)), (by first | rfl | (simp; done) | (simp [*]; done)), H', ⟨by have := HK1.out; omega⟩, ⟨rk_ (Kd.R_mono HO340.out (fun _ hk => trivial))⟩, ⟨rk_ HO_23.out⟩, ⟨bl_ HB.out⟩⟩
     ·replace c18 := Bool.eq_false_iff.mpr c18
      subst c18
      replace H : (some (([] : List (S160)), 4)) = some (r1, r2) := by rw [if_neg (show ¬ (false = true) by decide)] at H; exact H
      simp only [Option.some.injEq, Prod.mk.injEq] at H
      obtain ⟨rfl, rfl⟩ := H
      have p336 : 0 ≤ (x25_1 : Int) := od_
      have q336 : x25_1 < (t333.length : Int) := od_
      obtain ⟨ad336, e336, hx336_0⟩ := Kd.at_int (Kd.R_reads' HO_23.out).2.2 x25_1 p336 q336
      cases e336
      replace p336 := eq_true p336
      replace q336 := eq_true q336
      obtain ⟨Ao21, co21, eo21⟩ := Kd.R_slice HO_8.out
      subst eo21
      go_wp2_with (first | ((with_reducible refine gate_callee (f := 125) rfl ?_); refine goesL_ (some 33) rfl rfl Try.func125 (by kernel_rfl) rfl #[.slice A0 l0.length c0, .slice Ao21 x8_1.length co21, .int .i64 (rd t333 x25_1)] rfl ag_ ?_; (with_reducible refine (impl_putWire.calls k1 _ _ l0 _ _ x8_1 (rd t333 x25_1) t337 false _ ?side1 ?side2 ?side3 ?side4 A17.out).mono ?_); (case side1 => exact r5_ HR0.out HB.out); (case side2 => exact HC0.out); (case side3 => exact r7_ HO_8.out); (case side4 => exact (Kd.R_reads' HO_8.out).2.1); rintro e w22 ⟨v339, rfl, ho0, hb⟩; refine ⟨_, rfl, ?_⟩; replace HO_23 := Aside0.mk (Kd.R_below (rk_ HO_23.out) hb); have HO340 := Aside0.mk (Kd.R_lower (Kd.R_new' ho0 (Kd.R_lt (rk_ HO_8.out))) (below_size (bl_ HB.out))); replace HO_8 := Aside0.mk (Kd.R_elder' (rk_ HO_8.out) (Kd.R_base ho0) hb); replace HB := Aside0.mk (below_step (bl_ HB.out) hb); (try clear hb); (try clear hb2); (try clear hk); (try clear hi); (try clear ho0)))
      go_ret2
      exact ⟨_, by first | rfl | (simp [errW_none, errW_some] <;> rfl) | (simp [*, errW_none, errW_some] <;> rfl), by first | exact Kd.R_nil _ _ _ _ _ | exact Kd.N_nil _ _ _ _ _ | exact Kd.V_nil _ _ _ _ _ | exact Kd.Q_nil _ _ _ _ _ | exact Kd.S_nil _ _ _ _ _, bl_ HB.out⟩
    ·rw [if_neg c14] at H
     have c14b0 : decide (x25_1 < (t333.length : Int)) = false := decide_eq_false c14
     clear c14
     simp only [Option.some.injEq, Prod.mk.injEq] at H
     obtain ⟨rfl, rfl⟩ := H
     go_wp2
     go_ret2
     exact ⟨_, by first | rfl | (simp [errW_none, errW_some] <;> rfl) | (simp [*, errW_none, errW_some] <;> rfl), rk_ HO_8.out, bl_ HB.out⟩
 ·replace c5 := Bool.eq_false_iff.mpr c5
  subst c5
  replace H : (some (([] : List (S160)), 1)) = some (r1, r2) := by rw [if_neg (show ¬ (false = true) by decide)] at H; exact H
  simp only [Option.some.injEq, Prod.mk.injEq] at H
  obtain ⟨rfl, rfl⟩ := H
  go_enter Try.func31, Try.ntmps31
  go_wp2_with (first | ((with_reducible refine gate_callee (f := 44) rfl ?_); refine goesL_ (some 16) rfl rfl Try.func44 (by kernel_rfl) rfl #[.slice A0 l0.length c0, .int .i64 a1, .slice A2 l2.length c2] rfl ag_ ?_; (with_reducible refine (impl_AreWires.calls k _ _ l0 a1 _ _ l2 false _ ?side1 ?side2 ?side3 ?side4 A4.out).mono ?_); (case side1 => exact r9_ HR0.out); (case side2 => exact HC0.out); (case side3 => exact r9_ HR2.out); (case side4 => exact HC2.out); rintro e w23 ⟨rfl, hb⟩; refine ⟨_, rfl, ?_⟩; replace HB := Aside0.mk (below_step (bl_ HB.out) hb); (try clear hb); (try clear hb2); (try clear hk); (try clear hi)))
  go_ret2
  exact ⟨_, by first | rfl | (simp [errW_none, errW_some] <;> rfl) | (simp [*, errW_none, errW_some] <;> rfl), by first | exact Kd.R_nil _ _ _ _ _ | exact Kd.N_nil _ _ _ _ _ | exact Kd.V_nil _ _ _ _ _ | exact Kd.Q_nil _ _ _ _ _ | exact Kd.S_nil _ _ _ _ _, bl_ HB.out⟩
end Go.Proofs.Ytedcdhnbceaaeaa.PFnWired
