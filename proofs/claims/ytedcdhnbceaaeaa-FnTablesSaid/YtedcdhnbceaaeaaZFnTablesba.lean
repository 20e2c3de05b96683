/- QFnTablesd of the law FnTables: taken over, declaration by declaration, as far as the law leans on it (the words and the printed functions are the kit's own print). No condition but what each says. -/
import Derived.Test.YtedcdhnbceaaeaaZFnTablesav
import Derived.Test.YtedcdhnbceaaeaaZFnTablesaw
import Derived.Test.YtedcdhnbceaaeaaZFnTablesaz
namespace Go.Proofs.Ytedcdhnbceaaeaa.PFnTables
open Go.RowKit Go.Proofs.YtedcdhnbceaaeaaW.PrintWords Go.Proofs.YtedcdhnbceaaeaaW.PrintLast Go.Proofs.YtedcdhnbceaaeaaW.PrintMore
attribute [local go_sem] max2_int min2_int max_two min_two max_three min_three max_four min_four   -- for this text's walks alone
set_option linter.unusedVariables false
set_option linter.unusedSimpArgs false
open Bool renaming true → t_, false → f_
def spec_l01Pick.f (s0_0 : List Int) (s0_1 : Int) (s0_2 : Int) (l1 : List Int) : Option (Int × Int × Int) := (spec_l01Next.f s0_0 s0_1 s0_2 (l1.length : Int)).bind fun bt215 => (if 0 ≤ bt215.1 then (if bt215.1 < (l1.length : Int) then (some (rd l1 bt215.1, bt215.2.1, bt215.2.2)) else (none)) else (none))
set_option maxHeartbeats 8000000 in
set_option maxRecDepth 100000 in
theorem spec_l01Pick.calls (g : Nat) (s0_0 : List Int) (s0_1 : Int) (s0_2 : Int) (A1 : Option Addr) (c1 : Nat) (l1 : List Int) (r1 : Int) (r2 : Int) (r3 : Int) (w0 w : World) (hI : IsS215 w0 w g s0_0 s0_1 s0_2) (hB : Below w0.heap.size w0 w) (hr1 : Kd.C (Kd.int .i64) w A1 l1.length l1) (hc1 : l1.length ≤ c1) (hf1 : ∀ ad, A1 = some ad → 0 < l1.length → ad.block ≠ g) (h : spec_l01Pick.f s0_0 s0_1 s0_2 l1 = some (r1, r2, r3)) :
    Calls Try.prog 145 #[.pointer (some ⟨g, 0, none⟩), .slice A1 l1.length c1] w fun e w' => e = .returned (.int .i64 r1) ∧ IsS215 w0 w' g s0_0 r2 r3 ∧ Below w0.heap.size w0 w' ∧ KeepBut w w' g none := by
  have HR1 := Aside0.mk hr1
  have HC1 := Aside0.mk hc1
  clear hr1 hc1
  have HI0 := Aside0.mk hI
  have HK := Aside0.mk (KeepBut.refl w g none)
  have HL := Aside0.mk hB.size
  clear hI
  have HW0 := Aside0.mk hB.size
  have HB := Aside0.mk hB
  clear hB
  have H : ((spec_l01Next.f s0_0 s0_1 s0_2 (l1.length : Int)).bind fun bt215 => (if 0 ≤ bt215.1 then (if bt215.1 < (l1.length : Int) then (some (rd l1 bt215.1, bt215.2.1, bt215.2.2)) else (none)) else (none))) = some (r1, r2, r3) := h
  clear h
  replace H := Option.bind_eq_some_iff.mp H
  obtain ⟨⟨t215, t216, t217⟩, A30, H⟩ := H
  try dsimp only at H
  have A3 := Aside0.mk A30
  clear A30
  by_cases c4 : 0 ≤ t215
  · rw [if_pos c4] at H
    have c4b0 := decide_eq_true c4
    clear c4
    by_cases c5 : t215 < (l1.length : Int)
    · rw [if_pos c5] at H
      have c5b0 := decide_eq_true c5
      clear c5
      simp only [Option.some.injEq, Prod.mk.injEq] at H
      obtain ⟨rfl, rfl, rfl⟩ := H
      go_enter Try.func145, Try.ntmps145
      go_wp2_with (first | ((with_reducible refine gate_callee (f := 129) rfl ?_); refine goesL_ (some 9) rfl rfl Try.func129 (by kernel_rfl) rfl #[.pointer (some ⟨g, 0, none⟩), .int .i64 (l1.length : Int)] rfl ag_ ?_; (with_reducible refine (spec_l01Next.calls g s0_0 s0_1 s0_2 (l1.length : Int) t215 t216 t217 w0 _ ?side1 ?side2 A3.out).mono ?_); (case side1 => exact r0_ HI0.out); (case side2 => exact r1_ HB.out HI0.out); rintro e w6 ⟨rfl, hi, hb, hk⟩; refine ⟨_, rfl, ?_⟩; replace HK := Aside0.mk (KeepBut.trans (r2_ HK.out) hk (.inl rfl)); replace HB := Aside0.mk (hb); replace HI0 := Aside0.mk (hi); (try clear hb); (try clear hb2); (try clear hk); (try clear hi); have p218 : 0 ≤ (t215 : Int) := od_; have q218 : t215 < (l1.length : Int) := od_; obtain ⟨ad218, e218, hx218_0⟩ := Kd.at_int HR1.out t215 p218 q218; cases e218; replace hx218_0 := keep_cell HK.out hx218_0 (by first | (rw [add_block]; exact hf1 _ rfl (by omega)) | exact hf1 _ rfl (by omega) | exact hf1 ad218 rfl (by omega)); replace p218 := eq_true p218; replace q218 := eq_true q218))
      go_ret
      exact ⟨(re_), r0_ HI0.out, r1_ HB.out HI0.out, r2_ HK.out⟩
    · rw [if_neg c5] at H
      exact absurd H (by simp)
  · rw [if_neg c4] at H
    exact absurd H (by simp)
mutual
def spec_l16Good.l0 : Nat → List (S81) → Int → List Int → Int → Int → Option ((List (S81)) × Int × Int)
 | 0, _, _, _, _, _ => none
 | k + 1, x3, x4, x1000, x1001, x1002 => if x4 < 4 then ((spec_l01Next.f x1000 x1001 x1002 4).bind fun bt222 => (spec_l16Good.l1 k x3 x4 20 0 bt222.1 x1000 bt222.2.1 bt222.2.2)) else (some (x3, x1001, x1002))
def spec_l16Good.l1 : Nat → List (S81) → Int → Int → Int → Int → List Int → Int → Int → Option ((List (S81)) × Int × Int)
 | 0, _, _, _, _, _, _, _, _ => none
 | k + 1, x3, x4, x5, x6, x7, x1000, x1001, x1002 => if x7 > 0 then (spec_l16Good.j2 k x3 x4 x5 x6 x7 (decide (x5 < 300)) x1000 x1001 x1002) else (spec_l16Good.j2 k x3 x4 x5 x6 x7 false x1000 x1001 x1002)
def spec_l16Good.j2 : Nat → List (S81) → Int → Int → Int → Int → Bool → List Int → Int → Int → Option ((List (S81)) × Int × Int)
 | 0, _, _, _, _, _, _, _, _, _ => none
 | k + 1, x3, x4, x5, x6, x7, x20, x1000, x1001, x1002 => if x20 = true then ((spec_l01Next.f x1000 x1001 x1002 120).bind fun bt225 => ((spec_l01Pick.f x1000 bt225.2.1 bt225.2.2 (([30, 55, wrap64 (1 + bt225.1), 280] : List Int))).bind fun bt231 => ((spec_l01Next.f x1000 bt231.2.1 bt231.2.2 300).bind fun bt234 => (if x3.length < 5864062014805 then (spec_l16Good.l1 k (x3 ++ [(⟨x4, mn 300 (wrap64 (x5 + bt231.1)), wrap64 (x6 + bt234.1)⟩ : S81)]) x4 (mn 300 (wrap64 (x5 + bt231.1))) (wrap64 (x6 + bt234.1)) (wrap64 (x7 - 1)) x1000 bt234.2.1 bt234.2.2) else (none))))) else (spec_l16Good.l0 k x3 (wrap64 (x4 + 1)) x1000 x1001 x1002)
end
def spec_l16Good.f (k : Nat) (s0_0 : List Int) (s0_1 : Int) (s0_2 : Int) : Option ((List (S81)) × Int × Int) := spec_l16Good.l0 k (([] : List (S81))) 0 s0_0 s0_1 s0_2
set_option maxHeartbeats 8000000 in
set_option maxRecDepth 100000 in
theorem spec_l16Good.calls (k : Nat) (g : Nat) (s0_0 : List Int) (s0_1 : Int) (s0_2 : Int) (r1 : List (S81)) (r2 : Int) (r3 : Int) (w0 w : World) (hI : IsS215 w0 w g s0_0 s0_1 s0_2) (hB : Below w0.heap.size w0 w) (h : spec_l16Good.f k s0_0 s0_1 s0_2 = some (r1, r2, r3)) :
  Calls Try.prog 207 #[.pointer (some ⟨g, 0, none⟩)] w fun e w' => ∃ v0_ : Value, e = .returned (v0_) ∧ Kd.R k81 81 w' w.heap.size (fun _ => True) v0_ r1 ∧ IsS215 w0 w' g s0_0 r2 r3 ∧ Below w0.heap.size w0 w' ∧ KeepBut w w' g none := by
 have hu81 := Try.underlying81
 have HI0 := Aside0.mk hI
 have HK := Aside0.mk (KeepBut.refl w g none)
 have HL := Aside0.mk hB.size
 clear hI
 have HW0 := Aside0.mk hB.size
 have HB := Aside0.mk hB
 clear hB
 have H : (spec_l16Good.l0 k (([] : List (S81))) 0 s0_0 s0_1 s0_2) = some (r1, r2, r3) := h
 clear h
 obtain ⟨y219, hy219⟩ : ∃ y_ : List (S81), y_ = (([] : List (S81))) := ⟨_, rfl⟩
 replace H : (spec_l16Good.l0 k y219 0 s0_0 s0_1 s0_2) = some (r1, r2, r3) := by first | (rw [hy219]; with_reducible exact H) | (have H2_ := (Option.bind_some _ _).symm.trans H; rw [hy219]; with_reducible exact H2_) | (have H2_ := (Option.bind_some _ _).symm.trans H; with_reducible exact H2_) | with_reducible exact H | (rw [hy219]; exact H) | exact H
 have Ny219 := Aside0.mk hy219
 clear hy219
 have H' := Aside0.mk H
 clear H
 go_enter Try.func207, Try.ntmps207
 go_wp2_with (first | ((with_reducible refine gate_dst (N := 8) rfl ?_); refine Kd.R_lit k81 _ 81 ?hg (N := 8) ?hd (xs := ([] : List (S81))) (inner := []) (ok := fun _ => True) (okp := fun _ => True) ?hr ?hp (fun _ hk => hk) trivial (Below.refl _ _) (Nat.le_refl _) (by simp) ?_; (case hd => rfl); (case hg => rfl); (case hr => first | (go_simp; done) | (go_simp; rfl)); (case hp => exact (Reps.none _ _)); intro v220 w2 ho3 hb hg_ hnew_; clear hg_ hnew_; (first | rw [← Ny219.out] at ho3 | (simp only [Int.reduceToNat] at ho3; rw [← Ny219.out] at ho3)); have HO221 := Aside0.mk (Kd.R_lower ho3 (keep_size (w := w) (g := g) (row := none) (r2_ HK.out))); replace HK := Aside0.mk (KeepBut.trans (r2_ HK.out) (KeepBut.of_below hb g none) (.inl rfl)); replace HB := Aside0.mk (below_step (r1_ HB.out HI0.out) hb); replace HI0 := Aside0.mk (IsS215.below (r0_ HI0.out) hb); clear hb ho3))
 go_loopg [3, 4] k (fun kq v3 v4 w' => ∃ (x3_1 : List (S81)) (x4_1 : Int) (x1001_1 : Int) (x1002_1 : Int), v4 = .int .i64 x4_1 ∧ Aside0 (spec_l16Good.l0 kq x3_1 x4_1 s0_0 x1001_1 x1002_1 = some (r1, r2, r3)) ∧ Aside0 (kq ≤ k) ∧ Aside0 (Kd.R k81 81 w' w.heap.size (fun _ => True) v3 x3_1) ∧ Aside0 (IsS215 w0 w' g s0_0 x1001_1 x1002_1) ∧ Aside0 (KeepBut w w' g none) ∧ Aside0 (Below w0.heap.size w0 w'))
 case atStart => exact ⟨(y219), (0), (s0_1), (s0_2), rs_, H', ⟨Nat.le_refl _⟩, ⟨rk_ HO221.out⟩, ⟨r0_ HI0.out⟩, ⟨r2_ HK.out⟩, ⟨r1_ HB.out HI0.out⟩⟩
 case round =>
  clear H'
  try clear c2
  try clear p2
  obtain ⟨x3_1, x4_1, x1001_1, x1002_1, rfl, HA, HK1, HO_3, HI0, HK, HB⟩ := hrel
  cases gk with
  | zero => exact absurd HA.out (by simp [spec_l16Good.l0])
  | succ k1 =>
   have H := HA.out
   clear HA
   simp only [spec_l16Good.l0] at H
   by_cases c4 : x4_1 < 4
   case neg =>
    rw [if_neg c4] at H
    have c4b0 := decide_eq_false c4
    clear c4
    simp only [Option.some.injEq, Prod.mk.injEq] at H
    obtain ⟨rfl, rfl, rfl⟩ := H
    go_wp2
    go_ret
    exact ⟨_, re_, rk_ HO_3.out, r0_ HI0.out, r1_ HB.out HI0.out, r2_ HK.out⟩


   rw [if_pos c4] at H
   have c4b0 := decide_eq_true c4
   clear c4
   replace H := Option.bind_eq_some_iff.mp H
   obtain ⟨⟨t222, t223, t224⟩, A50, H⟩ := H
   try dsimp only at H
   have A5 := Aside0.mk A50
   clear A50
   have H' := Aside0.mk H
   clear H
   go_wp2_with (first | ((with_reducible refine gate_callee (f := 129) rfl ?_); refine goesL_ (some 14) rfl rfl Try.func129 (by kernel_rfl) rfl #[.pointer (some ⟨g, 0, none⟩), .int .i64 4] rfl ag_ ?_; (with_reducible refine (spec_l01Next.calls g s0_0 x1001_1 x1002_1 4 t222 t223 t224 w0 _ ?side1 ?side2 A5.out).mono ?_); (case side1 => exact r0_ HI0.out); (case side2 => exact r1_ HB.out HI0.out); rintro e w6 ⟨rfl, hi, hb, hk⟩; refine ⟨_, rfl, ?_⟩; replace HO_3 := Aside0.mk (Kd.R_mono (Kd.R_keep (IsS215.apart (show IsS215 w0 _ g s0_0 x1001_1 x1002_1 from r0_ HI0.out) (rk_ HO_3.out) (by decide)) hk (fun _ h => h.2)) (fun _ h => h.1)); replace HK := Aside0.mk (KeepBut.trans (r2_ HK.out) hk (.inl rfl)); replace HB := Aside0.mk (hb); replace HI0 := Aside0.mk (hi); (try clear hb); (try clear hb2); (try clear hk); (try clear hi)))
   go_loopg [3, 5, 6, 7] k1 (fun kq v3 v5 v6 v7 w' => ∃ (x3_2 : List (S81)) (x5_2 : Int) (x6_2 : Int) (x7_2 : Int) (x1001_2 : Int) (x1002_2 : Int), v5 = .int .i64 x5_2 ∧ v6 = .int .i64 x6_2 ∧ v7 = .int .i64 x7_2 ∧ Aside0 (spec_l16Good.l1 kq x3_2 x4_1 x5_2 x6_2 x7_2 s0_0 x1001_2 x1002_2 = some (r1, r2, r3)) ∧ Aside0 (kq ≤ k1) ∧ Aside0 (Kd.R k81 81 w' w.heap.size (fun _ => True) v3 x3_2) ∧ Aside0 (IsS215 w0 w' g s0_0 x1001_2 x1002_2) ∧ Aside0 (KeepBut w w' g none) ∧ Aside0 (Below w0.heap.size w0 w'))
   case atStart => exact ⟨(x3_1), (20), (0), (t222), (t223), (t224), rs_, rs_, rs_, H', ⟨Nat.le_refl _⟩, ⟨rk_ HO_3.out⟩, ⟨r0_ HI0.out⟩, ⟨r2_ HK.out⟩, ⟨r1_ HB.out HI0.out⟩⟩
   case round =>
    clear H'
    try clear c1
    try clear c2
    try clear p2
    try clear c4
    try clear c4b0
    try clear p2
    obtain ⟨x3_2, x5_2, x6_2, x7_2, x1001_2, x1002_2, rfl, rfl, rfl, HA, HK2, HO_3, HI0, HK, HB⟩ := hrel
    cases gk with
    | zero => exact absurd HA.out (by simp [spec_l16Good.l1])
    | succ k2 =>
     have H := HA.out
     clear HA
     simp only [spec_l16Good.l1] at H
     have HC7 := Aside0.mk H
     clear H
     go_upto_region 7 with (fail)
     go_cut [20] (fun v20 wc => ∃ (kq : Nat) (x20_6 : Bool), v20 = .bool x20_6 ∧ Aside0 (spec_l16Good.j2 kq x3_2 x4_1 x5_2 x6_2 x7_2 x20_6 s0_0 x1001_2 x1002_2 = some (r1, r2, r3)) ∧ Aside0 (kq ≤ k2) ∧ Aside0 (Kd.R k81 81 wc w.heap.size (fun _ => True) u3 x3_2) ∧ Aside0 (IsS215 w0 wc g s0_0 x1001_2 x1002_2) ∧ Aside0 (KeepBut w wc g none) ∧ Aside0 (Below w0.heap.size w0 wc))
     case first =>
      have H := HC7.out
      clear HC7
      by_cases c8 : x7_2 > 0
      case neg =>
       rw [if_neg c8] at H
       have c8b0 : decide (0 < x7_2) = false := decide_eq_false c8
       clear c8
       (first | rw [c8b0] | (simp only [i64_w, i32_w]; rw [c8b0]) | skip)
       have H' := Aside0.mk H
       clear H
       go_wp2
       go_meet
       case rel => exact ⟨_, (false), rs_, H', ⟨by have := HK1.out; have := HK2.out; first | omega | exact Nat.le_refl _⟩, ⟨rk_ HO_3.out⟩, ⟨r0_ HI0.out⟩, ⟨r2_ HK.out⟩, ⟨r1_ HB.out HI0.out⟩⟩
      rw [if_pos c8] at H
      have c8b0 : decide (0 < x7_2) = true := decide_eq_true c8
      clear c8
      (first | rw [c8b0] | (simp only [i64_w, i32_w]; rw [c8b0]) | skip)
      have H' := Aside0.mk H
      clear H
      go_wp2
      go_meet
      case rel => exact ⟨_, (decide (x5_2 < 300)), rs_, H', ⟨by have := HK1.out; have := HK2.out; first | omega | exact Nat.le_refl _⟩, ⟨rk_ HO_3.out⟩, ⟨r0_ HI0.out⟩, ⟨r2_ HK.out⟩, ⟨r1_ HB.out HI0.out⟩⟩
     case rest =>
      clear HC7
      try clear c1
      try clear c2
      try clear p2
      try clear c4
      try clear c4b0
      try clear c8
      try clear c8b0
      try clear p2
      obtain ⟨kq, x20_6, rfl, HA, HJ6, HO_3, HI0, HK, HB⟩ := hcut
      cases kq with
      | zero => exact absurd HA.out (by simp [spec_l16Good.j2])
      | succ kj6 =>
       have H := HA.out
       clear HA
       simp only [spec_l16Good.j2] at H
       by_cases c9 : x20_6 = true
       case neg =>
        replace c9 := Bool.eq_false_iff.mpr c9
        subst c9
        rw [if_neg (show ¬ (false = true) by decide)] at H
        have H' := Aside0.mk H
        clear H
        go_wp2
        go_roundg kj6
        case measure => have := HK1.out; have := HK2.out; have := HJ6.out; omega
        case rel => exact ⟨(x3_2), (wrap64 (x4_1 + 1)), (x1001_2), (x1002_2), rs_, H', ⟨by have := HK1.out; have := HK2.out; have := HJ6.out; omega⟩, ⟨rk_ HO_3.out⟩, ⟨r0_ HI0.out⟩, ⟨r2_ HK.out⟩, ⟨r1_ HB.out HI0.out⟩⟩
       subst c9
       rw [if_pos rfl] at H
       replace H := Option.bind_eq_some_iff.mp H
       obtain ⟨⟨t225, t226, t227⟩, A100, H⟩ := H
       try dsimp only at H
       have A10 := Aside0.mk A100
       clear A100
       obtain ⟨y228, hy228⟩ : ∃ y_ : List Int, y_ = (([30, 55, wrap64 (1 + t225), 280] : List Int)) := ⟨_, rfl⟩
       replace H : ((spec_l01Pick.f s0_0 t226 t227 y228).bind fun bt231 => ((spec_l01Next.f s0_0 bt231.2.1 bt231.2.2 300).bind fun bt234 => (if x3_2.length < 5864062014805 then (spec_l16Good.l1 kj6 (x3_2 ++ [(⟨x4_1, mn 300 (wrap64 (x5_2 + bt231.1)), wrap64 (x6_2 + bt234.1)⟩ : S81)]) x4_1 (mn 300 (wrap64 (x5_2 + bt231.1))) (wrap64 (x6_2 + bt234.1)) (wrap64 (x7_2 - 1)) s0_0 bt234.2.1 bt234.2.2) else (none)))) = some (r1, r2, r3) := by first | (rw [hy228]; with_reducible exact H) | (have H2_ := (Option.bind_some _ _).symm.trans H; rw [hy228]; with_reducible exact H2_) | (have H2_ := (Option.bind_some _ _).symm.trans H; with_reducible exact H2_) | with_reducible exact H | (rw [hy228]; exact H) | exact H
       have Ny228 := Aside0.mk hy228
       clear hy228
       replace H := Option.bind_eq_some_iff.mp H
       obtain ⟨⟨t231, t232, t233⟩, A110, H⟩ := H
       try dsimp only at H
       have A11 := Aside0.mk A110
       clear A110
       obtain ⟨ji12, hji12⟩ : ∃ j_ : Int, (mn 300 (wrap64 (x5_2 + t231))) = j_ := ⟨_, rfl⟩
       replace H : ((spec_l01Next.f s0_0 t232 t233 300).bind fun bt234 => (if x3_2.length < 5864062014805 then (spec_l16Good.l1 kj6 (x3_2 ++ [(⟨x4_1, ji12, wrap64 (x6_2 + bt234.1)⟩ : S81)]) x4_1 ji12 (wrap64 (x6_2 + bt234.1)) (wrap64 (x7_2 - 1)) s0_0 bt234.2.1 bt234.2.2) else (none))) = some (r1, r2, r3) := by first | (rw [hji12] at H; exact H) | (simp only [hji12] at H ⊢; exact H)
       (try rw [hji12] at A10)
       (try rw [hji12] at A11)
       have hji12_ : (if (wrap64 (x5_2 + t231)) < 300 then (wrap64 (x5_2 + t231)) else 300) = ji12 := hji12
       replace H := Option.bind_eq_some_iff.mp H
       obtain ⟨⟨t234, t235, t236⟩, A130, H⟩ := H
       try dsimp only at H
       have A13 := Aside0.mk A130
       clear A130
       by_cases c14 : x3_2.length < 5864062014805
       case neg =>
        rw [if_neg c14] at H
        exact absurd H (by simp)
       rw [if_pos c14] at H
       have LMc14 := Aside0.mk c14
       clear c14
       obtain ⟨y237, hy237⟩ : ∃ y_ : List (S81), y_ = (x3_2 ++ [(⟨x4_1, ji12, wrap64 (x6_2 + t234)⟩ : S81)]) := ⟨_, rfl⟩
       replace H : (spec_l16Good.l1 kj6 y237 x4_1 ji12 (wrap64 (x6_2 + t234)) (wrap64 (x7_2 - 1)) s0_0 t235 t236) = some (r1, r2, r3) := by first | (rw [hy237]; with_reducible exact H) | (have H2_ := (Option.bind_some _ _).symm.trans H; rw [hy237]; with_reducible exact H2_) | (have H2_ := (Option.bind_some _ _).symm.trans H; with_reducible exact H2_) | with_reducible exact H | (rw [hy237]; exact H) | exact H
       have Ny237 := Aside0.mk hy237
       clear hy237
       have H' := Aside0.mk H
       clear H
       go_wp2_with (first | ((with_reducible refine gate_callee (f := 129) rfl ?_); refine goesL_ (some 26) rfl rfl Try.func129 (by kernel_rfl) rfl #[.pointer (some ⟨g, 0, none⟩), .int .i64 120] rfl ag_ ?_; (with_reducible refine (spec_l01Next.calls g s0_0 x1001_2 x1002_2 120 t225 t226 t227 w0 _ ?side1 ?side2 A10.out).mono ?_); (case side1 => exact r0_ HI0.out); (case side2 => exact r1_ HB.out HI0.out); rintro e w15 ⟨rfl, hi, hb, hk⟩; refine ⟨_, rfl, ?_⟩; replace HO_3 := Aside0.mk (Kd.R_mono (Kd.R_keep (IsS215.apart (show IsS215 w0 _ g s0_0 x1001_2 x1002_2 from r0_ HI0.out) (rk_ HO_3.out) (by decide)) hk (fun _ h => h.2)) (fun _ h => h.1)); replace HK := Aside0.mk (KeepBut.trans (r2_ HK.out) hk (.inl rfl)); replace HB := Aside0.mk (hb); replace HI0 := Aside0.mk (hi); (try clear hb); (try clear hb2); (try clear hk); (try clear hi)) | ((with_reducible refine gate_dst (N := 28) rfl ?_); refine Kd.R_lit (Kd.int .i64) _ 2 ?hg (N := 28) ?hd (xs := ([30, 55, wrap64 (1 + t225), 280] : List Int)) (inner := [.int .i64 30, .int .i64 55, .int .i64 (wrap64 (1 + t225)), .int .i64 280]) (ok := fun _ => True) (okp := fun _ => True) ?hr ?hp (fun _ hk => hk) trivial (Below.refl _ _) (Nat.le_refl _) (by simp) ?_; (case hd => rfl); (case hg => rfl); (case hr => first | (go_simp; done) | (go_simp; rfl)); (case hp => exact (Reps.one (show Kd.M (Kd.int .i64) _ _ _ 30 [.int .i64 30] from rfl) (Reps.one (show Kd.M (Kd.int .i64) _ _ _ 55 [.int .i64 55] from rfl) (Reps.one (show Kd.M (Kd.int .i64) _ _ _ (wrap64 (1 + t225)) [.int .i64 (wrap64 (1 + t225))] from rfl) (Reps.one (show Kd.M (Kd.int .i64) _ _ _ 280 [.int .i64 280] from rfl) (Reps.none _ _)))))); intro v229 w16 ho17 hb hg_ hnew_; clear hg_ hnew_; (first | rw [← Ny228.out] at ho17 | (simp only [Int.reduceToNat] at ho17; rw [← Ny228.out] at ho17)); replace HO_3 := Aside0.mk (Kd.R_below (rk_ HO_3.out) hb); have HO230 := Aside0.mk (Kd.R_lower ho17 (keep_size (w := w) (g := g) (row := none) (r2_ HK.out))); replace HK := Aside0.mk (KeepBut.trans (r2_ HK.out) (KeepBut.of_below hb g none) (.inl rfl)); replace HB := Aside0.mk (below_step (r1_ HB.out HI0.out) hb); replace HI0 := Aside0.mk (IsS215.below (r0_ HI0.out) hb); clear hb ho17; obtain ⟨Ao18, co18, eo18⟩ := Kd.R_slice HO230.out; subst eo18) | ((with_reducible refine gate_callee (f := 145) rfl ?_); refine goesL_ (some 29) rfl rfl Try.func145 (by kernel_rfl) rfl #[.pointer (some ⟨g, 0, none⟩), .slice Ao18 y228.length co18] rfl ag_ ?_; (with_reducible refine (spec_l01Pick.calls g s0_0 t226 t227 _ _ y228 t231 t232 t233 w0 _ ?side1 ?side2 ?side3 ?side4 ?side5 A11.out).mono ?_); (case side1 => exact r0_ HI0.out); (case side2 => exact r1_ HB.out HI0.out); (case side3 => exact r6_ HO230.out); (case side4 => exact (Kd.R_reads' HO230.out).2.1); (case side5 => exact far_slice (IsS215.own_ne HI0.out HO230.out (by decide))); rintro e w19 ⟨rfl, hi, hb, hk⟩; refine ⟨_, rfl, ?_⟩; replace HO_3 := Aside0.mk (Kd.R_mono (Kd.R_keep (IsS215.apart (show IsS215 w0 _ g s0_0 t226 t227 from r0_ HI0.out) (rk_ HO_3.out) (by decide)) hk (fun _ h => h.2)) (fun _ h => h.1)); replace HO230 := Aside0.mk (Kd.R_mono (Kd.R_keep (IsS215.apart (show IsS215 w0 _ g s0_0 t226 t227 from r0_ HI0.out) (rk_ HO230.out) (by decide)) hk (fun _ h => h.2)) (fun _ h => h.1)); replace HK := Aside0.mk (KeepBut.trans (r2_ HK.out) hk (.inl rfl)); replace HB := Aside0.mk (hb); replace HI0 := Aside0.mk (hi); (try clear hb); (try clear hb2); (try clear hk); (try clear hi)) | ((with_reducible refine gate_callee (f := 129) rfl ?_); refine goesL_ (some 34) rfl rfl Try.func129 (by kernel_rfl) rfl #[.pointer (some ⟨g, 0, none⟩), .int .i64 300] rfl ag_ ?_; (with_reducible refine (spec_l01Next.calls g s0_0 t232 t233 300 t234 t235 t236 w0 _ ?side1 ?side2 A13.out).mono ?_); (case side1 => exact r0_ HI0.out); (case side2 => exact r1_ HB.out HI0.out); rintro e w20 ⟨rfl, hi, hb, hk⟩; refine ⟨_, rfl, ?_⟩; replace HO_3 := Aside0.mk (Kd.R_mono (Kd.R_keep (IsS215.apart (show IsS215 w0 _ g s0_0 t232 t233 from r0_ HI0.out) (rk_ HO_3.out) (by decide)) hk (fun _ h => h.2)) (fun _ h => h.1)); replace HO230 := Aside0.mk (Kd.R_mono (Kd.R_keep (IsS215.apart (show IsS215 w0 _ g s0_0 t232 t233 from r0_ HI0.out) (rk_ HO230.out) (by decide)) hk (fun _ h => h.2)) (fun _ h => h.1)); replace HK := Aside0.mk (KeepBut.trans (r2_ HK.out) hk (.inl rfl)); replace HB := Aside0.mk (hb); replace HI0 := Aside0.mk (hi); (try clear hb); (try clear hb2); (try clear hk); (try clear hi)) | ((with_reducible refine gate_builtin (b := .append) (xs := #[.tmp 36, .tmp 41]) rfl ?_); at_builtin; refine Kd.R_append k81 w.heap.size rfl (.tmp 36) (.tmp 41) 29 81 (.agg #[(.int .i64 0), (.int .i64 0), (.int .i64 0)]) 24 rfl Try.underlying29 info81 rfl (by decide) (by omega) u3 x3_2 (⟨x4_1, ji12, wrap64 (x6_2 + t234)⟩ : S81) [.int .i64 x4_1, .int .i64 ji12, .int .i64 (wrap64 (x6_2 + t234))] (fun _ => True) (fun _ => False) rfl rfl ?aP (fun _ hk => hk.elim) ?aF ?aO (Below.refl _ _) ?aS ?aL ?_; (case aP => exact k81_mkM _ _ _ (⟨x4_1, ji12, wrap64 (x6_2 + t234)⟩ : S81)); (case aF => exact (fun _ _ => trivial)); (case aO => exact (rk_ HO_3.out)); (case aS => exact (keep_size (w := w) (g := g) (row := none) (r2_ HK.out))); (case aL => have := LMc14.out; omega); intro v238 w21 ho hb hg hat; rw [← Ny237.out] at ho; have n0_ := Aside0.mk (IsS215.grown (r0_ HI0.out) hg (IsS215.own_ne HI0.out HO_3.out (by decide))); have n1_ := Aside0.mk (Kd.R_over' (rk_ HO230.out) (Kd.R_typed (rk_ HO_3.out)) (by decide) hg); have n2_ := Aside0.mk (below_weaken (r1_ HB.out HI0.out) HL.out hb); have n3_ := Aside0.mk (KeepBut.trans (r2_ HK.out) (KeepBut.of_grown hg g) (Kd.R_base2 HO_3.out)); have n4_ := Aside0.mk (ho); clear HI0; clear HO230; clear HB; clear HK; clear HO_3; have HI0 := n0_; have HO230 := n1_; have HB := n2_; have HK := n3_; have HO239 := n4_; clear n0_ n1_ n2_ n3_ n4_; clear ho hb hg hat))
       go_roundg kj6
       case measure => have := HK1.out; have := HK2.out; have := HJ6.out; omega
       case rel => exact ⟨(y237), (ji12), (wrap64 (x6_2 + t234)), (wrap64 (x7_2 - 1)), (t235), (t236), (by first | rfl | (simp; done) | (simp only [← hji12] <;> (first | rfl | simp)) | (simp [*]; done)), rs_, rs_, H', ⟨by have := HK1.out; have := HK2.out; have := HJ6.out; omega⟩, ⟨rk_ HO239.out⟩, ⟨r0_ HI0.out⟩, ⟨r2_ HK.out⟩, ⟨r1_ HB.out HI0.out⟩⟩
def spec_l16Draw.f (k : Nat) (s0_0 : List Int) (s0_1 : Int) (s0_2 : Int) : Option ((List (S81)) × Int × Int) := (spec_l16Good.f k s0_0 s0_1 s0_2).bind fun bt240 => (if (bt240.1.length : Int) > 0 then ((spec_l01Next.f s0_0 bt240.2.1 bt240.2.2 (bt240.1.length : Int)).bind fun bt245 => ((spec_l01Next.f s0_0 bt245.2.1 bt245.2.2 30).bind fun bt248 => (if bt248.1 = 0 then ((spec_l01Pick.f s0_0 bt248.2.1 bt248.2.2 (([(-1), 0, 10000, 10001] : List Int))).bind fun bt254 => (if 0 ≤ bt245.1 then (if bt245.1 < (bt240.1.length : Int) then (some ((bt240.1.set (bt245.1 : Int).toNat (⟨(rd_T81 bt240.1 bt245.1).f0, (rd_T81 bt240.1 bt245.1).f1, bt254.1⟩ : S81)), bt254.2.1, bt254.2.2)) else (none)) else (none))) else (if bt248.1 = 1 then ((spec_l01Pick.f s0_0 bt248.2.1 bt248.2.2 (([19, 20, 300, 301] : List Int))).bind fun bt261 => (if 0 ≤ bt245.1 then (if bt245.1 < (bt240.1.length : Int) then (some ((bt240.1.set (bt245.1 : Int).toNat (⟨(rd_T81 bt240.1 bt245.1).f0, bt261.1, (rd_T81 bt240.1 bt245.1).f2⟩ : S81)), bt261.2.1, bt261.2.2)) else (none)) else (none))) else (if bt248.1 = 2 then (if 0 ≤ bt245.1 then (if bt245.1 < (bt240.1.length : Int) then (if bt240.1.length < 5864062014805 then (some ((bt240.1 ++ [(⟨(rd_T81 bt240.1 bt245.1).f0, (rd_T81 bt240.1 bt245.1).f1, (rd_T81 bt240.1 bt245.1).f2⟩ : S81)]), bt248.2.1, bt248.2.2)) else (none)) else (none)) else (none)) else (some (bt240.1, bt248.2.1, bt248.2.2))))))) else (some (bt240.1, bt240.2.1, bt240.2.2)))
set_option maxHeartbeats 8000000 in
set_option maxRecDepth 100000 in
theorem spec_l16Draw.calls (k : Nat) (g : Nat) (s0_0 : List Int) (s0_1 : Int) (s0_2 : Int) (r1 : List (S81)) (r2 : Int) (r3 : Int) (w0 w : World) (hI : IsS215 w0 w g s0_0 s0_1 s0_2) (hB : Below w0.heap.size w0 w) (h : spec_l16Draw.f k s0_0 s0_1 s0_2 = some (r1, r2, r3)) :
  Calls Try.prog 144 #[.pointer (some ⟨g, 0, none⟩)] w fun e w' => ∃ v0_ : Value, e = .returned (v0_) ∧ Kd.R k81 81 w' w.heap.size (fun _ => True) v0_ r1 ∧ IsS215 w0 w' g s0_0 r2 r3 ∧ Below w0.heap.size w0 w' ∧ KeepBut w w' g none := by
 have hu81 := Try.underlying81
 have HI0 := Aside0.mk hI
 have HK := Aside0.mk (KeepBut.refl w g none)
 have HL := Aside0.mk hB.size
 clear hI
 have HW0 := Aside0.mk hB.size
 have HB := Aside0.mk hB
 clear hB
 have H : ((spec_l16Good.f k s0_0 s0_1 s0_2).bind fun bt240 => (if (bt240.1.length : Int) > 0 then ((spec_l01Next.f s0_0 bt240.2.1 bt240.2.2 (bt240.1.length : Int)).bind fun bt245 => ((spec_l01Next.f s0_0 bt245.2.1 bt245.2.2 30).bind fun bt248 => (if bt248.1 = 0 then ((spec_l01Pick.f s0_0 bt248.2.1 bt248.2.2 (([(-1), 0, 10000, 10001] : List Int))).bind fun bt254 => (if 0 ≤ bt245.1 then (if bt245.1 < (bt240.1.length : Int) then (some ((bt240.1.set (bt245.1 : Int).toNat (⟨(rd_T81 bt240.1 bt245.1).f0, (rd_T81 bt240.1 bt245.1).f1, bt254.1⟩ : S81)), bt254.2.1, bt254.2.2)) else (none)) else (none))) else (if bt248.1 = 1 then ((spec_l01Pick.f s0_0 bt248.2.1 bt248.2.2 (([19, 20, 300, 301] : List Int))).bind fun bt261 => (if 0 ≤ bt245.1 then (if bt245.1 < (bt240.1.length : Int) then (some ((bt240.1.set (bt245.1 : Int).toNat (⟨(rd_T81 bt240.1 bt245.1).f0, bt261.1, (rd_T81 bt240.1 bt245.1).f2⟩ : S81)), bt261.2.1, bt261.2.2)) else (none)) else (none))) else (if bt248.1 = 2 then (if 0 ≤ bt245.1 then (if bt245.1 < (bt240.1.length : Int) then (if bt240.1.length < 5864062014805 then (some ((bt240.1 ++ [(⟨(rd_T81 bt240.1 bt245.1).f0, (rd_T81 bt240.1 bt245.1).f1, (rd_T81 bt240.1 bt245.1).f2⟩ : S81)]), bt248.2.1, bt248.2.2)) else (none)) else (none)) else (none)) else (some (bt240.1, bt248.2.1, bt248.2.2))))))) else (some (bt240.1, bt240.2.1, bt240.2.2)))) = some (r1, r2, r3) := h
 clear h
 replace H := Option.bind_eq_some_iff.mp H
 obtain ⟨⟨t240, t243, t244⟩, A20, H⟩ := H
 try dsimp only at H
 have A2 := Aside0.mk A20
 clear A20
 by_cases c3 : (t240.length : Int) > 0
 case neg =>
  rw [if_neg c3] at H
  have c3b0 : decide (0 < (t240.length : Int)) = false := decide_eq_false c3
  have c3b1 : decide (0 < t240.length) = false := decide_eq_false (by omega)
  clear c3
  simp only [Option.some.injEq, Prod.mk.injEq] at H
  obtain ⟨rfl, rfl, rfl⟩ := H
  go_enter Try.func144, Try.ntmps144
  go_wp2_with (first | ((with_reducible refine gate_callee (f := 207) rfl ?_); refine goesL_ (some 6) rfl rfl Try.func207 (by kernel_rfl) rfl #[.pointer (some ⟨g, 0, none⟩)] rfl ag_ ?_; (with_reducible refine (spec_l16Good.calls k g s0_0 s0_1 s0_2 t240 t243 t244 w0 _ ?side1 ?side2 A2.out).mono ?_); (case side1 => exact r0_ HI0.out); (case side2 => exact r1_ HB.out HI0.out); rintro e w49 ⟨v241, rfl, ho0, hi, hb, hk⟩; refine ⟨_, rfl, ?_⟩; have HO242 := Aside0.mk (Kd.R_lower ho0 (keep_size (w := w) (g := g) (row := none) (r2_ HK.out))); replace HK := Aside0.mk (KeepBut.trans (r2_ HK.out) hk (.inl rfl)); replace HB := Aside0.mk (hb); replace HI0 := Aside0.mk (hi); (try clear hb); (try clear hb2); (try clear hk); (try clear hi); (try clear ho0); obtain ⟨Ao50, co50, eo50⟩ := Kd.R_slice HO242.out; subst eo50))
  go_ret
  exact ⟨_, re_, rk_ HO242.out, r0_ HI0.out, r1_ HB.out HI0.out, r2_ HK.out⟩


 rw [if_pos c3] at H
 have c3b0 : decide (0 < (t240.length : Int)) = true := decide_eq_true c3
 have c3b1 : decide (0 < t240.length) = true := decide_eq_true (by omega)
 clear c3
 replace H := Option.bind_eq_some_iff.mp H
 obtain ⟨⟨t245, t246, t247⟩, A40, H⟩ := H
 try dsimp only at H
 have A4 := Aside0.mk A40
 clear A40
 replace H := Option.bind_eq_some_iff.mp H
 obtain ⟨⟨t248, t249, t250⟩, A50, H⟩ := H
 try dsimp only at H
 have A5 := Aside0.mk A50
 clear A50
 by_cases c6 : t248 = 0
 case pos =>
  rw [if_pos c6] at H
  have c6b0 := beq_iff_eq.mpr c6
  have c6b1 := bne_eq_false_iff_eq.mpr c6
  clear c6
  obtain ⟨y251, hy251⟩ : ∃ y_ : List Int, y_ = (([(-1), 0, 10000, 10001] : List Int)) := ⟨_, rfl⟩
  replace H : ((spec_l01Pick.f s0_0 t249 t250 y251).bind fun bt254 => (if 0 ≤ t245 then (if t245 < (t240.length : Int) then (some ((t240.set (t245 : Int).toNat (⟨(rd_T81 t240 t245).f0, (rd_T81 t240 t245).f1, bt254.1⟩ : S81)), bt254.2.1, bt254.2.2)) else (none)) else (none))) = some (r1, r2, r3) := by first | (rw [hy251]; with_reducible exact H) | (have H2_ := (Option.bind_some _ _).symm.trans H; rw [hy251]; with_reducible exact H2_) | (have H2_ := (Option.bind_some _ _).symm.trans H; with_reducible exact H2_) | with_reducible exact H | (rw [hy251]; exact H) | exact H
  have Ny251 := Aside0.mk hy251
  clear hy251
  replace H := Option.bind_eq_some_iff.mp H
  obtain ⟨⟨t254, t255, t256⟩, A70, H⟩ := H
  try dsimp only at H
  have A7 := Aside0.mk A70
  clear A70
  by_cases c8 : 0 ≤ t245
  case neg =>
   rw [if_neg c8] at H
   exact absurd H (by simp)
  rw [if_pos c8] at H
  have c8b0 := decide_eq_true c8
  clear c8
  by_cases c9 : t245 < (t240.length : Int)
  case neg =>
   rw [if_neg c9] at H
   exact absurd H (by simp)
  rw [if_pos c9] at H
  have c9b0 := decide_eq_true c9
  clear c9
  obtain ⟨y257, hy257⟩ : ∃ y_ : List (S81), y_ = (t240.set (t245 : Int).toNat (⟨(rd_T81 t240 t245).f0, (rd_T81 t240 t245).f1, t254⟩ : S81)) := ⟨_, rfl⟩
  replace H : (some (y257, t255, t256)) = some (r1, r2, r3) := by first | (rw [hy257]; with_reducible exact H) | (have H2_ := (Option.bind_some _ _).symm.trans H; rw [hy257]; with_reducible exact H2_) | (have H2_ := (Option.bind_some _ _).symm.trans H; with_reducible exact H2_) | with_reducible exact H | (rw [hy257]; exact H) | exact H
  have Ny257 := Aside0.mk hy257
  clear hy257
  simp only [Option.some.injEq, Prod.mk.injEq] at H
  obtain ⟨rfl, rfl, rfl⟩ := H
  go_enter Try.func144, Try.ntmps144
  go_wp2_with (first | ((with_reducible refine gate_callee (f := 207) rfl ?_); refine goesL_ (some 6) rfl rfl Try.func207 (by kernel_rfl) rfl #[.pointer (some ⟨g, 0, none⟩)] rfl ag_ ?_; (with_reducible refine (spec_l16Good.calls k g s0_0 s0_1 s0_2 t240 t243 t244 w0 _ ?side1 ?side2 A2.out).mono ?_); (case side1 => exact r0_ HI0.out); (case side2 => exact r1_ HB.out HI0.out); rintro e w11 ⟨v241, rfl, ho0, hi, hb, hk⟩; refine ⟨_, rfl, ?_⟩; have HO242 := Aside0.mk (Kd.R_lower ho0 (keep_size (w := w) (g := g) (row := none) (r2_ HK.out))); replace HK := Aside0.mk (KeepBut.trans (r2_ HK.out) hk (.inl rfl)); replace HB := Aside0.mk (hb); replace HI0 := Aside0.mk (hi); (try clear hb); (try clear hb2); (try clear hk); (try clear hi); (try clear ho0); obtain ⟨Ao12, co12, eo12⟩ := Kd.R_slice HO242.out; subst eo12) | ((with_reducible refine gate_callee (f := 129) rfl ?_); refine goesL_ (some 13) rfl rfl Try.func129 (by kernel_rfl) rfl #[.pointer (some ⟨g, 0, none⟩), .int .i64 (t240.length : Int)] rfl ag_ ?_; (with_reducible refine (spec_l01Next.calls g s0_0 t243 t244 (t240.length : Int) t245 t246 t247 w0 _ ?side1 ?side2 A4.out).mono ?_); (case side1 => exact r0_ HI0.out); (case side2 => exact r1_ HB.out HI0.out); rintro e w13 ⟨rfl, hi, hb, hk⟩; refine ⟨_, rfl, ?_⟩; replace HO242 := Aside0.mk (Kd.R_mono (Kd.R_keep (IsS215.apart (show IsS215 w0 _ g s0_0 t243 t244 from r0_ HI0.out) (rk_ HO242.out) (by decide)) hk (fun _ h => h.2)) (fun _ h => h.1)); replace HK := Aside0.mk (KeepBut.trans (r2_ HK.out) hk (.inl rfl)); replace HB := Aside0.mk (hb); replace HI0 := Aside0.mk (hi); (try clear hb); (try clear hb2); (try clear hk); (try clear hi)) | ((with_reducible refine gate_callee (f := 129) rfl ?_); refine goesL_ (some 15) rfl rfl Try.func129 (by kernel_rfl) rfl #[.pointer (some ⟨g, 0, none⟩), .int .i64 30] rfl ag_ ?_; (with_reducible refine (spec_l01Next.calls g s0_0 t246 t247 30 t248 t249 t250 w0 _ ?side1 ?side2 A5.out).mono ?_); (case side1 => exact r0_ HI0.out); (case side2 => exact r1_ HB.out HI0.out); rintro e w14 ⟨rfl, hi, hb, hk⟩; refine ⟨_, rfl, ?_⟩; replace HO242 := Aside0.mk (Kd.R_mono (Kd.R_keep (IsS215.apart (show IsS215 w0 _ g s0_0 t246 t247 from r0_ HI0.out) (rk_ HO242.out) (by decide)) hk (fun _ h => h.2)) (fun _ h => h.1)); replace HK := Aside0.mk (KeepBut.trans (r2_ HK.out) hk (.inl rfl)); replace HB := Aside0.mk (hb); replace HI0 := Aside0.mk (hi); (try clear hb); (try clear hb2); (try clear hk); (try clear hi)) | ((with_reducible refine gate_dst (N := 21) rfl ?_); refine Kd.R_lit (Kd.int .i64) _ 2 ?hg (N := 21) ?hd (xs := ([(-1), 0, 10000, 10001] : List Int)) (inner := [.int .i64 (-1), .int .i64 0, .int .i64 10000, .int .i64 10001]) (ok := fun _ => True) (okp := fun _ => True) ?hr ?hp (fun _ hk => hk) trivial (Below.refl _ _) (Nat.le_refl _) (by simp) ?_; (case hd => rfl); (case hg => rfl); (case hr => first | (go_simp; done) | (go_simp; rfl)); (case hp => exact (Reps.one (show Kd.M (Kd.int .i64) _ _ _ (-1) [.int .i64 (-1)] from rfl) (Reps.one (show Kd.M (Kd.int .i64) _ _ _ 0 [.int .i64 0] from rfl) (Reps.one (show Kd.M (Kd.int .i64) _ _ _ 10000 [.int .i64 10000] from rfl) (Reps.one (show Kd.M (Kd.int .i64) _ _ _ 10001 [.int .i64 10001] from rfl) (Reps.none _ _)))))); intro v252 w15 ho16 hb hg_ hnew_; clear hg_ hnew_; (first | rw [← Ny251.out] at ho16 | (simp only [Int.reduceToNat] at ho16; rw [← Ny251.out] at ho16)); replace HO242 := Aside0.mk (Kd.R_below (rk_ HO242.out) hb); have HO253 := Aside0.mk (Kd.R_lower ho16 (keep_size (w := w) (g := g) (row := none) (r2_ HK.out))); replace HK := Aside0.mk (KeepBut.trans (r2_ HK.out) (KeepBut.of_below hb g none) (.inl rfl)); replace HB := Aside0.mk (below_step (r1_ HB.out HI0.out) hb); replace HI0 := Aside0.mk (IsS215.below (r0_ HI0.out) hb); clear hb ho16; obtain ⟨Ao17, co17, eo17⟩ := Kd.R_slice HO253.out; subst eo17) | ((with_reducible refine gate_callee (f := 145) rfl ?_); refine goesL_ (some 22) rfl rfl Try.func145 (by kernel_rfl) rfl #[.pointer (some ⟨g, 0, none⟩), .slice Ao17 y251.length co17] rfl ag_ ?_; (with_reducible refine (spec_l01Pick.calls g s0_0 t249 t250 _ _ y251 t254 t255 t256 w0 _ ?side1 ?side2 ?side3 ?side4 ?side5 A7.out).mono ?_); (case side1 => exact r0_ HI0.out); (case side2 => exact r1_ HB.out HI0.out); (case side3 => exact r6_ HO253.out); (case side4 => exact (Kd.R_reads' HO253.out).2.1); (case side5 => exact far_slice (IsS215.own_ne HI0.out HO253.out (by decide))); rintro e w18 ⟨rfl, hi, hb, hk⟩; refine ⟨_, rfl, ?_⟩; replace HO242 := Aside0.mk (Kd.R_mono (Kd.R_keep (IsS215.apart (show IsS215 w0 _ g s0_0 t249 t250 from r0_ HI0.out) (rk_ HO242.out) (by decide)) hk (fun _ h => h.2)) (fun _ h => h.1)); replace HO253 := Aside0.mk (Kd.R_mono (Kd.R_keep (IsS215.apart (show IsS215 w0 _ g s0_0 t249 t250 from r0_ HI0.out) (rk_ HO253.out) (by decide)) hk (fun _ h => h.2)) (fun _ h => h.1)); replace HK := Aside0.mk (KeepBut.trans (r2_ HK.out) hk (.inl rfl)); replace HB := Aside0.mk (hb); replace HI0 := Aside0.mk (hi); (try clear hb); (try clear hb2); (try clear hk); (try clear hi); have p10 : 0 ≤ (t245 : Int) := od_; have q10 : (t245 : Int) < ((t240.length : Int) : Int) := od_; obtain ⟨go10, co10, eo10, gb10, gl10, cl10, HG10⟩ := Kd.R_form HO242.out (by omega); (first | cases eo10 | (injection eo10 with ea_ en_ ec_; (first | subst ea_ | (injection ea_ with ea_; subst ea_)); subst ec_; clear en_)); have GB10 := Aside0.mk gb10; have GG10 := Aside0.mk HG10; clear gb10 gl10 HG10; obtain ⟨ce10, hcl10, hM10, hcc10, hfr10⟩ := Kd.R_elem HO242.out z81 (t245 : Int) p10 q10; obtain rfl := k81_openM hM10; have hx10_0 : w18.cell? ⟨go10, (t245 : Int).toNat * 3, none⟩ = some (.int .i64 ((rd_T81 t240 t245).f0)) := hcc10 0 _ rfl; have hx10_1 : w18.cell? ⟨go10, (t245 : Int).toNat * 3 + 1, none⟩ = some (.int .i64 ((rd_T81 t240 t245).f1)) := hcc10 1 _ rfl; have hx10_2 : w18.cell? ⟨go10, (t245 : Int).toNat * 3 + 2, none⟩ = some (.int .i64 ((rd_T81 t240 t245).f2)) := hcc10 2 _ rfl; have hf10_0 : w18.frozen? ⟨go10, (t245 : Int).toNat * 3, none⟩ = false := hfr10 0; have hf10_1 : w18.frozen? ⟨go10, (t245 : Int).toNat * 3 + 1, none⟩ = false := hfr10 1; have hf10_2 : w18.frozen? ⟨go10, (t245 : Int).toNat * 3 + 2, none⟩ = false := hfr10 2; clear hcl10 hcc10 hfr10 hM10; replace p10 := eq_true p10; replace q10 := eq_true q10; have HX19 := Aside0.mk (show Kd.R k81 81 w18 w.heap.size (fun _ => True) (.slice (some ⟨go10, 0, none⟩) t240.length co12) t240 from (rk_ HO242.out)); obtain ⟨ce19, hcl19, hM19, hcc19, hfr19⟩ := Kd.R_elem HX19.out z81 (t245 : Int) od_ (by have h_ : (t245 : Int) < ((t240.length : Int) : Int) := od_; first | exact h_ | (have e_ := (Kd.R_reads' HO242.out).1; omega) | simpa using h_); obtain rfl := k81_openM hM19; have HP19 := Kd.R_seg HX19.out (t245 : Int) od_ (by have h_ : (t245 : Int) < ((t240.length : Int) : Int) := od_; first | exact h_ | (have e_ := (Kd.R_reads' HO242.out).1; omega) | simpa using h_) (seg := [.int .i64 t254]) (j := 2) hcl19 hcc19 (show 3 ≤ 3 from by decide) (x' := (⟨(rd_T81 t240 t245).f0, (rd_T81 t240 t245).f1, t254⟩ : S81)) (k81_mkM _ _ _ (⟨(rd_T81 t240 t245).f0, (rd_T81 t240 t245).f1, t254⟩ : S81) ) (fun _ hk => hk); have hx19_2 := hcc19 2 _ rfl; (try simp only [show (k81).sz = 3 from rfl, Nat.mul_one, Nat.add_zero] at hx19_2); have hf19_2 := hfr19 2; (try simp only [show (k81).sz = 3 from rfl, Nat.mul_one, Nat.add_zero] at hf19_2); clear hcl19 hcc19 hfr19 hM19) | ((with_reducible refine gate_store (t := 2) (p := 24) rfl ?_); refine store_event (t := 2) (p := 24) (v := ?vo_w20) (w1 := (w18.setCell ⟨go10, (t245 : Int).toNat * 3 + 2, none⟩ (.int .i64 t254))) ?hg ?ho ?hn ?hr ?_; (case ho => rfl); (case hg => rfl); (case hn => rfl); (case hr => first | (go_simp; done) | (go_simp; rfl)); intro w20 hw; have hg : w18.grownBy w20 (some go10) := (by rw [hw]; exact HP19.2); have hp_ : Kd.R k81 81 w20 w.heap.size (fun _ => True) (.slice (some ⟨go10, 0, none⟩) t240.length co12) y257 := (by rw [hw, Ny257.out]; exact HP19.1); clear HP19; replace HI0 := Aside0.mk (IsS215.grown (r0_ HI0.out) hg (IsS215.own_ne HI0.out HO242.out (by decide))); replace HO253 := Aside0.mk (Kd.R_over' (v := (.slice (some ⟨go10, 0, none⟩) t240.length co12)) (rk_ HO253.out) (Kd.R_typed HO242.out) (by decide) hg); replace HB := Aside0.mk ((by rw [hw]; exact below_set (HB.out) (Nat.le_trans HL.out GB10.out) : Below w0.heap.size w0 w20)); replace HK := Aside0.mk (KeepBut.trans (r2_ HK.out) (KeepBut.of_grown hg g) (Kd.R_base2 HO242.out)); replace HO242 := Aside0.mk (hp_); clear hg hw hp_))
  go_ret
  exact ⟨_, re_, rk_ HO242.out, r0_ HI0.out, r1_ HB.out HI0.out, r2_ HK.out⟩
 rw [if_neg c6] at H
 have c6b0 := beq_eq_false_iff_ne.mpr c6
 have c6b1 := bne_iff_ne.mpr c6
 by_cases c21 : t248 = 1
 case pos =>
  rw [if_pos c21] at H
  have c21b0 := beq_iff_eq.mpr c21
  have c21b1 := bne_eq_false_iff_eq.mpr c21
  clear c21
  obtain ⟨y258, hy258⟩ : ∃ y_ : List Int, y_ = (([19, 20, 300, 301] : List Int)) := ⟨_, rfl⟩
  replace H : ((spec_l01Pick.f s0_0 t249 t250 y258).bind fun bt261 => (if 0 ≤ t245 then (if t245 < (t240.length : Int) then (some ((t240.set (t245 : Int).toNat (⟨(rd_T81 t240 t245).f0, bt261.1, (rd_T81 t240 t245).f2⟩ : S81)), bt261.2.1, bt261.2.2)) else (none)) else (none))) = some (r1, r2, r3) := by first | (rw [hy258]; with_reducible exact H) | (have H2_ := (Option.bind_some _ _).symm.trans H; rw [hy258]; with_reducible exact H2_) | (have H2_ := (Option.bind_some _ _).symm.trans H; with_reducible exact H2_) | with_reducible exact H | (rw [hy258]; exact H) | exact H
  have Ny258 := Aside0.mk hy258
  clear hy258
  replace H := Option.bind_eq_some_iff.mp H
  obtain ⟨⟨t261, t262, t263⟩, A220, H⟩ := H
  try dsimp only at H
  have A22 := Aside0.mk A220
  clear A220
  by_cases c23 : 0 ≤ t245
  case neg =>
   rw [if_neg c23] at H
   exact absurd H (by simp)
  rw [if_pos c23] at H
  have c23b0 := decide_eq_true c23
  clear c23
  by_cases c24 : t245 < (t240.length : Int)
  case neg =>
   rw [if_neg c24] at H
   exact absurd H (by simp)
  rw [if_pos c24] at H
  have c24b0 := decide_eq_true c24
  clear c24
  obtain ⟨y264, hy264⟩ : ∃ y_ : List (S81), y_ = (t240.set (t245 : Int).toNat (⟨(rd_T81 t240 t245).f0, t261, (rd_T81 t240 t245).f2⟩ : S81)) := ⟨_, rfl⟩
  replace H : (some (y264, t262, t263)) = some (r1, r2, r3) := by first | (rw [hy264]; with_reducible exact H) | (have H2_ := (Option.bind_some _ _).symm.trans H; rw [hy264]; with_reducible exact H2_) | (have H2_ := (Option.bind_some _ _).symm.trans H; with_reducible exact H2_) | with_reducible exact H | (rw [hy264]; exact H) | exact H
  have Ny264 := Aside0.mk hy264
  clear hy264
  simp only [Option.some.injEq, Prod.mk.injEq] at H
  obtain ⟨rfl, rfl, rfl⟩ := H
  go_enter Try.func144, Try.ntmps144
  go_wp2_with (first | ((with_reducible refine gate_callee (f := 207) rfl ?_); refine goesL_ (some 6) rfl rfl Try.func207 (by kernel_rfl) rfl #[.pointer (some ⟨g, 0, none⟩)] rfl ag_ ?_; (with_reducible refine (spec_l16Good.calls k g s0_0 s0_1 s0_2 t240 t243 t244 w0 _ ?side1 ?side2 A2.out).mono ?_); (case side1 => exact r0_ HI0.out); (case side2 => exact r1_ HB.out HI0.out); rintro e w26 ⟨v241, rfl, ho0, hi, hb, hk⟩; refine ⟨_, rfl, ?_⟩; have HO242 := Aside0.mk (Kd.R_lower ho0 (keep_size (w := w) (g := g) (row := none) (r2_ HK.out))); replace HK := Aside0.mk (KeepBut.trans (r2_ HK.out) hk (.inl rfl)); replace HB := Aside0.mk (hb); replace HI0 := Aside0.mk (hi); (try clear hb); (try clear hb2); (try clear hk); (try clear hi); (try clear ho0); obtain ⟨Ao27, co27, eo27⟩ := Kd.R_slice HO242.out; subst eo27) | ((with_reducible refine gate_callee (f := 129) rfl ?_); refine goesL_ (some 13) rfl rfl Try.func129 (by kernel_rfl) rfl #[.pointer (some ⟨g, 0, none⟩), .int .i64 (t240.length : Int)] rfl ag_ ?_; (with_reducible refine (spec_l01Next.calls g s0_0 t243 t244 (t240.length : Int) t245 t246 t247 w0 _ ?side1 ?side2 A4.out).mono ?_); (case side1 => exact r0_ HI0.out); (case side2 => exact r1_ HB.out HI0.out); rintro e w28 ⟨rfl, hi, hb, hk⟩; refine ⟨_, rfl, ?_⟩; replace HO242 := Aside0.mk (Kd.R_mono (Kd.R_keep (IsS215.apart (show IsS215 w0 _ g s0_0 t243 t244 from r0_ HI0.out) (rk_ HO242.out) (by decide)) hk (fun _ h => h.2)) (fun _ h => h.1)); replace HK := Aside0.mk (KeepBut.trans (r2_ HK.out) hk (.inl rfl)); replace HB := Aside0.mk (hb); replace HI0 := Aside0.mk (hi); (try clear hb); (try clear hb2); (try clear hk); (try clear hi)) | ((with_reducible refine gate_callee (f := 129) rfl ?_); refine goesL_ (some 15) rfl rfl Try.func129 (by kernel_rfl) rfl #[.pointer (some ⟨g, 0, none⟩), .int .i64 30] rfl ag_ ?_; (with_reducible refine (spec_l01Next.calls g s0_0 t246 t247 30 t248 t249 t250 w0 _ ?side1 ?side2 A5.out).mono ?_); (case side1 => exact r0_ HI0.out); (case side2 => exact r1_ HB.out HI0.out); rintro e w29 ⟨rfl, hi, hb, hk⟩; refine ⟨_, rfl, ?_⟩; replace HO242 := Aside0.mk (Kd.R_mono (Kd.R_keep (IsS215.apart (show IsS215 w0 _ g s0_0 t246 t247 from r0_ HI0.out) (rk_ HO242.out) (by decide)) hk (fun _ h => h.2)) (fun _ h => h.1)); replace HK := Aside0.mk (KeepBut.trans (r2_ HK.out) hk (.inl rfl)); replace HB := Aside0.mk (hb); replace HI0 := Aside0.mk (hi); (try clear hb); (try clear hb2); (try clear hk); (try clear hi)) | ((with_reducible refine gate_dst (N := 30) rfl ?_); refine Kd.R_lit (Kd.int .i64) _ 2 ?hg (N := 30) ?hd (xs := ([19, 20, 300, 301] : List Int)) (inner := [.int .i64 19, .int .i64 20, .int .i64 300, .int .i64 301]) (ok := fun _ => True) (okp := fun _ => True) ?hr ?hp (fun _ hk => hk) trivial (Below.refl _ _) (Nat.le_refl _) (by simp) ?_; (case hd => rfl); (case hg => rfl); (case hr => first | (go_simp; done) | (go_simp; rfl)); (case hp => exact (Reps.one (show Kd.M (Kd.int .i64) _ _ _ 19 [.int .i64 19] from rfl) (Reps.one (show Kd.M (Kd.int .i64) _ _ _ 20 [.int .i64 20] from rfl) (Reps.one (show Kd.M (Kd.int .i64) _ _ _ 300 [.int .i64 300] from rfl) (Reps.one (show Kd.M (Kd.int .i64) _ _ _ 301 [.int .i64 301] from rfl) (Reps.none _ _)))))); intro v259 w30 ho31 hb hg_ hnew_; clear hg_ hnew_; (first | rw [← Ny258.out] at ho31 | (simp only [Int.reduceToNat] at ho31; rw [← Ny258.out] at ho31)); replace HO242 := Aside0.mk (Kd.R_below (rk_ HO242.out) hb); have HO260 := Aside0.mk (Kd.R_lower ho31 (keep_size (w := w) (g := g) (row := none) (r2_ HK.out))); replace HK := Aside0.mk (KeepBut.trans (r2_ HK.out) (KeepBut.of_below hb g none) (.inl rfl)); replace HB := Aside0.mk (below_step (r1_ HB.out HI0.out) hb); replace HI0 := Aside0.mk (IsS215.below (r0_ HI0.out) hb); clear hb ho31; obtain ⟨Ao32, co32, eo32⟩ := Kd.R_slice HO260.out; subst eo32) | ((with_reducible refine gate_callee (f := 145) rfl ?_); refine goesL_ (some 31) rfl rfl Try.func145 (by kernel_rfl) rfl #[.pointer (some ⟨g, 0, none⟩), .slice Ao32 y258.length co32] rfl ag_ ?_; (with_reducible refine (spec_l01Pick.calls g s0_0 t249 t250 _ _ y258 t261 t262 t263 w0 _ ?side1 ?side2 ?side3 ?side4 ?side5 A22.out).mono ?_); (case side1 => exact r0_ HI0.out); (case side2 => exact r1_ HB.out HI0.out); (case side3 => exact r6_ HO260.out); (case side4 => exact (Kd.R_reads' HO260.out).2.1); (case side5 => exact far_slice (IsS215.own_ne HI0.out HO260.out (by decide))); rintro e w33 ⟨rfl, hi, hb, hk⟩; refine ⟨_, rfl, ?_⟩; replace HO242 := Aside0.mk (Kd.R_mono (Kd.R_keep (IsS215.apart (show IsS215 w0 _ g s0_0 t249 t250 from r0_ HI0.out) (rk_ HO242.out) (by decide)) hk (fun _ h => h.2)) (fun _ h => h.1)); replace HO260 := Aside0.mk (Kd.R_mono (Kd.R_keep (IsS215.apart (show IsS215 w0 _ g s0_0 t249 t250 from r0_ HI0.out) (rk_ HO260.out) (by decide)) hk (fun _ h => h.2)) (fun _ h => h.1)); replace HK := Aside0.mk (KeepBut.trans (r2_ HK.out) hk (.inl rfl)); replace HB := Aside0.mk (hb); replace HI0 := Aside0.mk (hi); (try clear hb); (try clear hb2); (try clear hk); (try clear hi); have p25 : 0 ≤ (t245 : Int) := od_; have q25 : (t245 : Int) < ((t240.length : Int) : Int) := od_; obtain ⟨go25, co25, eo25, gb25, gl25, cl25, HG25⟩ := Kd.R_form HO242.out (by omega); (first | cases eo25 | (injection eo25 with ea_ en_ ec_; (first | subst ea_ | (injection ea_ with ea_; subst ea_)); subst ec_; clear en_)); have GB25 := Aside0.mk gb25; have GG25 := Aside0.mk HG25; clear gb25 gl25 HG25; obtain ⟨ce25, hcl25, hM25, hcc25, hfr25⟩ := Kd.R_elem HO242.out z81 (t245 : Int) p25 q25; obtain rfl := k81_openM hM25; have hx25_0 : w33.cell? ⟨go25, (t245 : Int).toNat * 3, none⟩ = some (.int .i64 ((rd_T81 t240 t245).f0)) := hcc25 0 _ rfl; have hx25_1 : w33.cell? ⟨go25, (t245 : Int).toNat * 3 + 1, none⟩ = some (.int .i64 ((rd_T81 t240 t245).f1)) := hcc25 1 _ rfl; have hx25_2 : w33.cell? ⟨go25, (t245 : Int).toNat * 3 + 2, none⟩ = some (.int .i64 ((rd_T81 t240 t245).f2)) := hcc25 2 _ rfl; have hf25_0 : w33.frozen? ⟨go25, (t245 : Int).toNat * 3, none⟩ = false := hfr25 0; have hf25_1 : w33.frozen? ⟨go25, (t245 : Int).toNat * 3 + 1, none⟩ = false := hfr25 1; have hf25_2 : w33.frozen? ⟨go25, (t245 : Int).toNat * 3 + 2, none⟩ = false := hfr25 2; clear hcl25 hcc25 hfr25 hM25; replace p25 := eq_true p25; replace q25 := eq_true q25; have HX34 := Aside0.mk (show Kd.R k81 81 w33 w.heap.size (fun _ => True) (.slice (some ⟨go25, 0, none⟩) t240.length co27) t240 from (rk_ HO242.out)); obtain ⟨ce34, hcl34, hM34, hcc34, hfr34⟩ := Kd.R_elem HX34.out z81 (t245 : Int) od_ (by have h_ : (t245 : Int) < ((t240.length : Int) : Int) := od_; first | exact h_ | (have e_ := (Kd.R_reads' HO242.out).1; omega) | simpa using h_); obtain rfl := k81_openM hM34; have HP34 := Kd.R_seg HX34.out (t245 : Int) od_ (by have h_ : (t245 : Int) < ((t240.length : Int) : Int) := od_; first | exact h_ | (have e_ := (Kd.R_reads' HO242.out).1; omega) | simpa using h_) (seg := [.int .i64 t261]) (j := 1) hcl34 hcc34 (show 2 ≤ 3 from by decide) (x' := (⟨(rd_T81 t240 t245).f0, t261, (rd_T81 t240 t245).f2⟩ : S81)) (k81_mkM _ _ _ (⟨(rd_T81 t240 t245).f0, t261, (rd_T81 t240 t245).f2⟩ : S81) ) (fun _ hk => hk); have hx34_1 := hcc34 1 _ rfl; (try simp only [show (k81).sz = 3 from rfl, Nat.mul_one, Nat.add_zero] at hx34_1); have hf34_1 := hfr34 1; (try simp only [show (k81).sz = 3 from rfl, Nat.mul_one, Nat.add_zero] at hf34_1); clear hcl34 hcc34 hfr34 hM34) | ((with_reducible refine gate_store (t := 2) (p := 33) rfl ?_); refine store_event (t := 2) (p := 33) (v := ?vo_w35) (w1 := (w33.setCell ⟨go25, (t245 : Int).toNat * 3 + 1, none⟩ (.int .i64 t261))) ?hg ?ho ?hn ?hr ?_; (case ho => rfl); (case hg => rfl); (case hn => rfl); (case hr => first | (go_simp; done) | (go_simp; rfl)); intro w35 hw; have hg : w33.grownBy w35 (some go25) := (by rw [hw]; exact HP34.2); have hp_ : Kd.R k81 81 w35 w.heap.size (fun _ => True) (.slice (some ⟨go25, 0, none⟩) t240.length co27) y264 := (by rw [hw, Ny264.out]; exact HP34.1); clear HP34; replace HI0 := Aside0.mk (IsS215.grown (r0_ HI0.out) hg (IsS215.own_ne HI0.out HO242.out (by decide))); replace HO260 := Aside0.mk (Kd.R_over' (v := (.slice (some ⟨go25, 0, none⟩) t240.length co27)) (rk_ HO260.out) (Kd.R_typed HO242.out) (by decide) hg); replace HB := Aside0.mk ((by rw [hw]; exact below_set (HB.out) (Nat.le_trans HL.out GB25.out) : Below w0.heap.size w0 w35)); replace HK := Aside0.mk (KeepBut.trans (r2_ HK.out) (KeepBut.of_grown hg g) (Kd.R_base2 HO242.out)); replace HO242 := Aside0.mk (hp_); clear hg hw hp_))
  go_ret
  exact ⟨_, re_, rk_ HO242.out, r0_ HI0.out, r1_ HB.out HI0.out, r2_ HK.out⟩
 rw [if_neg c21] at H
 have c21b0 := beq_eq_false_iff_ne.mpr c21
 have c21b1 := bne_iff_ne.mpr c21
 by_cases c36 : t248 = 2
 case neg =>
  rw [if_neg c36] at H
  have c36b0 := beq_eq_false_iff_ne.mpr c36
  have c36b1 := bne_iff_ne.mpr c36
  simp only [Option.some.injEq, Prod.mk.injEq] at H
  obtain ⟨rfl, rfl, rfl⟩ := H
  go_enter Try.func144, Try.ntmps144
  go_wp2_with (first | ((with_reducible refine gate_callee (f := 207) rfl ?_); refine goesL_ (some 6) rfl rfl Try.func207 (by kernel_rfl) rfl #[.pointer (some ⟨g, 0, none⟩)] rfl ag_ ?_; (with_reducible refine (spec_l16Good.calls k g s0_0 s0_1 s0_2 t240 t243 t244 w0 _ ?side1 ?side2 A2.out).mono ?_); (case side1 => exact r0_ HI0.out); (case side2 => exact r1_ HB.out HI0.out); rintro e w45 ⟨v241, rfl, ho0, hi, hb, hk⟩; refine ⟨_, rfl, ?_⟩; have HO242 := Aside0.mk (Kd.R_lower ho0 (keep_size (w := w) (g := g) (row := none) (r2_ HK.out))); replace HK := Aside0.mk (KeepBut.trans (r2_ HK.out) hk (.inl rfl)); replace HB := Aside0.mk (hb); replace HI0 := Aside0.mk (hi); (try clear hb); (try clear hb2); (try clear hk); (try clear hi); (try clear ho0); obtain ⟨Ao46, co46, eo46⟩ := Kd.R_slice HO242.out; subst eo46) | ((with_reducible refine gate_callee (f := 129) rfl ?_); refine goesL_ (some 13) rfl rfl Try.func129 (by kernel_rfl) rfl #[.pointer (some ⟨g, 0, none⟩), .int .i64 (t240.length : Int)] rfl ag_ ?_; (with_reducible refine (spec_l01Next.calls g s0_0 t243 t244 (t240.length : Int) t245 t246 t247 w0 _ ?side1 ?side2 A4.out).mono ?_); (case side1 => exact r0_ HI0.out); (case side2 => exact r1_ HB.out HI0.out); rintro e w47 ⟨rfl, hi, hb, hk⟩; refine ⟨_, rfl, ?_⟩; replace HO242 := Aside0.mk (Kd.R_mono (Kd.R_keep (IsS215.apart (show IsS215 w0 _ g s0_0 t243 t244 from r0_ HI0.out) (rk_ HO242.out) (by decide)) hk (fun _ h => h.2)) (fun _ h => h.1)); replace HK := Aside0.mk (KeepBut.trans (r2_ HK.out) hk (.inl rfl)); replace HB := Aside0.mk (hb); replace HI0 := Aside0.mk (hi); (try clear hb); (try clear hb2); (try clear hk); (try clear hi)) | ((with_reducible refine gate_callee (f := 129) rfl ?_); refine goesL_ (some 15) rfl rfl Try.func129 (by kernel_rfl) rfl #[.pointer (some ⟨g, 0, none⟩), .int .i64 30] rfl ag_ ?_; (with_reducible refine (spec_l01Next.calls g s0_0 t246 t247 30 t248 t249 t250 w0 _ ?side1 ?side2 A5.out).mono ?_); (case side1 => exact r0_ HI0.out); (case side2 => exact r1_ HB.out HI0.out); rintro e w48 ⟨rfl, hi, hb, hk⟩; refine ⟨_, rfl, ?_⟩; replace HO242 := Aside0.mk (Kd.R_mono (Kd.R_keep (IsS215.apart (show IsS215 w0 _ g s0_0 t246 t247 from r0_ HI0.out) (rk_ HO242.out) (by decide)) hk (fun _ h => h.2)) (fun _ h => h.1)); replace HK := Aside0.mk (KeepBut.trans (r2_ HK.out) hk (.inl rfl)); replace HB := Aside0.mk (hb); replace HI0 := Aside0.mk (hi); (try clear hb); (try clear hb2); (try clear hk); (try clear hi)))
  go_ret
  exact ⟨_, re_, rk_ HO242.out, r0_ HI0.out, r1_ HB.out HI0.out, r2_ HK.out⟩
 rw [if_pos c36] at H
 have c36b0 := beq_iff_eq.mpr c36
 have c36b1 := bne_eq_false_iff_eq.mpr c36
 clear c36
 by_cases c37 : 0 ≤ t245
 case neg =>
  rw [if_neg c37] at H
  exact absurd H (by simp)
 rw [if_pos c37] at H
 have c37b0 := decide_eq_true c37
 clear c37
 by_cases c38 : t245 < (t240.length : Int)
 case neg =>
  rw [if_neg c38] at H
  exact absurd H (by simp)
 rw [if_pos c38] at H
 have c38b0 := decide_eq_true c38
 clear c38
 by_cases c39 : t240.length < 5864062014805
 case neg =>
  rw [if_neg c39] at H
  exact absurd H (by simp)
 rw [if_pos c39] at H
 have LMc39 := Aside0.mk c39
 clear c39
 obtain ⟨y266, hy266⟩ : ∃ y_ : List (S81), y_ = (t240 ++ [(⟨(rd_T81 t240 t245).f0, (rd_T81 t240 t245).f1, (rd_T81 t240 t245).f2⟩ : S81)]) := ⟨_, rfl⟩
 replace H : (some (y266, t249, t250)) = some (r1, r2, r3) := by first | (rw [hy266]; with_reducible exact H) | (have H2_ := (Option.bind_some _ _).symm.trans H; rw [hy266]; with_reducible exact H2_) | (have H2_ := (Option.bind_some _ _).symm.trans H; with_reducible exact H2_) | with_reducible exact H | (rw [hy266]; exact H) | exact H
 have Ny266 := Aside0.mk hy266
 clear hy266
 simp only [Option.some.injEq, Prod.mk.injEq] at H
 obtain ⟨rfl, rfl, rfl⟩ := H
 go_enter Try.func144, Try.ntmps144
 go_wp2_with (first | ((with_reducible refine gate_callee (f := 207) rfl ?_); refine goesL_ (some 6) rfl rfl Try.func207 (by kernel_rfl) rfl #[.pointer (some ⟨g, 0, none⟩)] rfl ag_ ?_; (with_reducible refine (spec_l16Good.calls k g s0_0 s0_1 s0_2 t240 t243 t244 w0 _ ?side1 ?side2 A2.out).mono ?_); (case side1 => exact r0_ HI0.out); (case side2 => exact r1_ HB.out HI0.out); rintro e w40 ⟨v241, rfl, ho0, hi, hb, hk⟩; refine ⟨_, rfl, ?_⟩; have HO242 := Aside0.mk (Kd.R_lower ho0 (keep_size (w := w) (g := g) (row := none) (r2_ HK.out))); replace HK := Aside0.mk (KeepBut.trans (r2_ HK.out) hk (.inl rfl)); replace HB := Aside0.mk (hb); replace HI0 := Aside0.mk (hi); (try clear hb); (try clear hb2); (try clear hk); (try clear hi); (try clear ho0); obtain ⟨Ao41, co41, eo41⟩ := Kd.R_slice HO242.out; subst eo41) | ((with_reducible refine gate_callee (f := 129) rfl ?_); refine goesL_ (some 13) rfl rfl Try.func129 (by kernel_rfl) rfl #[.pointer (some ⟨g, 0, none⟩), .int .i64 (t240.length : Int)] rfl ag_ ?_; (with_reducible refine (spec_l01Next.calls g s0_0 t243 t244 (t240.length : Int) t245 t246 t247 w0 _ ?side1 ?side2 A4.out).mono ?_); (case side1 => exact r0_ HI0.out); (case side2 => exact r1_ HB.out HI0.out); rintro e w42 ⟨rfl, hi, hb, hk⟩; refine ⟨_, rfl, ?_⟩; replace HO242 := Aside0.mk (Kd.R_mono (Kd.R_keep (IsS215.apart (show IsS215 w0 _ g s0_0 t243 t244 from r0_ HI0.out) (rk_ HO242.out) (by decide)) hk (fun _ h => h.2)) (fun _ h => h.1)); replace HK := Aside0.mk (KeepBut.trans (r2_ HK.out) hk (.inl rfl)); replace HB := Aside0.mk (hb); replace HI0 := Aside0.mk (hi); (try clear hb); (try clear hb2); (try clear hk); (try clear hi)) | ((with_reducible refine gate_callee (f := 129) rfl ?_); refine goesL_ (some 15) rfl rfl Try.func129 (by kernel_rfl) rfl #[.pointer (some ⟨g, 0, none⟩), .int .i64 30] rfl ag_ ?_; (with_reducible refine (spec_l01Next.calls g s0_0 t246 t247 30 t248 t249 t250 w0 _ ?side1 ?side2 A5.out).mono ?_); (case side1 => exact r0_ HI0.out); (case side2 => exact r1_ HB.out HI0.out); rintro e w43 ⟨rfl, hi, hb, hk⟩; refine ⟨_, rfl, ?_⟩; replace HO242 := Aside0.mk (Kd.R_mono (Kd.R_keep (IsS215.apart (show IsS215 w0 _ g s0_0 t246 t247 from r0_ HI0.out) (rk_ HO242.out) (by decide)) hk (fun _ h => h.2)) (fun _ h => h.1)); replace HK := Aside0.mk (KeepBut.trans (r2_ HK.out) hk (.inl rfl)); replace HB := Aside0.mk (hb); replace HI0 := Aside0.mk (hi); (try clear hb); (try clear hb2); (try clear hk); (try clear hi); have p265 : 0 ≤ (t245 : Int) := od_; have q265 : t245 < (t240.length : Int) := od_; obtain ⟨ad265, e265, hx265_0, hx265_1, hx265_2⟩ := at_T81 (Kd.R_reads' HO242.out).2.2 t245 p265 q265; cases e265; replace p265 := eq_true p265; replace q265 := eq_true q265) | ((with_reducible refine gate_builtin (b := .append) (xs := #[.tmp 36, .tmp 41]) rfl ?_); at_builtin; refine Kd.R_append k81 w.heap.size rfl (.tmp 36) (.tmp 41) 29 81 (.agg #[(.int .i64 0), (.int .i64 0), (.int .i64 0)]) 24 rfl Try.underlying29 info81 rfl (by decide) (by omega) (.slice (some ad265) t240.length co41) t240 (⟨(rd_T81 t240 t245).f0, (rd_T81 t240 t245).f1, (rd_T81 t240 t245).f2⟩ : S81) [.int .i64 ((rd_T81 t240 t245).f0), .int .i64 ((rd_T81 t240 t245).f1), .int .i64 ((rd_T81 t240 t245).f2)] (fun _ => True) (fun _ => False) rfl rfl ?aP (fun _ hk => hk.elim) ?aF ?aO (Below.refl _ _) ?aS ?aL ?_; (case aP => exact k81_mkM _ _ _ (⟨(rd_T81 t240 t245).f0, (rd_T81 t240 t245).f1, (rd_T81 t240 t245).f2⟩ : S81)); (case aF => exact (fun _ _ => trivial)); (case aO => exact (rk_ HO242.out)); (case aS => exact (keep_size (w := w) (g := g) (row := none) (r2_ HK.out))); (case aL => have := LMc39.out; omega); intro v267 w44 ho hb hg hat; rw [← Ny266.out] at ho; have n0_ := Aside0.mk (IsS215.grown (r0_ HI0.out) hg (IsS215.own_ne HI0.out HO242.out (by decide))); have n1_ := Aside0.mk (below_weaken (r1_ HB.out HI0.out) HL.out hb); have n2_ := Aside0.mk (KeepBut.trans (r2_ HK.out) (KeepBut.of_grown hg g) (Kd.R_base2 HO242.out)); have n3_ := Aside0.mk (ho); clear HI0; clear HB; clear HK; clear HO242; have HI0 := n0_; have HB := n1_; have HK := n2_; have HO268 := n3_; clear n0_ n1_ n2_ n3_; clear ho hb hg hat))
 go_ret
 exact ⟨_, re_, rk_ HO268.out, r0_ HI0.out, r1_ HB.out HI0.out, r2_ HK.out⟩
def spec_DrawWidenTable.j0 : Nat → List (S81) → Bool → List Int → Int → Int → Option ((List (S81)) × Int)
 | 0, _, _, _, _, _ => none
 | k + 1, x5, x17, x273000, x273001, x273002 => if x17 = true then ((spec_l01Next.f x273000 x273001 x273002 5001).bind fun bt281 => (if 0 ≤ (wrap64 ((x5.length : Int) - 1)) then (if (wrap64 ((x5.length : Int) - 1)) < (x5.length : Int) then ((spec_l01Next.f x273000 bt281.2.1 bt281.2.2 101).bind fun bt285 => ((spec_l01Pick.f x273000 bt285.2.1 bt285.2.2 (([bt285.1, 0, 100, 101, (-1), 10] : List Int))).bind fun bt291 => (some ((x5.set ((wrap64 ((x5.length : Int) - 1)) : Int).toNat (⟨(rd_T81 x5 (wrap64 ((x5.length : Int) - 1))).f0, (rd_T81 x5 (wrap64 ((x5.length : Int) - 1))).f1, wrap64 (5000 + bt281.1)⟩ : S81)), bt291.1)))) else (none)) else (none))) else ((spec_l01Next.f x273000 x273001 x273002 101).bind fun bt294 => ((spec_l01Pick.f x273000 bt294.2.1 bt294.2.2 (([bt294.1, 0, 100, 101, (-1), 10] : List Int))).bind fun bt300 => (some (x5, bt300.1))))
def spec_DrawWidenTable.f (k : Nat) (l0 : List Int) : Option ((List (S81)) × Int) := (spec_l01From.f k l0).bind fun bt269 => ((spec_l16Draw.f k bt269.1 bt269.2.1 bt269.2.2).bind fun bt273 => (if (bt273.1.length : Int) > 0 then ((spec_l01Next.f bt269.1 bt273.2.1 bt273.2.2 12).bind fun bt278 => (spec_DrawWidenTable.j0 k bt273.1 (bt278.1 == 0) bt269.1 bt278.2.1 bt278.2.2)) else (spec_DrawWidenTable.j0 k bt273.1 false bt269.1 bt273.2.1 bt273.2.2)))
set_option maxHeartbeats 8000000 in
set_option maxRecDepth 100000 in
theorem spec_DrawWidenTable.calls (k : Nat) (A0 : Option Addr) (c0 : Nat) (l0 : List Int) (r1 : List (S81)) (r2 : Int) (w : World) (hr0 : Kd.C (Kd.int .u8) w A0 l0.length l0) (hc0 : l0.length ≤ c0) (h : spec_DrawWidenTable.f k l0 = some (r1, r2)) :
  Calls Try.prog 46 #[.slice A0 l0.length c0] w fun e w' => ∃ v0_ : Value, e = .returned (.tuple #[v0_, .int .i64 r2]) ∧ Kd.R k81 81 w' w.heap.size (fun _ => True) v0_ r1 ∧ Below w.heap.size w w' := by
 have HR0 := Aside0.mk hr0
 have HC0 := Aside0.mk hc0
 clear hr0 hc0
 have HB := Aside0.mk (Below.refl w.heap.size w)
 have H : ((spec_l01From.f k l0).bind fun bt269 => ((spec_l16Draw.f k bt269.1 bt269.2.1 bt269.2.2).bind fun bt273 => (if (bt273.1.length : Int) > 0 then ((spec_l01Next.f bt269.1 bt273.2.1 bt273.2.2 12).bind fun bt278 => (spec_DrawWidenTable.j0 k bt273.1 (bt278.1 == 0) bt269.1 bt278.2.1 bt278.2.2)) else (spec_DrawWidenTable.j0 k bt273.1 false bt269.1 bt273.2.1 bt273.2.2)))) = some (r1, r2) := h
 clear h
 replace H := Option.bind_eq_some_iff.mp H
 obtain ⟨⟨t269, t270, t271⟩, A20, H⟩ := H
 try dsimp only at H
 have A2 := Aside0.mk A20
 clear A20
 replace H := Option.bind_eq_some_iff.mp H
 obtain ⟨⟨t273, t276, t277⟩, A30, H⟩ := H
 try dsimp only at H
 have A3 := Aside0.mk A30
 clear A30
 have HC4 := Aside0.mk H
 clear H
 go_enter Try.func46, Try.ntmps46
 go_upto_region 3 with (first | ((with_reducible refine gate_callee (f := 123) rfl ?_); refine goesL_ (some 7) rfl rfl Try.func123 (by kernel_rfl) rfl #[.slice A0 l0.length c0] rfl ag_ ?_; (with_reducible refine (spec_l01From.calls k _ _ l0 t269 t270 t271 w _ ?side1 ?side2 ?side3 A2.out).mono ?_); (case side1 => exact r15_ HB.out); (case side2 => exact HR0.out); (case side3 => exact HC0.out); rintro e w5 ⟨g272, rfl, hi, hb, hb2⟩; refine ⟨_, rfl, ?_⟩; replace HB := Aside0.mk (hb); have HI272 := Aside0.mk (hi); (try clear hb); (try clear hb2); (try clear hk); (try clear hi)) | ((with_reducible refine gate_callee (f := 144) rfl ?_); refine goesL_ (some 9) rfl rfl Try.func144 (by kernel_rfl) rfl #[.pointer (some ⟨g272, 0, none⟩)] rfl ag_ ?_; (with_reducible refine (spec_l16Draw.calls k g272 t269 t270 t271 t273 t276 t277 w _ ?side1 ?side2 A3.out).mono ?_); (case side1 => exact r0_ HI272.out); (case side2 => exact r1_ HB.out HI272.out); rintro e w6 ⟨v274, rfl, ho0, hi, hb, hk⟩; refine ⟨_, rfl, ?_⟩; have HO275 := Aside0.mk (Kd.R_lower ho0 (below_size (r1_ HB.out HI272.out))); replace HB := Aside0.mk (hb); replace HI272 := Aside0.mk (hi); (try clear hb); (try clear hb2); (try clear hk); (try clear hi); (try clear ho0)))
 (try simp only [Act.put, List.setIfInBounds_toArray, List.set_cons_zero, List.set_cons_succ])
 go_cut [17] (fun v17 wc => ∃ (kq : Nat) (x17_3 : Bool) (x273001_3 : Int) (x273002_3 : Int), v17 = .bool x17_3 ∧ Aside0 (spec_DrawWidenTable.j0 kq t273 x17_3 t269 x273001_3 x273002_3 = some (r1, r2)) ∧ Aside0 (kq ≤ k) ∧ Aside0 (Kd.R k81 81 wc w.heap.size (fun _ => True) v274 t273) ∧ Aside0 (IsS215 w wc g272 t269 x273001_3 x273002_3) ∧ Aside0 (Below w.heap.size w wc))
 case first =>
  have H := HC4.out
  clear HC4
  by_cases c7 : (t273.length : Int) > 0
  case neg =>
   rw [if_neg c7] at H
   have c7b0 : decide (0 < (t273.length : Int)) = false := decide_eq_false c7
   have c7b1 : decide (0 < t273.length) = false := decide_eq_false (by omega)
   clear c7
   (first | rw [c7b0] | (simp only [i64_w, i32_w]; rw [c7b0]) | skip)
   have H' := Aside0.mk H
   clear H
   obtain ⟨Ao11, co11, eo11⟩ := Kd.R_slice HO275.out
   subst eo11
   go_wp2
   go_meet
   case rel => exact ⟨_, (false), (t276), (t277), rs_, H', ⟨by first | omega | exact Nat.le_refl _⟩, ⟨rk_ HO275.out⟩, ⟨r0_ HI272.out⟩, ⟨r1_ HB.out HI272.out⟩⟩
  rw [if_pos c7] at H
  have c7b0 : decide (0 < (t273.length : Int)) = true := decide_eq_true c7
  have c7b1 : decide (0 < t273.length) = true := decide_eq_true (by omega)
  clear c7
  (first | rw [c7b0] | (simp only [i64_w, i32_w]; rw [c7b0]) | skip)
  replace H := Option.bind_eq_some_iff.mp H
  obtain ⟨⟨t278, t279, t280⟩, A80, H⟩ := H
  try dsimp only at H
  have A8 := Aside0.mk A80
  clear A80
  have H' := Aside0.mk H
  clear H
  obtain ⟨Ao9, co9, eo9⟩ := Kd.R_slice HO275.out
  subst eo9
  go_wp2_with (first | (go_at_call 129; (with_reducible refine (spec_l01Next.calls g272 t269 t276 t277 12 t278 t279 t280 w _ ?side1 ?side2 A8.out).mono ?_); (case side1 => exact r0_ HI272.out); (case side2 => exact r1_ HB.out HI272.out); rintro e w10 ⟨rfl, hi, hb, hk⟩; replace HO275 := Aside0.mk (Kd.R_mono (Kd.R_keep (IsS215.apart (show IsS215 w _ g272 t269 t276 t277 from r0_ HI272.out) (rk_ HO275.out) (by decide)) hk (fun _ h => h.2)) (fun _ h => h.1)); replace HB := Aside0.mk (hb); replace HI272 := Aside0.mk (hi); (try clear hb); (try clear hb2); (try clear hk); (try clear hi)))
  go_meet
  case rel => exact ⟨_, ((t278 == 0)), (t279), (t280), rs_, H', ⟨by first | omega | exact Nat.le_refl _⟩, ⟨rk_ HO275.out⟩, ⟨r0_ HI272.out⟩, ⟨r1_ HB.out HI272.out⟩⟩
 case rest =>
  clear HC4
  try clear c1
  try clear p2
  try clear c4
  try clear c7
  try clear c7b0
  try clear c7b1
  obtain ⟨kq, x17_3, x273001_3, x273002_3, rfl, HA, HJ3, HO_5, HI272, HB⟩ := hcut
  cases kq with
  | zero => exact absurd HA.out (by simp [spec_DrawWidenTable.j0])
  | succ kj3 =>
   have H := HA.out
   clear HA
   simp only [spec_DrawWidenTable.j0] at H
   by_cases c12 : x17_3 = true
   case neg =>
    replace c12 := Bool.eq_false_iff.mpr c12
    subst c12
    rw [if_neg (show ¬ (false = true) by decide)] at H
    replace H := Option.bind_eq_some_iff.mp H
    obtain ⟨⟨t294, t295, t296⟩, A290, H⟩ := H
    try dsimp only at H
    have A29 := Aside0.mk A290
    clear A290
    obtain ⟨y297, hy297⟩ : ∃ y_ : List Int, y_ = (([t294, 0, 100, 101, (-1), 10] : List Int)) := ⟨_, rfl⟩
    replace H : ((spec_l01Pick.f t269 t295 t296 y297).bind fun bt300 => (some (t273, bt300.1))) = some (r1, r2) := by first | (rw [hy297]; with_reducible exact H) | (have H2_ := (Option.bind_some _ _).symm.trans H; rw [hy297]; with_reducible exact H2_) | (have H2_ := (Option.bind_some _ _).symm.trans H; with_reducible exact H2_) | with_reducible exact H | (rw [hy297]; exact H) | exact H
    have Ny297 := Aside0.mk hy297
    clear hy297
    replace H := Option.bind_eq_some_iff.mp H
    obtain ⟨⟨t300, t301, t302⟩, A300, H⟩ := H
    try dsimp only at H
    have A30 := Aside0.mk A300
    clear A300
    simp only [Option.some.injEq, Prod.mk.injEq] at H
    obtain ⟨rfl, rfl⟩ := H
    go_wp2_with (first | ((with_reducible refine gate_callee (f := 129) rfl ?_); refine goesL_ (some 30) rfl rfl Try.func129 (by kernel_rfl) rfl #[.pointer (some ⟨g272, 0, none⟩), .int .i64 101] rfl ag_ ?_; (with_reducible refine (spec_l01Next.calls g272 t269 x273001_3 x273002_3 101 t294 t295 t296 w _ ?side1 ?side2 A29.out).mono ?_); (case side1 => exact r0_ HI272.out); (case side2 => exact r1_ HB.out HI272.out); rintro e w31 ⟨rfl, hi, hb, hk⟩; refine ⟨_, rfl, ?_⟩; replace HO_5 := Aside0.mk (Kd.R_mono (Kd.R_keep (IsS215.apart (show IsS215 w _ g272 t269 x273001_3 x273002_3 from r0_ HI272.out) (rk_ HO_5.out) (by decide)) hk (fun _ h => h.2)) (fun _ h => h.1)); replace HB := Aside0.mk (hb); replace HI272 := Aside0.mk (hi); (try clear hb); (try clear hb2); (try clear hk); (try clear hi)) | ((with_reducible refine gate_dst (N := 31) rfl ?_); refine Kd.R_lit (Kd.int .i64) _ 2 ?hg (N := 31) ?hd (xs := ([t294, 0, 100, 101, (-1), 10] : List Int)) (inner := [.int .i64 t294, .int .i64 0, .int .i64 100, .int .i64 101, .int .i64 (-1), .int .i64 10]) (ok := fun _ => True) (okp := fun _ => True) ?hr ?hp (fun _ hk => hk) trivial (Below.refl _ _) (Nat.le_refl _) (by simp) ?_; (case hd => rfl); (case hg => rfl); (case hr => first | (go_simp; done) | (go_simp; rfl)); (case hp => exact (Reps.one (show Kd.M (Kd.int .i64) _ _ _ t294 [.int .i64 t294] from rfl) (Reps.one (show Kd.M (Kd.int .i64) _ _ _ 0 [.int .i64 0] from rfl) (Reps.one (show Kd.M (Kd.int .i64) _ _ _ 100 [.int .i64 100] from rfl) (Reps.one (show Kd.M (Kd.int .i64) _ _ _ 101 [.int .i64 101] from rfl) (Reps.one (show Kd.M (Kd.int .i64) _ _ _ (-1) [.int .i64 (-1)] from rfl) (Reps.one (show Kd.M (Kd.int .i64) _ _ _ 10 [.int .i64 10] from rfl) (Reps.none _ _)))))))); intro v298 w32 ho33 hb hg_ hnew_; clear hg_ hnew_; (first | rw [← Ny297.out] at ho33 | (simp only [Int.reduceToNat] at ho33; rw [← Ny297.out] at ho33)); replace HO_5 := Aside0.mk (Kd.R_below (rk_ HO_5.out) hb); have HO299 := Aside0.mk (Kd.R_lower ho33 (below_size (r1_ HB.out HI272.out))); replace HB := Aside0.mk (below_step (r1_ HB.out HI272.out) hb); replace HI272 := Aside0.mk (IsS215.below (r0_ HI272.out) hb); clear hb ho33; obtain ⟨Ao34, co34, eo34⟩ := Kd.R_slice HO299.out; subst eo34) | ((with_reducible refine gate_callee (f := 145) rfl ?_); refine goesL_ (some 32) rfl rfl Try.func145 (by kernel_rfl) rfl #[.pointer (some ⟨g272, 0, none⟩), .slice Ao34 y297.length co34] rfl ag_ ?_; (with_reducible refine (spec_l01Pick.calls g272 t269 t295 t296 _ _ y297 t300 t301 t302 w _ ?side1 ?side2 ?side3 ?side4 ?side5 A30.out).mono ?_); (case side1 => exact r0_ HI272.out); (case side2 => exact r1_ HB.out HI272.out); (case side3 => exact r6_ HO299.out); (case side4 => exact (Kd.R_reads' HO299.out).2.1); (case side5 => exact far_slice (IsS215.own_ne HI272.out HO299.out (by decide))); rintro e w35 ⟨rfl, hi, hb, hk⟩; refine ⟨_, rfl, ?_⟩; replace HO_5 := Aside0.mk (Kd.R_mono (Kd.R_keep (IsS215.apart (show IsS215 w _ g272 t269 t295 t296 from r0_ HI272.out) (rk_ HO_5.out) (by decide)) hk (fun _ h => h.2)) (fun _ h => h.1)); replace HO299 := Aside0.mk (Kd.R_mono (Kd.R_keep (IsS215.apart (show IsS215 w _ g272 t269 t295 t296 from r0_ HI272.out) (rk_ HO299.out) (by decide)) hk (fun _ h => h.2)) (fun _ h => h.1)); replace HB := Aside0.mk (hb); replace HI272 := Aside0.mk (hi); (try clear hb); (try clear hb2); (try clear hk); (try clear hi)))
    go_ret2
    exact ⟨_, re_, rk_ HO_5.out, r1_ HB.out HI272.out⟩


   subst c12
   rw [if_pos rfl] at H
   replace H := Option.bind_eq_some_iff.mp H
   obtain ⟨⟨t281, t282, t283⟩, A130, H⟩ := H
   try dsimp only at H
   have A13 := Aside0.mk A130
   clear A130
   obtain ⟨ji14, hji14⟩ : ∃ j_ : Int, (wrap64 ((t273.length : Int) - 1)) = j_ := ⟨_, rfl⟩
   replace H : (if 0 ≤ (ji14) then (if (ji14) < (t273.length : Int) then ((spec_l01Next.f t269 t282 t283 101).bind fun bt285 => ((spec_l01Pick.f t269 bt285.2.1 bt285.2.2 (([bt285.1, 0, 100, 101, (-1), 10] : List Int))).bind fun bt291 => (some ((t273.set ((ji14) : Int).toNat (⟨(rd_T81 t273 (ji14)).f0, (rd_T81 t273 (ji14)).f1, wrap64 (5000 + t281)⟩ : S81)), bt291.1)))) else (none)) else (none)) = some (r1, r2) := by first | (rw [hji14] at H; exact H) | (simp only [hji14] at H ⊢; exact H)
   (try rw [hji14] at A13)
   have hji14w : (IntKind.i64.wrap ((t273.length : Int) - 1)) = ji14 := (i64_w _).trans hji14
   by_cases c15 : 0 ≤ (ji14)
   case neg =>
    rw [if_neg c15] at H
    exact absurd H (by simp)
   rw [if_pos c15] at H
   have c15b0 := decide_eq_true c15
   clear c15
   by_cases c16 : (ji14) < (t273.length : Int)
   case neg =>
    rw [if_neg c16] at H
    exact absurd H (by simp)
   rw [if_pos c16] at H
   have c16b0 := decide_eq_true c16
   clear c16
   obtain ⟨y284, hy284⟩ : ∃ y_ : List (S81), y_ = (t273.set ((ji14) : Int).toNat (⟨(rd_T81 t273 (ji14)).f0, (rd_T81 t273 (ji14)).f1, wrap64 (5000 + t281)⟩ : S81)) := ⟨_, rfl⟩
   replace H : ((spec_l01Next.f t269 t282 t283 101).bind fun bt285 => ((spec_l01Pick.f t269 bt285.2.1 bt285.2.2 (([bt285.1, 0, 100, 101, (-1), 10] : List Int))).bind fun bt291 => (some (y284, bt291.1)))) = some (r1, r2) := by first | (rw [hy284]; with_reducible exact H) | (have H2_ := (Option.bind_some _ _).symm.trans H; rw [hy284]; with_reducible exact H2_) | (have H2_ := (Option.bind_some _ _).symm.trans H; with_reducible exact H2_) | with_reducible exact H | (rw [hy284]; exact H) | exact H
   have Ny284 := Aside0.mk hy284
   clear hy284
   replace H := Option.bind_eq_some_iff.mp H
   obtain ⟨⟨t285, t286, t287⟩, A180, H⟩ := H
   try dsimp only at H
   have A18 := Aside0.mk A180
   clear A180
   obtain ⟨y288, hy288⟩ : ∃ y_ : List Int, y_ = (([t285, 0, 100, 101, (-1), 10] : List Int)) := ⟨_, rfl⟩
   replace H : ((spec_l01Pick.f t269 t286 t287 y288).bind fun bt291 => (some (y284, bt291.1))) = some (r1, r2) := by first | (rw [hy288]; with_reducible exact H) | (have H2_ := (Option.bind_some _ _).symm.trans H; rw [hy288]; with_reducible exact H2_) | (have H2_ := (Option.bind_some _ _).symm.trans H; with_reducible exact H2_) | with_reducible exact H | (rw [hy288]; exact H) | exact H
   have Ny288 := Aside0.mk hy288
   clear hy288
   replace H := Option.bind_eq_some_iff.mp H
   obtain ⟨⟨t291, t292, t293⟩, A190, H⟩ := H
   try dsimp only at H
   have A19 := Aside0.mk A190
   clear A190
   simp only [Option.some.injEq, Prod.mk.injEq] at H
   obtain ⟨rfl, rfl⟩ := H
   obtain ⟨Ao20, co20, eo20⟩ := Kd.R_slice HO_5.out
   subst eo20
   go_wp2_with (first | ((with_reducible refine gate_callee (f := 129) rfl ?_); refine goesL_ (some 23) rfl rfl Try.func129 (by kernel_rfl) rfl #[.pointer (some ⟨g272, 0, none⟩), .int .i64 5001] rfl ag_ ?_; (with_reducible refine (spec_l01Next.calls g272 t269 x273001_3 x273002_3 5001 t281 t282 t283 w _ ?side1 ?side2 A13.out).mono ?_); (case side1 => exact r0_ HI272.out); (case side2 => exact r1_ HB.out HI272.out); rintro e w21 ⟨rfl, hi, hb, hk⟩; refine ⟨_, rfl, ?_⟩; replace HO_5 := Aside0.mk (Kd.R_mono (Kd.R_keep (IsS215.apart (show IsS215 w _ g272 t269 x273001_3 x273002_3 from r0_ HI272.out) (rk_ HO_5.out) (by decide)) hk (fun _ h => h.2)) (fun _ h => h.1)); replace HB := Aside0.mk (hb); replace HI272 := Aside0.mk (hi); (try clear hb); (try clear hb2); (try clear hk); (try clear hi); have p17 : 0 ≤ ((ji14) : Int) := od_; have q17 : ((ji14) : Int) < ((t273.length : Int) : Int) := od_; obtain ⟨go17, co17, eo17, gb17, gl17, cl17, HG17⟩ := Kd.R_form HO_5.out (by omega); (first | cases eo17 | (injection eo17 with ea_ en_ ec_; (first | subst ea_ | (injection ea_ with ea_; subst ea_)); subst ec_; clear en_)); have GB17 := Aside0.mk gb17; have GG17 := Aside0.mk HG17; clear gb17 gl17 HG17; obtain ⟨ce17, hcl17, hM17, hcc17, hfr17⟩ := Kd.R_elem HO_5.out z81 ((ji14) : Int) p17 q17; obtain rfl := k81_openM hM17; have hx17_0 : w21.cell? ⟨go17, ((ji14) : Int).toNat * 3, none⟩ = some (.int .i64 ((rd_T81 t273 (ji14)).f0)) := hcc17 0 _ rfl; have hx17_1 : w21.cell? ⟨go17, ((ji14) : Int).toNat * 3 + 1, none⟩ = some (.int .i64 ((rd_T81 t273 (ji14)).f1)) := hcc17 1 _ rfl; have hx17_2 : w21.cell? ⟨go17, ((ji14) : Int).toNat * 3 + 2, none⟩ = some (.int .i64 ((rd_T81 t273 (ji14)).f2)) := hcc17 2 _ rfl; have hf17_0 : w21.frozen? ⟨go17, ((ji14) : Int).toNat * 3, none⟩ = false := hfr17 0; have hf17_1 : w21.frozen? ⟨go17, ((ji14) : Int).toNat * 3 + 1, none⟩ = false := hfr17 1; have hf17_2 : w21.frozen? ⟨go17, ((ji14) : Int).toNat * 3 + 2, none⟩ = false := hfr17 2; clear hcl17 hcc17 hfr17 hM17; replace p17 := eq_true p17; replace q17 := eq_true q17; have HX22 := Aside0.mk (show Kd.R k81 81 w21 w.heap.size (fun _ => True) (.slice (some ⟨go17, 0, none⟩) t273.length co20) t273 from (rk_ HO_5.out)); obtain ⟨ce22, hcl22, hM22, hcc22, hfr22⟩ := Kd.R_elem HX22.out z81 ((ji14) : Int) od_ (by have h_ : ((ji14) : Int) < ((t273.length : Int) : Int) := od_; first | exact h_ | (have e_ := (Kd.R_reads' HO_5.out).1; omega) | simpa using h_); obtain rfl := k81_openM hM22; have HP22 := Kd.R_seg HX22.out ((ji14) : Int) od_ (by have h_ : ((ji14) : Int) < ((t273.length : Int) : Int) := od_; first | exact h_ | (have e_ := (Kd.R_reads' HO_5.out).1; omega) | simpa using h_) (seg := [.int .i64 (wrap64 (5000 + t281))]) (j := 2) hcl22 hcc22 (show 3 ≤ 3 from by decide) (x' := (⟨(rd_T81 t273 (ji14)).f0, (rd_T81 t273 (ji14)).f1, wrap64 (5000 + t281)⟩ : S81)) (k81_mkM _ _ _ (⟨(rd_T81 t273 (ji14)).f0, (rd_T81 t273 (ji14)).f1, wrap64 (5000 + t281)⟩ : S81) ) (fun _ hk => hk); have hx22_2 := hcc22 2 _ rfl; (try simp only [show (k81).sz = 3 from rfl, Nat.mul_one, Nat.add_zero] at hx22_2); have hf22_2 := hfr22 2; (try simp only [show (k81).sz = 3 from rfl, Nat.mul_one, Nat.add_zero] at hf22_2); clear hcl22 hcc22 hfr22 hM22) | ((with_reducible refine gate_store (t := 2) (p := 26) rfl ?_); refine store_event (t := 2) (p := 26) (v := ?vo_w23) (w1 := (w21.setCell ⟨go17, ((ji14) : Int).toNat * 3 + 2, none⟩ (.int .i64 (wrap64 (5000 + t281))))) ?hg ?ho ?hn ?hr ?_; (case ho => rfl); (case hg => rfl); (case hn => rfl); (case hr => first | (go_simp; done) | (go_simp; rfl)); intro w23 hw; have hg : w21.grownBy w23 (some go17) := (by rw [hw]; exact HP22.2); have hp_ : Kd.R k81 81 w23 w.heap.size (fun _ => True) (.slice (some ⟨go17, 0, none⟩) t273.length co20) y284 := (by rw [hw, Ny284.out]; exact HP22.1); clear HP22; replace HI272 := Aside0.mk (IsS215.grown (r0_ HI272.out) hg (IsS215.own_ne HI272.out HO_5.out (by decide))); replace HO_5 := Aside0.mk (hp_); replace HB := Aside0.mk ((by rw [hw]; exact below_set (HB.out) GB17.out : Below w.heap.size w w23)); clear hg hw hp_) | ((with_reducible refine gate_callee (f := 129) rfl ?_); refine goesL_ (some 30) rfl rfl Try.func129 (by kernel_rfl) rfl #[.pointer (some ⟨g272, 0, none⟩), .int .i64 101] rfl ag_ ?_; (with_reducible refine (spec_l01Next.calls g272 t269 t282 t283 101 t285 t286 t287 w _ ?side1 ?side2 A18.out).mono ?_); (case side1 => exact r0_ HI272.out); (case side2 => exact r1_ HB.out HI272.out); rintro e w24 ⟨rfl, hi, hb, hk⟩; refine ⟨_, rfl, ?_⟩; replace HO_5 := Aside0.mk (Kd.R_mono (Kd.R_keep (IsS215.apart (show IsS215 w _ g272 t269 t282 t283 from r0_ HI272.out) (rk_ HO_5.out) (by decide)) hk (fun _ h => h.2)) (fun _ h => h.1)); replace HB := Aside0.mk (hb); replace HI272 := Aside0.mk (hi); (try clear hb); (try clear hb2); (try clear hk); (try clear hi)) | ((with_reducible refine gate_dst (N := 31) rfl ?_); refine Kd.R_lit (Kd.int .i64) _ 2 ?hg (N := 31) ?hd (xs := ([t285, 0, 100, 101, (-1), 10] : List Int)) (inner := [.int .i64 t285, .int .i64 0, .int .i64 100, .int .i64 101, .int .i64 (-1), .int .i64 10]) (ok := fun _ => True) (okp := fun _ => True) ?hr ?hp (fun _ hk => hk) trivial (Below.refl _ _) (Nat.le_refl _) (by simp) ?_; (case hd => rfl); (case hg => rfl); (case hr => first | (go_simp; done) | (go_simp; rfl)); (case hp => exact (Reps.one (show Kd.M (Kd.int .i64) _ _ _ t285 [.int .i64 t285] from rfl) (Reps.one (show Kd.M (Kd.int .i64) _ _ _ 0 [.int .i64 0] from rfl) (Reps.one (show Kd.M (Kd.int .i64) _ _ _ 100 [.int .i64 100] from rfl) (Reps.one (show Kd.M (Kd.int .i64) _ _ _ 101 [.int .i64 101] from rfl) (Reps.one (show Kd.M (Kd.int .i64) _ _ _ (-1) [.int .i64 (-1)] from rfl) (Reps.one (show Kd.M (Kd.int .i64) _ _ _ 10 [.int .i64 10] from rfl) (Reps.none _ _)))))))); intro v289 w25 ho26 hb hg_ hnew_; clear hg_ hnew_; (first | rw [← Ny288.out] at ho26 | (simp only [Int.reduceToNat] at ho26; rw [← Ny288.out] at ho26)); replace HO_5 := Aside0.mk (Kd.R_below (rk_ HO_5.out) hb); have HO290 := Aside0.mk (Kd.R_lower ho26 (below_size (r1_ HB.out HI272.out))); replace HB := Aside0.mk (below_step (r1_ HB.out HI272.out) hb); replace HI272 := Aside0.mk (IsS215.below (r0_ HI272.out) hb); clear hb ho26; obtain ⟨Ao27, co27, eo27⟩ := Kd.R_slice HO290.out; subst eo27) | ((with_reducible refine gate_callee (f := 145) rfl ?_); refine goesL_ (some 32) rfl rfl Try.func145 (by kernel_rfl) rfl #[.pointer (some ⟨g272, 0, none⟩), .slice Ao27 y288.length co27] rfl ag_ ?_; (with_reducible refine (spec_l01Pick.calls g272 t269 t286 t287 _ _ y288 t291 t292 t293 w _ ?side1 ?side2 ?side3 ?side4 ?side5 A19.out).mono ?_); (case side1 => exact r0_ HI272.out); (case side2 => exact r1_ HB.out HI272.out); (case side3 => exact r6_ HO290.out); (case side4 => exact (Kd.R_reads' HO290.out).2.1); (case side5 => exact far_slice (IsS215.own_ne HI272.out HO290.out (by decide))); rintro e w28 ⟨rfl, hi, hb, hk⟩; refine ⟨_, rfl, ?_⟩; replace HO_5 := Aside0.mk (Kd.R_mono (Kd.R_keep (IsS215.apart (show IsS215 w _ g272 t269 t286 t287 from r0_ HI272.out) (rk_ HO_5.out) (by decide)) hk (fun _ h => h.2)) (fun _ h => h.1)); replace HO290 := Aside0.mk (Kd.R_mono (Kd.R_keep (IsS215.apart (show IsS215 w _ g272 t269 t286 t287 from r0_ HI272.out) (rk_ HO290.out) (by decide)) hk (fun _ h => h.2)) (fun _ h => h.1)); replace HB := Aside0.mk (hb); replace HI272 := Aside0.mk (hi); (try clear hb); (try clear hb2); (try clear hk); (try clear hi)))
   go_ret2
   exact ⟨_, by first | rfl | (simp [errW_none, errW_some] <;> rfl) | (simp only [← hji14]; first | rfl | (simp [errW_none, errW_some] <;> rfl)) | (simp [*, errW_none, errW_some] <;> rfl), rk_ HO_5.out, r1_ HB.out HI272.out⟩
def impl_ceilDiv.f (a0 : Int) (a1 : Int) : Option (Int) := if a1 = 0 then (none) else (some (wrap64 (Int.tdiv (wrap64 ((wrap64 (a0 + a1)) - 1)) a1)))
set_option maxHeartbeats 8000000 in
set_option maxRecDepth 100000 in
theorem impl_ceilDiv.calls (a0 : Int) (a1 : Int) (r : Int) (w : World) (h : impl_ceilDiv.f a0 a1 = some r) :
    Calls Try.prog 146 #[.int .i64 a0, .int .i64 a1] w fun e w' => e = .returned (.int .i64 r) ∧ Drawn0 w w' := by
  have H : (if a1 = 0 then (none) else (some (wrap64 (Int.tdiv (wrap64 ((wrap64 (a0 + a1)) - 1)) a1)))) = some r := h
  clear h
  by_cases c3 : a1 = 0
  · rw [if_pos c3] at H
    exact absurd H (by simp)
  · rw [if_neg c3] at H
    have c3b0 := beq_eq_false_iff_ne.mpr c3
    have c3b1 := bne_iff_ne.mpr c3
    obtain rfl := Option.some.inj H
    go_enter Try.func146, Try.ntmps146
    go_wp2
    go_ret
    exact ⟨by first | rfl | (simp; done) | (simp [*]; done), by repeat (first | exact Drawn0.refl _ | apply Drawn0.step)⟩
end Go.Proofs.Ytedcdhnbceaaeaa.PFnTables
