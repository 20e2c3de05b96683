/- QFnWiredb of the law FnWired: taken over, declaration by declaration, as far as the law leans on it (the words and the printed functions are the kit's own print). No condition but what each says. -/
import Derived.Test.YtedcdhnbceaaeaaZFnWiredav
import Derived.Test.YtedcdhnbceaaeaaZFnWiredaw
import Derived.Test.YtedcdhnbceaaeaaZFnWiredax
namespace Go.Proofs.Ytedcdhnbceaaeaa.PFnWired
open Go.RowKit Go.Proofs.YtedcdhnbceaaeaaW.PrintWords Go.Proofs.YtedcdhnbceaaeaaW.PrintLast Go.Proofs.YtedcdhnbceaaeaaW.PrintMore
attribute [local go_sem] max2_int min2_int max_two min_two max_three min_three max_four min_four   -- for this text's walks alone
set_option linter.unusedVariables false
set_option linter.unusedSimpArgs false
open Bool renaming true → t_, false → f_
def spec_l12Good.l0 : Nat → List (S200) → Int → List Int → Int → Int → Option ((List (S200)) × Int × Int)
 | 0, _, _, _, _, _ => none
 | k + 1, x3, x4, x1000, x1001, x1002 => if x4 > 0 then ((spec_l01Next.f x1000 x1001 x1002 (x3.length : Int)).bind fun bt138 => ((spec_l01Next.f x1000 bt138.2.1 bt138.2.2 6).bind fun bt141 => (if x3.length < 8796093022208 then (spec_l12Good.l0 k (x3 ++ [(⟨bt138.1, bt141.1⟩ : S200)]) (wrap64 (x4 - 1)) x1000 bt141.2.1 bt141.2.2) else (none)))) else (some (x3, x1001, x1002))
def spec_l12Good.f (k : Nat) (s0_0 : List Int) (s0_1 : Int) (s0_2 : Int) : Option ((List (S200)) × Int × Int) := (spec_l01Next.f s0_0 s0_1 s0_2 5).bind fun bt129 => ((spec_l01Next.f s0_0 bt129.2.1 bt129.2.2 8).bind fun bt135 => (spec_l12Good.l0 k (([(⟨(-1), bt129.1⟩ : S200)] : List (S200))) bt135.1 s0_0 bt135.2.1 bt135.2.2))
set_option maxHeartbeats 8000000 in
set_option maxRecDepth 100000 in
theorem spec_l12Good.calls (k : Nat) (g : Nat) (s0_0 : List Int) (s0_1 : Int) (s0_2 : Int) (r1 : List (S200)) (r2 : Int) (r3 : Int) (w0 w : World) (hI : IsS215 w0 w g s0_0 s0_1 s0_2) (hB : Below w0.heap.size w0 w) (h : spec_l12Good.f k s0_0 s0_1 s0_2 = some (r1, r2, r3)) :
  Calls Try.prog 220 #[.pointer (some ⟨g, 0, none⟩)] w fun e w' => ∃ v0_ : Value, e = .returned (v0_) ∧ Kd.R k200 200 w' w.heap.size (fun _ => True) v0_ r1 ∧ IsS215 w0 w' g s0_0 r2 r3 ∧ Below w0.heap.size w0 w' ∧ KeepBut w w' g none := by
 have hu200 := Try.underlying200
 have HI0 := Aside0.mk hI
 have HK := Aside0.mk (KeepBut.refl w g none)
 have HL := Aside0.mk hB.size
 clear hI
 have HW0 := Aside0.mk hB.size
 have HB := Aside0.mk hB
 clear hB
 have H : ((spec_l01Next.f s0_0 s0_1 s0_2 5).bind fun bt129 => ((spec_l01Next.f s0_0 bt129.2.1 bt129.2.2 8).bind fun bt135 => (spec_l12Good.l0 k (([(⟨(-1), bt129.1⟩ : S200)] : List (S200))) bt135.1 s0_0 bt135.2.1 bt135.2.2))) = some (r1, r2, r3) := h
 clear h
 replace H := Option.bind_eq_some_iff.mp H
 obtain ⟨⟨t129, t130, t131⟩, A20, H⟩ := H
 replace H : ((spec_l01Next.f s0_0 t130 t131 8).bind fun bt135 => (spec_l12Good.l0 k (([(⟨(-1), t129⟩ : S200)] : List (S200))) bt135.1 s0_0 bt135.2.1 bt135.2.2)) = some (r1, r2, r3) := H
 have A2 := Aside0.mk A20
 clear A20
 obtain ⟨y132, hy132⟩ : ∃ y_ : List (S200), y_ = (([(⟨(-1), t129⟩ : S200)] : List (S200))) := ⟨_, rfl⟩
 replace H : ((spec_l01Next.f s0_0 t130 t131 8).bind fun bt135 => (spec_l12Good.l0 k y132 bt135.1 s0_0 bt135.2.1 bt135.2.2)) = some (r1, r2, r3) := by first | (rw [hy132]; with_reducible exact H) | (have H2_ := (Option.bind_some _ _).symm.trans H; rw [hy132]; with_reducible exact H2_) | (have H2_ := (Option.bind_some _ _).symm.trans H; with_reducible exact H2_) | with_reducible exact H | (rw [hy132]; exact H) | exact H
 have Ny132 := Aside0.mk hy132
 clear hy132
 replace H := Option.bind_eq_some_iff.mp H
 obtain ⟨⟨t135, t136, t137⟩, A30, H⟩ := H
 replace H : (spec_l12Good.l0 k y132 t135 s0_0 t136 t137) = some (r1, r2, r3) := H
 have A3 := Aside0.mk A30
 clear A30
 have H' := Aside0.mk H
 clear H
 go_enter Try.func220, Try.ntmps220
 go_wp2_with (first | ((with_reducible refine gate_callee (f := 129) rfl ?_); refine goesL_ (some 6) rfl rfl Try.func129 (by kernel_rfl) rfl #[.pointer (some ⟨g, 0, none⟩), .int .i64 5] rfl ag_ ?_; (with_reducible refine (spec_l01Next.calls g s0_0 s0_1 s0_2 5 t129 t130 t131 w0 _ ?side1 ?side2 A2.out).mono ?_); (case side1 => exact r0_ HI0.out); (case side2 => exact r1_ HB.out HI0.out); rintro e w4 ⟨rfl, hi, hb, hk⟩; refine ⟨_, rfl, ?_⟩; replace HK := Aside0.mk (KeepBut.trans (r3_ HK.out) hk (.inl rfl)); replace HB := Aside0.mk (hb); replace HI0 := Aside0.mk (hi); (try clear hb); (try clear hb2); (try clear hk); (try clear hi)) | ((with_reducible refine gate_dst (N := 8) rfl ?_); refine Kd.R_lit k200 _ 200 ?hg (N := 8) ?hd (xs := ([(⟨(-1), t129⟩ : S200)] : List (S200))) (inner := [.int .i64 (-1), .int .i64 t129]) (ok := fun _ => True) (okp := fun _ => True) ?hr ?hp (fun _ hk => hk) trivial (Below.refl _ _) (Nat.le_refl _) (by simp) ?_; (case hd => rfl); (case hg => rfl); (case hr => first | (go_simp; done) | (go_simp; rfl)); (case hp => exact (Reps.c2 (show Kd.M k200 _ _ _ (⟨(-1), t129⟩ : S200) [.int .i64 (-1), .int .i64 t129] from (k200_mkM _ _ _ (⟨(-1), t129⟩ : S200) )) (Reps.none _ _))); intro v133 w5 ho6 hb hg_ hnew_; clear hg_ hnew_; (first | rw [← Ny132.out] at ho6 | (simp only [Int.reduceToNat] at ho6; rw [← Ny132.out] at ho6)); have HO134 := Aside0.mk (Kd.R_lower ho6 (keep_size (w := w) (g := g) (row := none) (r3_ HK.out))); replace HK := Aside0.mk (KeepBut.trans (r3_ HK.out) (KeepBut.of_below hb g none) (.inl rfl)); replace HB := Aside0.mk (below_step (r1_ HB.out HI0.out) hb); replace HI0 := Aside0.mk (IsS215.below (r0_ HI0.out) hb); clear hb ho6) | ((with_reducible refine gate_callee (f := 129) rfl ?_); refine goesL_ (some 10) rfl rfl Try.func129 (by kernel_rfl) rfl #[.pointer (some ⟨g, 0, none⟩), .int .i64 8] rfl ag_ ?_; (with_reducible refine (spec_l01Next.calls g s0_0 t130 t131 8 t135 t136 t137 w0 _ ?side1 ?side2 A3.out).mono ?_); (case side1 => exact r0_ HI0.out); (case side2 => exact r1_ HB.out HI0.out); rintro e w7 ⟨rfl, hi, hb, hk⟩; refine ⟨_, rfl, ?_⟩; replace HO134 := Aside0.mk (Kd.R_mono (Kd.R_keep (IsS215.apart (show IsS215 w0 _ g s0_0 t130 t131 from r0_ HI0.out) (rk_ HO134.out) (by decide)) hk (fun _ h => h.2)) (fun _ h => h.1)); replace HK := Aside0.mk (KeepBut.trans (r3_ HK.out) hk (.inl rfl)); replace HB := Aside0.mk (hb); replace HI0 := Aside0.mk (hi); (try clear hb); (try clear hb2); (try clear hk); (try clear hi)))
 go_loopg [3, 4] k (fun kq v3 v4 w' => ∃ (x3_1 : List (S200)) (x4_1 : Int) (x1001_1 : Int) (x1002_1 : Int), v4 = .int .i64 x4_1 ∧ Aside0 (spec_l12Good.l0 kq x3_1 x4_1 s0_0 x1001_1 x1002_1 = some (r1, r2, r3)) ∧ Aside0 (kq ≤ k) ∧ Aside0 (Kd.R k200 200 w' w.heap.size (fun _ => True) v3 x3_1) ∧ Aside0 (IsS215 w0 w' g s0_0 x1001_1 x1002_1) ∧ Aside0 (KeepBut w w' g none) ∧ Aside0 (Below w0.heap.size w0 w'))
 case atStart => exact ⟨(y132), (t135), (t136), (t137), (by first | rfl | (simp; done) | (simp [*]; done)), H', ⟨Nat.le_refl _⟩, ⟨rk_ HO134.out⟩, ⟨r0_ HI0.out⟩, ⟨r3_ HK.out⟩, ⟨r1_ HB.out HI0.out⟩⟩
 case round =>
  clear H'
  try clear c1
  try clear c2
  try clear p2
  obtain ⟨x3_1, x4_1, x1001_1, x1002_1, rfl, HA, HK1, HO_3, HI0, HK, HB⟩ := hrel
  cases gk with
  | zero => exact absurd HA.out (by simp [spec_l12Good.l0])
  | succ k1 =>
   have H := HA.out
   clear HA
   simp only [spec_l12Good.l0] at H
   by_cases c8 : x4_1 > 0
   ·rw [if_pos c8] at H
    have c8b0 : decide (0 < x4_1) = true := decide_eq_true c8
    clear c8
    replace H := Option.bind_eq_some_iff.mp H
    obtain ⟨⟨t138, t139, t140⟩, A90, H⟩ := H
    replace H : ((spec_l01Next.f s0_0 t139 t140 6).bind fun bt141 => (if x3_1.length < 8796093022208 then (spec_l12Good.l0 k1 (x3_1 ++ [(⟨t138, bt141.1⟩ : S200)]) (wrap64 (x4_1 - 1)) s0_0 bt141.2.1 bt141.2.2) else (none))) = some (r1, r2, r3) := H
    have A9 := Aside0.mk A90
    clear A90
    replace H := Option.bind_eq_some_iff.mp H
    obtain ⟨⟨t141, t142, t143⟩, A100, H⟩ := H
    replace H : (if x3_1.length < 8796093022208 then (spec_l12Good.l0 k1 (x3_1 ++ [(⟨t138, t141⟩ : S200)]) (wrap64 (x4_1 - 1)) s0_0 t142 t143) else (none)) = some (r1, r2, r3) := H
    have A10 := Aside0.mk A100
    clear A100
    by_cases c11 : x3_1.length < 8796093022208
    case neg =>
     rw [if_neg c11] at H
     exact absurd H (by simp)
    rw [if_pos c11] at H
    have LMc11 := Aside0.mk c11
    clear c11
    obtain ⟨y144, hy144⟩ : ∃ y_ : List (S200), y_ = (x3_1 ++ [(⟨t138, t141⟩ : S200)]) := ⟨_, rfl⟩
    replace H : (spec_l12Good.l0 k1 y144 (wrap64 (x4_1 - 1)) s0_0 t142 t143) = some (r1, r2, r3) := by first | (rw [hy144]; with_reducible exact H) | (have H2_ := (Option.bind_some _ _).symm.trans H; rw [hy144]; with_reducible exact H2_) | (have H2_ := (Option.bind_some _ _).symm.trans H; with_reducible exact H2_) | with_reducible exact H | (rw [hy144]; exact H) | exact H
    have Ny144 := Aside0.mk hy144
    clear hy144
    have H' := Aside0.mk H
    clear H
    obtain ⟨Ao12, co12, eo12⟩ := Kd.R_slice HO_3.out
    subst eo12
    go_wp2_with (first | ((with_reducible refine gate_callee (f := 129) rfl ?_); refine goesL_ (some 19) rfl rfl Try.func129 (by kernel_rfl) rfl #[.pointer (some ⟨g, 0, none⟩), .int .i64 (x3_1.length : Int)] rfl ag_ ?_; (with_reducible refine (spec_l01Next.calls g s0_0 x1001_1 x1002_1 (x3_1.length : Int) t138 t139 t140 w0 _ ?side1 ?side2 A9.out).mono ?_); (case side1 => exact r0_ HI0.out); (case side2 => exact r1_ HB.out HI0.out); rintro e w13 ⟨rfl, hi, hb, hk⟩; refine ⟨_, rfl, ?_⟩; replace HO_3 := Aside0.mk (Kd.R_mono (Kd.R_keep (IsS215.apart (show IsS215 w0 _ g s0_0 x1001_1 x1002_1 from r0_ HI0.out) (rk_ HO_3.out) (by decide)) hk (fun _ h => h.2)) (fun _ h => h.1)); replace HK := Aside0.mk (KeepBut.trans (r3_ HK.out) hk (.inl rfl)); replace HB := Aside0.mk (hb); replace HI0 := Aside0.mk (hi); (try clear hb); (try clear hb2); (try clear hk); (try clear hi)) | ((with_reducible refine gate_callee (f := 129) rfl ?_); refine goesL_ (some 21) rfl rfl Try.func129 (by kernel_rfl) rfl #[.pointer (some ⟨g, 0, none⟩), .int .i64 6] rfl ag_ ?_; (with_reducible refine (spec_l01Next.calls g s0_0 t139 t140 6 t141 t142 t143 w0 _ ?side1 ?side2 A10.out).mono ?_); (case side1 => exact r0_ HI0.out); (case side2 => exact r1_ HB.out HI0.out); rintro e w14 ⟨rfl, hi, hb, hk⟩; refine ⟨_, rfl, ?_⟩; replace HO_3 := Aside0.mk (Kd.R_mono (Kd.R_keep (IsS215.apart (show IsS215 w0 _ g s0_0 t139 t140 from r0_ HI0.out) (rk_ HO_3.out) (by decide)) hk (fun _ h => h.2)) (fun _ h => h.1)); replace HK := Aside0.mk (KeepBut.trans (r3_ HK.out) hk (.inl rfl)); replace HB := Aside0.mk (hb); replace HI0 := Aside0.mk (hi); (try clear hb); (try clear hb2); (try clear hk); (try clear hi)) | ((with_reducible refine gate_builtin (b := .append) (xs := #[.tmp 15, .tmp 23]) rfl ?_); at_builtin; refine Kd.R_append k200 w.heap.size rfl (.tmp 15) (.tmp 23) 43 200 (.agg #[(.int .i64 0), (.int .i64 0)]) 16 rfl Try.underlying43 info200 rfl (by decide) (by omega) (.slice Ao12 x3_1.length co12) x3_1 (⟨t138, t141⟩ : S200) [.int .i64 t138, .int .i64 t141] (fun _ => True) (fun _ => False) rfl rfl ?aP (fun _ hk => hk.elim) ?aF ?aO (Below.refl _ _) ?aS ?aL ?_; (case aP => exact k200_mkM _ _ _ (⟨t138, t141⟩ : S200)); (case aF => exact (fun _ _ => trivial)); (case aO => exact (rk_ HO_3.out)); (case aS => exact (keep_size (w := w) (g := g) (row := none) (r3_ HK.out))); (case aL => have := LMc11.out; omega); intro v145 w15 ho hb hg hat; rw [← Ny144.out] at ho; have n0_ := Aside0.mk (IsS215.grown (r0_ HI0.out) hg (IsS215.own_ne HI0.out HO_3.out (by decide))); have n1_ := Aside0.mk (below_weaken (r1_ HB.out HI0.out) HL.out hb); have n2_ := Aside0.mk (KeepBut.trans (r3_ HK.out) (KeepBut.of_grown hg g) (Kd.R_base2 HO_3.out)); have n3_ := Aside0.mk (ho); clear HI0; clear HB; clear HK; clear HO_3; have HI0 := n0_; have HB := n1_; have HK := n2_; have HO146 := n3_; clear n0_ n1_ n2_ n3_; clear ho hb hg hat))
    go_roundg k1
    case measure => have := HK1.out; omega
    case rel => exact ⟨(y144), (wrap64 (x4_1 - 1)), (t142), (t143), (by first | rfl | (simp; done) | (simp [*]; done)), H', ⟨by have := HK1.out; omega⟩, ⟨rk_ HO146.out⟩, ⟨r0_ HI0.out⟩, ⟨r3_ HK.out⟩, ⟨r1_ HB.out HI0.out⟩⟩
   ·rw [if_neg c8] at H
    have c8b0 : decide (0 < x4_1) = false := decide_eq_false c8
    clear c8
    simp only [Option.some.injEq, Prod.mk.injEq] at H
    obtain ⟨rfl, rfl, rfl⟩ := H
    go_wp2
    go_ret
    exact ⟨_, by first | rfl | (simp [errW_none, errW_some] <;> rfl) | (simp [*, errW_none, errW_some] <;> rfl), rk_ HO_3.out, r0_ HI0.out, r1_ HB.out HI0.out, r3_ HK.out⟩
def spec_l13Good.l0 : Nat → List (S200) → Int → List (S160) → Int → List Int → Int → Int → Option ((List (S200)) × Int × (List (S160)) × Int × Int)
 | 0, _, _, _, _, _, _, _ => none
 | k + 1, x5, x6, x7, x8, x1000, x1001, x1002 => if x8 < x6 then ((spec_l01Next.f x1000 x1001 x1002 (x5.length : Int)).bind fun bt158 => (if 0 ≤ bt158.1 then (if bt158.1 < (x5.length : Int) then ((spec_l01Next.f x1000 bt158.2.1 bt158.2.2 ((rd_T200 x5 bt158.1).f1)).bind fun bt162 => ((some (([] : List (S160)) : List (S160))).bind fun y166 => (if y166.length + x7.length < 5864062014805 then ((some (y166 ++ x7 : List (S160))).bind fun y169 => ((some (([(⟨x8, bt158.1, bt162.1⟩ : S160)] : List (S160)) : List (S160))).bind fun y172 => (if y169.length + y172.length < 5864062014805 then ((some (y169 ++ y172 : List (S160))).bind fun y175 => ((spec_l01Next.f x1000 bt162.2.1 bt162.2.2 3).bind fun bt178 => (if bt178.1 > 0 then ((spec_AreWires.f k x5 x6 y175).bind fun t181 => (if t181 = true then (spec_l13Good.l0 k x5 x6 y175 (wrap64 (x8 + 1)) x1000 bt178.2.1 bt178.2.2) else (spec_l13Good.l0 k x5 x6 x7 (wrap64 (x8 + 1)) x1000 bt178.2.1 bt178.2.2))) else (spec_l13Good.l0 k x5 x6 x7 (wrap64 (x8 + 1)) x1000 bt178.2.1 bt178.2.2)))) else (none)))) else (none)))) else (none)) else (none))) else (some (x5, x6, x7, x1001, x1002))
def spec_l13Good.f (k : Nat) (s0_0 : List Int) (s0_1 : Int) (s0_2 : Int) : Option ((List (S200)) × Int × (List (S160)) × Int × Int) := (spec_l12Good.f k s0_0 s0_1 s0_2).bind fun bt147 => ((spec_l01Next.f s0_0 bt147.2.1 bt147.2.2 9).bind fun bt152 => (spec_l13Good.l0 k bt147.1 bt152.1 (([] : List (S160))) 0 s0_0 bt152.2.1 bt152.2.2))
set_option maxHeartbeats 8000000 in
set_option maxRecDepth 100000 in
theorem spec_l13Good.calls (k : Nat) (g : Nat) (s0_0 : List Int) (s0_1 : Int) (s0_2 : Int) (r1 : List (S200)) (r2 : Int) (r3 : List (S160)) (r4 : Int) (r5 : Int) (w0 w : World) (hI : IsS215 w0 w g s0_0 s0_1 s0_2) (hB : Below w0.heap.size w0 w) (h : spec_l13Good.f k s0_0 s0_1 s0_2 = some (r1, r2, r3, r4, r5)) :
  Calls Try.prog 200 #[.pointer (some ⟨g, 0, none⟩)] w fun e w' => ∃ v0_ v2_ : Value, e = .returned (.tuple #[v0_, .int .i64 r2, v2_]) ∧ Kd.R k200 200 w' w.heap.size (fun _ => True) v0_ r1 ∧ Kd.R k160 160 w' w.heap.size (fun _ => True) v2_ r3 ∧ IsS215 w0 w' g s0_0 r4 r5 ∧ Below w0.heap.size w0 w' ∧ KeepBut w w' g none := by
 have hu160 := Try.underlying160
 have HI0 := Aside0.mk hI
 have HK := Aside0.mk (KeepBut.refl w g none)
 have HL := Aside0.mk hB.size
 clear hI
 have HW0 := Aside0.mk hB.size
 have HB := Aside0.mk hB
 clear hB
 have H : ((spec_l12Good.f k s0_0 s0_1 s0_2).bind fun bt147 => ((spec_l01Next.f s0_0 bt147.2.1 bt147.2.2 9).bind fun bt152 => (spec_l13Good.l0 k bt147.1 bt152.1 (([] : List (S160))) 0 s0_0 bt152.2.1 bt152.2.2))) = some (r1, r2, r3, r4, r5) := h
 clear h
 replace H := Option.bind_eq_some_iff.mp H
 obtain ⟨⟨t147, t150, t151⟩, A20, H⟩ := H
 replace H : ((spec_l01Next.f s0_0 t150 t151 9).bind fun bt152 => (spec_l13Good.l0 k t147 bt152.1 (([] : List (S160))) 0 s0_0 bt152.2.1 bt152.2.2)) = some (r1, r2, r3, r4, r5) := H
 have A2 := Aside0.mk A20
 clear A20
 replace H := Option.bind_eq_some_iff.mp H
 obtain ⟨⟨t152, t153, t154⟩, A30, H⟩ := H
 replace H : (spec_l13Good.l0 k t147 t152 (([] : List (S160))) 0 s0_0 t153 t154) = some (r1, r2, r3, r4, r5) := H
 have A3 := Aside0.mk A30
 clear A30
 obtain ⟨y155, hy155⟩ : ∃ y_ : List (S160), y_ = (([] : List (S160))) := ⟨_, rfl⟩
 replace H : (spec_l13Good.l0 k t147 t152 y155 0 s0_0 t153 t154) = some (r1, r2, r3, r4, r5) := by first | (rw [hy155]; with_reducible exact H) | (have H2_ := (Option.bind_some _ _).symm.trans H; rw [hy155]; with_reducible exact H2_) | (have H2_ := (Option.bind_some _ _).symm.trans H; with_reducible exact H2_) | with_reducible exact H | (rw [hy155]; exact H) | exact H
 have Ny155 := Aside0.mk hy155
 clear hy155
 have H' := Aside0.mk H
 clear H
 go_enter Try.func200, Try.ntmps200
 go_wp2_with (first | ((with_reducible refine gate_callee (f := 220) rfl ?_); refine goesL_ (some 13) rfl rfl Try.func220 (by kernel_rfl) rfl #[.pointer (some ⟨g, 0, none⟩)] rfl ag_ ?_; (with_reducible refine (spec_l12Good.calls k g s0_0 s0_1 s0_2 t147 t150 t151 w0 _ ?side1 ?side2 A2.out).mono ?_); (case side1 => exact r0_ HI0.out); (case side2 => exact r1_ HB.out HI0.out); rintro e w4 ⟨v148, rfl, ho0, hi, hb, hk⟩; refine ⟨_, rfl, ?_⟩; have HO149 := Aside0.mk (Kd.R_lower ho0 (keep_size (w := w) (g := g) (row := none) (r3_ HK.out))); replace HK := Aside0.mk (KeepBut.trans (r3_ HK.out) hk (.inl rfl)); replace HB := Aside0.mk (hb); replace HI0 := Aside0.mk (hi); (try clear hb); (try clear hb2); (try clear hk); (try clear hi); (try clear ho0)) | ((with_reducible refine gate_callee (f := 129) rfl ?_); refine goesL_ (some 15) rfl rfl Try.func129 (by kernel_rfl) rfl #[.pointer (some ⟨g, 0, none⟩), .int .i64 9] rfl ag_ ?_; (with_reducible refine (spec_l01Next.calls g s0_0 t150 t151 9 t152 t153 t154 w0 _ ?side1 ?side2 A3.out).mono ?_); (case side1 => exact r0_ HI0.out); (case side2 => exact r1_ HB.out HI0.out); rintro e w5 ⟨rfl, hi, hb, hk⟩; refine ⟨_, rfl, ?_⟩; replace HO149 := Aside0.mk (Kd.R_mono (Kd.R_keep (IsS215.apart (show IsS215 w0 _ g s0_0 t150 t151 from r0_ HI0.out) (rk_ HO149.out) (by decide)) hk (fun _ h => h.2)) (fun _ h => h.1)); replace HK := Aside0.mk (KeepBut.trans (r3_ HK.out) hk (.inl rfl)); replace HB := Aside0.mk (hb); replace HI0 := Aside0.mk (hi); (try clear hb); (try clear hb2); (try clear hk); (try clear hi)) | ((with_reducible refine gate_dst (N := 16) rfl ?_); refine Kd.R_lit k160 _ 160 ?hg (N := 16) ?hd (xs := ([] : List (S160))) (inner := []) (ok := fun _ => True) (okp := fun _ => True) ?hr ?hp (fun _ hk => hk) trivial (Below.refl _ _) (Nat.le_refl _) (by simp) ?_; (case hd => rfl); (case hg => rfl); (case hr => first | (go_simp; done) | (go_simp; rfl)); (case hp => exact (Reps.none _ _)); intro v156 w6 ho7 hb hg_ hnew_; clear hg_ hnew_; (first | rw [← Ny155.out] at ho7 | (simp only [Int.reduceToNat] at ho7; rw [← Ny155.out] at ho7)); replace HO149 := Aside0.mk (Kd.R_below (rk_ HO149.out) hb); have HO157 := Aside0.mk (Kd.R_lower ho7 (keep_size (w := w) (g := g) (row := none) (r3_ HK.out))); replace HK := Aside0.mk (KeepBut.trans (r3_ HK.out) (KeepBut.of_below hb g none) (.inl rfl)); replace HB := Aside0.mk (below_step (r1_ HB.out HI0.out) hb); replace HI0 := Aside0.mk (IsS215.below (r0_ HI0.out) hb); clear hb ho7))
 go_loopg [7, 8] k (fun kq v7 v8 w' => ∃ (x7_1 : List (S160)) (x8_1 : Int) (x1001_1 : Int) (x1002_1 : Int), v8 = .int .i64 x8_1 ∧ Aside0 (spec_l13Good.l0 kq t147 t152 x7_1 x8_1 s0_0 x1001_1 x1002_1 = some (r1, r2, r3, r4, r5)) ∧ Aside0 (kq ≤ k) ∧ Aside0 (Kd.R k200 200 w' w.heap.size (fun _ => True) v148 t147) ∧ Aside0 (Kd.R k160 160 w' w.heap.size (fun _ => True) v7 x7_1) ∧ Aside0 (IsS215 w0 w' g s0_0 x1001_1 x1002_1) ∧ Aside0 (KeepBut w w' g none) ∧ Aside0 (Below w0.heap.size w0 w'))
 case atStart => exact ⟨(y155), (0), (t153), (t154), (by first | rfl | (simp; done) | (simp [*]; done)), H', ⟨Nat.le_refl _⟩, ⟨rk_ HO149.out⟩, ⟨rk_ HO157.out⟩, ⟨r0_ HI0.out⟩, ⟨r3_ HK.out⟩, ⟨r1_ HB.out HI0.out⟩⟩
 case round =>
  clear H'
  try clear c1
  try clear c2
  try clear p2
  obtain ⟨x7_1, x8_1, x1001_1, x1002_1, rfl, HA, HK1, HO_5, HO_7, HI0, HK, HB⟩ := hrel
  cases gk with
  | zero => exact absurd HA.out (by simp [spec_l13Good.l0])
  | succ k1 =>
   have H := HA.out
   clear HA
   simp only [spec_l13Good.l0] at H
   by_cases c8 : x8_1 < t152
   ·rw [if_pos c8] at H
    have c8b0 : decide (x8_1 < t152) = true := decide_eq_true c8
    clear c8
    replace H := Option.bind_eq_some_iff.mp H
    obtain ⟨⟨t158, t159, t160⟩, A90, H⟩ := H
    replace H : (if 0 ≤ t158 then (if t158 < (t147.length : Int) then ((spec_l01Next.f s0_0 t159 t160 ((rd_T200 t147 t158).f1)).bind fun bt162 => ((some (([] : List (S160)) : List (S160))).bind fun y166 => (if y166.length + x7_1.length < 5864062014805 then ((some (y166 ++ x7_1 : List (S160))).bind fun y169 => ((some (([(⟨x8_1, t158, bt162.1⟩ : S160)] : List (S160)) : List (S160))).bind fun y172 => (if y169.length + y172.length < 5864062014805 then ((some (y169 ++ y172 : List (S160))).bind fun y175 => ((spec_l01Next.f s0_0 bt162.2.1 bt162.2.2 3).bind fun bt178 => (if bt178.1 > 0 then ((spec_AreWires.f k1 t147 t152 y175).bind fun t181 => (if t181 = true then (spec_l13Good.l0 k1 t147 t152 y175 (wrap64 (x8_1 + 1)) s0_0 bt178.2.1 bt178.2.2) else (spec_l13Good.l0 k1 t147 t152 x7_1 (wrap64 (x8_1 + 1)) s0_0 bt178.2.1 bt178.2.2))) else (spec_l13Good.l0 k1 t147 t152 x7_1 (wrap64 (x8_1 + 1)) s0_0 bt178.2.1 bt178.2.2)))) else (none)))) else (none)))) else (none)) else (none)) = some (r1, r2, r3, r4, r5) := H
    have A9 := Aside0.mk A90
    clear A90
    by_cases c10 : 0 ≤ t158
    case neg =>
     rw [if_neg c10] at H
     exact absurd H (by simp)
    rw [if_pos c10] at H
    have c10b0 : decide (0 ≤ t158) = true := decide_eq_true c10
    clear c10
    by_cases c11 : t158 < (t147.length : Int)
    case neg =>
     rw [if_neg c11] at H
     exact absurd H (by simp)
    rw [if_pos c11] at H
    have c11b0 : decide (t158 < (t147.length : Int)) = true := decide_eq_true c11
    clear c11
    replace H := Option.bind_eq_some_iff.mp H
    obtain ⟨⟨t162, t163, t164⟩, A120, H⟩ := H
    replace H : ((some (([] : List (S160)) : List (S160))).bind fun y166 => (if y166.length + x7_1.length < 5864062014805 then ((some (y166 ++ x7_1 : List (S160))).bind fun y169 => ((some (([(⟨x8_1, t158, t162⟩ : S160)] : List (S160)) : List (S160))).bind fun y172 => (if y169.length + y172.length < 5864062014805 then ((some (y169 ++ y172 : List (S160))).bind fun y175 => ((spec_l01Next.f s0_0 t163 t164 3).bind fun bt178 => (if bt178.1 > 0 then ((spec_AreWires.f k1 t147 t152 y175).bind fun t181 => (if t181 = true then (spec_l13Good.l0 k1 t147 t152 y175 (wrap64 (x8_1 + 1)) s0_0 bt178.2.1 bt178.2.2) else (spec_l13Good.l0 k1 t147 t152 x7_1 (wrap64 (x8_1 + 1)) s0_0 bt178.2.1 bt178.2.2))) else (spec_l13Good.l0 k1 t147 t152 x7_1 (wrap64 (x8_1 + 1)) s0_0 bt178.2.1 bt178.2.2)))) else (none)))) else (none))) = some (r1, r2, r3, r4, r5) := H
    have A12 := Aside0.mk A120
    clear A120
    obtain ⟨y166, hy166⟩ : ∃ y_ : List (S160), y_ = (([] : List (S160))) := ⟨_, rfl⟩
    replace H : (if y166.length + x7_1.length < 5864062014805 then ((some (y166 ++ x7_1 : List (S160))).bind fun y169 => ((some (([(⟨x8_1, t158, t162⟩ : S160)] : List (S160)) : List (S160))).bind fun y172 => (if y169.length + y172.length < 5864062014805 then ((some (y169 ++ y172 : List (S160))).bind fun y175 => ((spec_l01Next.f s0_0 t163 t164 3).bind fun bt178 => (if bt178.1 > 0 then ((spec_AreWires.f k1 t147 t152 y175).bind fun t181 => (if t181 = true then (spec_l13Good.l0 k1 t147 t152 y175 (wrap64 (x8_1 + 1)) s0_0 bt178.2.1 bt178.2.2) else (spec_l13Good.l0 k1 t147 t152 x7_1 (wrap64 (x8_1 + 1)) s0_0 bt178.2.1 bt178.2.2))) else (spec_l13Good.l0 k1 t147 t152 x7_1 (wrap64 (x8_1 + 1)) s0_0 bt178.2.1 bt178.2.2)))) else (none)))) else (none)) = some (r1, r2, r3, r4, r5) := by first | (rw [hy166]; with_reducible exact H) | (have H2_ := (Option.bind_some _ _).symm.trans H; rw [hy166]; with_reducible exact H2_) | (have H2_ := (Option.bind_some _ _).symm.trans H; with_reducible exact H2_) | with_reducible exact H | (rw [hy166]; exact H) | exact H
    have Ny166 := Aside0.mk hy166
    clear hy166
    by_cases c13 : y166.length + x7_1.length < 5864062014805
    case neg =>
     rw [if_neg c13] at H
     exact absurd H (by simp)
    rw [if_pos c13] at H
    have LMc13 := Aside0.mk c13
    clear c13
    obtain ⟨y169, hy169⟩ : ∃ y_ : List (S160), y_ = (y166 ++ x7_1) := ⟨_, rfl⟩
    replace H : ((some (([(⟨x8_1, t158, t162⟩ : S160)] : List (S160)) : List (S160))).bind fun y172 => (if y169.length + y172.length < 5864062014805 then ((some (y169 ++ y172 : List (S160))).bind fun y175 => ((spec_l01Next.f s0_0 t163 t164 3).bind fun bt178 => (if bt178.1 > 0 then ((spec_AreWires.f k1 t147 t152 y175).bind fun t181 => (if t181 = true then (spec_l13Good.l0 k1 t147 t152 y175 (wrap64 (x8_1 + 1)) s0_0 bt178.2.1 bt178.2.2) else (spec_l13Good.l0 k1 t147 t152 x7_1 (wrap64 (x8_1 + 1)) s0_0 bt178.2.1 bt178.2.2))) else (spec_l13Good.l0 k1 t147 t152 x7_1 (wrap64 (x8_1 + 1)) s0_0 bt178.2.1 bt178.2.2)))) else (none))) = some (r1, r2, r3, r4, r5) := by first | (rw [hy169]; with_reducible exact H) | (have H2_ := (Option.bind_some _ _).symm.trans H; rw [hy169]; with_reducible exact H2_) | (have H2_ := (Option.bind_some _ _).symm.trans H; with_reducible exact H2_) | with_reducible exact H | (rw [hy169]; exact H) | exact H
    have Ny169 := Aside0.mk hy169
    clear hy169
    obtain ⟨y172, hy172⟩ : ∃ y_ : List (S160), y_ = (([(⟨x8_1, t158, t162⟩ : S160)] : List (S160))) := ⟨_, rfl⟩
    replace H : (if y169.length + y172.length < 5864062014805 then ((some (y169 ++ y172 : List (S160))).bind fun y175 => ((spec_l01Next.f s0_0 t163 t164 3).bind fun bt178 => (if bt178.1 > 0 then ((spec_AreWires.f k1 t147 t152 y175).bind fun t181 => (if t181 = true then (spec_l13Good.l0 k1 t147 t152 y175 (wrap64 (x8_1 + 1)) s0_0 bt178.2.1 bt178.2.2) else (spec_l13Good.l0 k1 t147 t152 x7_1 (wrap64 (x8_1 + 1)) s0_0 bt178.2.1 bt178.2.2))) else (spec_l13Good.l0 k1 t147 t152 x7_1 (wrap64 (x8_1 + 1)) s0_0 bt178.2.1 bt178.2.2)))) else (none)) = some (r1, r2, r3, r4, r5) := by first | (rw [hy172]; with_reducible exact H) | (have H2_ := (Option.bind_some _ _).symm.trans H; rw [hy172]; with_reducible exact H2_) | (have H2_ := (Option.bind_some _ _).symm.trans H; with_reducible exact H2_) | with_reducible exact H | (rw [hy172]; exact H) | exact H
    have Ny172 := Aside0.mk hy172
    clear hy172
    by_cases c14 : y169.length + y172.length < 5864062014805
    case neg =>
     rw [if_neg c14] at H
     exact absurd H (by simp)
    rw [if_pos c14] at H
    have LMc14 := Aside0.mk c14
    clear c14
    obtain ⟨y175, hy175⟩ : ∃ y_ : List (S160), y_ = (y169 ++ y172) := ⟨_, rfl⟩
    replace H : ((spec_l01Next.f s0_0 t163 t164 3).bind fun bt178 => (if bt178.1 > 0 then ((spec_AreWires.f k1 t147 t152 y175).bind fun t181 => (if t181 = true then (spec_l13Good.l0 k1 t147 t152 y175 (wrap64 (x8_1 + 1)) s0_0 bt178.2.1 bt178.2.2) else (spec_l13Good.l0 k1 t147 t152 x7_1 (wrap64 (x8_1 + 1)) s0_0 bt178.2.1 bt178.2.2))) else (spec_l13Good.l0 k1 t147 t152 x7_1 (wrap64 (x8_1 + 1)) s0_0 bt178.2.1 bt178.2.2))) = some (r1, r2, r3, r4, r5) := by first | (rw [hy175]; with_reducible exact H) | (have H2_ := (Option.bind_some _ _).symm.trans H; rw [hy175]; with_reducible exact H2_) | (have H2_ := (Option.bind_some _ _).symm.trans H; with_reducible exact H2_) | with_reducible exact H | (rw [hy175]; exact H) | exact H
    have Ny175 := Aside0.mk hy175
    clear hy175
    replace H := Option.bind_eq_some_iff.mp H
    obtain ⟨⟨t178, t179, t180⟩, A150, H⟩ := H
    replace H : (if t178 > 0 then ((spec_AreWires.f k1 t147 t152 y175).bind fun t181 => (if t181 = true then (spec_l13Good.l0 k1 t147 t152 y175 (wrap64 (x8_1 + 1)) s0_0 t179 t180) else (spec_l13Good.l0 k1 t147 t152 x7_1 (wrap64 (x8_1 + 1)) s0_0 t179 t180))) else (spec_l13Good.l0 k1 t147 t152 x7_1 (wrap64 (x8_1 + 1)) s0_0 t179 t180)) = some (r1, r2, r3, r4, r5) := H
    have A15 := Aside0.mk A150
    clear A150
    by_cases c16 : t178 > 0
    ·rw [if_pos c16] at H
     have c16b0 : decide (0 < t178) = true := decide_eq_true c16
     clear c16
     replace H := Option.bind_eq_some_iff.mp H
     obtain ⟨t181, A170, H⟩ := H
     replace H : (if t181 = true then (spec_l13Good.l0 k1 t147 t152 y175 (wrap64 (x8_1 + 1)) s0_0 t179 t180) else (spec_l13Good.l0 k1 t147 t152 x7_1 (wrap64 (x8_1 + 1)) s0_0 t179 t180)) = some (r1, r2, r3, r4, r5) := H
     have A17 := Aside0.mk A170
     clear A170
     by_cases c18 : t181 = true
     ·subst c18
      replace H : (spec_l13Good.l0 k1 t147 t152 y175 (wrap64 (x8_1 + 1)) s0_0 t179 t180) = some (r1, r2, r3, r4, r5) := by rw [if_pos rfl] at H; exact H
      have H' := Aside0.mk H
      clear H
      obtain ⟨Ao19, co19, eo19⟩ := Kd.R_slice HO_5.out
      subst eo19
      try go_wp2_with (first | ((with_reducible refine gate_callee (f := 129) rfl ?_); refine goesL_ (some 25) rfl rfl Try.func129 (by kernel_rfl) rfl #[.pointer (some ⟨g, 0, none⟩), .int .i64 (t147.length : Int)] rfl ag_ ?_; (with_reducible refine (spec_l01Next.calls g s0_0 x1001_1 x1002_1 (t147.length : Int) t158 t159 t160 w0 _ ?side1 ?side2 A9.out).mono ?_); (case side1 => exact r0_ HI0.out); (case side2 => exact r1_ HB.out HI0.out); rintro e w20 ⟨rfl, hi, hb, hk⟩; refine ⟨_, rfl, ?_⟩; replace HO_5 := Aside0.mk (Kd.R_mono (Kd.R_keep (IsS215.apart (show IsS215 w0 _ g s0_0 x1001_1 x1002_1 from r0_ HI0.out) (rk_ HO_5.out) (by decide)) hk (fun _ h => h.2)) (fun _ h => h.1)); replace HO_7 := Aside0.mk (Kd.R_mono (Kd.R_keep (IsS215.apart (show IsS215 w0 _ g s0_0 x1001_1 x1002_1 from r0_ HI0.out) (rk_ HO_7.out) (by decide)) hk (fun _ h => h.2)) (fun _ h => h.1)); replace HK := Aside0.mk (KeepBut.trans (r3_ HK.out) hk (.inl rfl)); replace HB := Aside0.mk (hb); replace HI0 := Aside0.mk (hi); (try clear hb); (try clear hb2); (try clear hk); (try clear hi); have p161 : 0 ≤ (t158 : Int) := od_; have q161 : t158 < (t147.length : Int) := od_; obtain ⟨ad161, e161, hx161_0, hx161_1⟩ := at_T200 (Kd.R_reads' HO_5.out).2.2 t158 p161 q161; cases e161; replace p161 := eq_true p161; replace q161 := eq_true q161) | ((with_reducible refine gate_callee (f := 129) rfl ?_); refine goesL_ (some 34) rfl rfl Try.func129 (by kernel_rfl) rfl #[.pointer (some ⟨g, 0, none⟩), .int .i64 ((rd_T200 t147 t158).f1)] rfl ag_ ?_; (with_reducible refine (spec_l01Next.calls g s0_0 t159 t160 ((rd_T200 t147 t158).f1) t162 t163 t164 w0 _ ?side1 ?side2 A12.out).mono ?_); (case side1 => exact r0_ HI0.out); (case side2 => exact r1_ HB.out HI0.out); rintro e w21 ⟨rfl, hi, hb, hk⟩; refine ⟨_, rfl, ?_⟩; replace HO_5 := Aside0.mk (Kd.R_mono (Kd.R_keep (IsS215.apart (show IsS215 w0 _ g s0_0 t159 t160 from r0_ HI0.out) (rk_ HO_5.out) (by decide)) hk (fun _ h => h.2)) (fun _ h => h.1)); replace HO_7 := Aside0.mk (Kd.R_mono (Kd.R_keep (IsS215.apart (show IsS215 w0 _ g s0_0 t159 t160 from r0_ HI0.out) (rk_ HO_7.out) (by decide)) hk (fun _ h => h.2)) (fun _ h => h.1)); replace HK := Aside0.mk (KeepBut.trans (r3_ HK.out) hk (.inl rfl)); replace HB := Aside0.mk (hb); replace HI0 := Aside0.mk (hi); (try clear hb); (try clear hb2); (try clear hk); (try clear hi)) | ((with_reducible refine gate_dst (N := 10) rfl ?_); refine box_event ?hg (N := 10) ?hd (cs := #[.int .i64 0, .int .i64 0, .int .i64 0]) (t := 160) ?hr ?_; (case hd => rfl); (case hg => rfl); (case hr => first | (go_simp; done) | (go_simp; rfl)); intro gb165 hg w22 hbox hb; replace HO_5 := Aside0.mk (Kd.R_below (rk_ HO_5.out) hb); replace HO_7 := Aside0.mk (Kd.R_below (Kd.R_elderB (rk_ HO_7.out) gb165 (Nat.le_of_eq hg.symm)) hb); replace HB := Aside0.mk (below_step (r1_ HB.out HI0.out) hb); have BK165 := Aside0.mk (hbox); have GW165 := Aside0.mk ((by rw [hg]; exact (keep_size (w := w) (g := g) (row := none) (r3_ HK.out)) : w.heap.size ≤ gb165)); have GE165 := Aside0.mk ((Nat.le_trans HW0.out (by rw [hg]; exact (keep_size (w := w) (g := g) (row := none) (r3_ HK.out)) : w.heap.size ≤ gb165) : w0.heap.size ≤ gb165)); replace HK := Aside0.mk (KeepBut.trans (r3_ HK.out) (KeepBut.of_below hb g none) (.inl rfl)); have NB0_165 := Aside0.mk ((by rw [hg]; exact Nat.ne_of_lt (IsS215.lt (show IsS215 w0 _ g s0_0 t163 t164 from r0_ HI0.out)) : g ≠ gb165)); have NB165_0 := Aside0.mk ((by rw [hg]; exact Nat.ne_of_gt (IsS215.lt (show IsS215 w0 _ g s0_0 t163 t164 from r0_ HI0.out)) : gb165 ≠ g)); replace HI0 := Aside0.mk (IsS215.below (r0_ HI0.out) hb); clear hb hbox hg; have hnb23 := NB165_0.out; have hnc23 := NB0_165.out; have hcz24_0 : w22.cell? ⟨gb165, 0, none⟩ = some (.int .i64 0) := (blk_cell BK165.out 0).trans rfl; have hcz24_1 : w22.cell? ⟨gb165, 1, none⟩ = some (.int .i64 0) := (blk_cell BK165.out 1).trans rfl; have hcz24_2 : w22.cell? ⟨gb165, 2, none⟩ = some (.int .i64 0) := (blk_cell BK165.out 2).trans rfl; have hfz24_0 := blk_frozen BK165.out 0; have hfz24_1 := blk_frozen BK165.out 1; have hfz24_2 := blk_frozen BK165.out 2; obtain ⟨Ao25, co25, eo25⟩ := Kd.R_slice HO_7.out; subst eo25))
      have n0_ : Aside0 (Kd.R k200 200 (((w22.setCell ⟨gb165, 0, none⟩ (.int .i64 x8_1)).setCell ⟨gb165, 1, none⟩ (.int .i64 t158)).setCell ⟨gb165, 2, none⟩ (.int .i64 t162)) w.heap.size (fun _ => True) (.slice (some ad161) t147.length co19) t147) := ⟨rk_ (Kd.R_mono (Kd.R_far (p := ⟨gb165, 2, none⟩) (Kd.R_far (p := ⟨gb165, 1, none⟩) (Kd.R_far (p := ⟨gb165, 0, none⟩) (Kd.R_types HO_5.out BK165.out (by decide)) (fun _ hk => hk.2) (.int .i64 x8_1)) (fun _ hk => hk.2) (.int .i64 t158)) (fun _ hk => hk.2) (.int .i64 t162)) (fun _ hk => trivial))⟩
      have n1_ : Aside0 (Kd.R k160 160 (((w22.setCell ⟨gb165, 0, none⟩ (.int .i64 x8_1)).setCell ⟨gb165, 1, none⟩ (.int .i64 t158)).setCell ⟨gb165, 2, none⟩ (.int .i64 t162)) w.heap.size (fun k_ => k_ ≠ gb165) (.slice Ao25 x7_1.length co25) x7_1) := ⟨rk_ (Kd.R_mono (Kd.R_far (p := ⟨gb165, 2, none⟩) (Kd.R_far (p := ⟨gb165, 1, none⟩) (Kd.R_far (p := ⟨gb165, 0, none⟩) (Kd.R_mono HO_7.out (fun k_ hk => (⟨hk, hk.2⟩ : _ ∧ k_ ≠ gb165))) (fun _ hk => hk.2) (.int .i64 x8_1)) (fun _ hk => hk.2) (.int .i64 t158)) (fun _ hk => hk.2) (.int .i64 t162)) (fun _ hk => hk.1.2))⟩
      have n2_ : Aside0 ((((w22.setCell ⟨gb165, 0, none⟩ (.int .i64 x8_1)).setCell ⟨gb165, 1, none⟩ (.int .i64 t158)).setCell ⟨gb165, 2, none⟩ (.int .i64 t162)).heap[gb165]? = some (.cells #[.int .i64 x8_1, .int .i64 t158, .int .i64 t162] 160 (0, 0))) := ⟨by (with_reducible repeat (first | refine blk_drewN ?_ _ | refine blk_drew ?_ | refine blk_alloc ?_ _)); refine blk_put (cs := #[.int .i64 x8_1, .int .i64 t158, .int .i64 0]) ?_ 2 _ rfl; (with_reducible repeat (first | refine blk_drewN ?_ _ | refine blk_drew ?_ | refine blk_alloc ?_ _)); refine blk_put (cs := #[.int .i64 x8_1, .int .i64 0, .int .i64 0]) ?_ 1 _ rfl; (with_reducible repeat (first | refine blk_drewN ?_ _ | refine blk_drew ?_ | refine blk_alloc ?_ _)); refine blk_put (cs := #[.int .i64 0, .int .i64 0, .int .i64 0]) ?_ 0 _ rfl; (with_reducible repeat (first | refine blk_drewN ?_ _ | refine blk_drew ?_ | refine blk_alloc ?_ _)); exact BK165.out⟩
      have n3_ : Aside0 (IsS215 w0 (((w22.setCell ⟨gb165, 0, none⟩ (.int .i64 x8_1)).setCell ⟨gb165, 1, none⟩ (.int .i64 t158)).setCell ⟨gb165, 2, none⟩ (.int .i64 t162)) g s0_0 t163 t164) := ⟨r8_ HI0.out NB0_165.out⟩
      have n4_ : Aside0 (KeepBut w (((w22.setCell ⟨gb165, 0, none⟩ (.int .i64 x8_1)).setCell ⟨gb165, 1, none⟩ (.int .i64 t158)).setCell ⟨gb165, 2, none⟩ (.int .i64 t162)) g none) := ⟨r6_ HK.out GW165.out⟩
      have n5_ : Aside0 (Below w0.heap.size w0 (((w22.setCell ⟨gb165, 0, none⟩ (.int .i64 x8_1)).setCell ⟨gb165, 1, none⟩ (.int .i64 t158)).setCell ⟨gb165, 2, none⟩ (.int .i64 t162))) := ⟨r10_ HB.out HI0.out GE165.out⟩
      (try clear HO_5)
      (try clear HO_7)
      (try clear BK165)
      (try clear HI0)
      (try clear HK)
      (try clear HB)
      generalize (((w22.setCell ⟨gb165, 0, none⟩ (.int .i64 x8_1)).setCell ⟨gb165, 1, none⟩ (.int .i64 t158)).setCell ⟨gb165, 2, none⟩ (.int .i64 t162)) = w26 at n0_ n1_ n2_ n3_ n4_ n5_ ⊢
      have HO_5 := n0_
      have HO_7 := n1_
      have BK165 := n2_
      have HI0 := n3_
      have HK := n4_
      have HB := n5_
      clear n0_ n1_ n2_ n3_ n4_ n5_
      replace HO_5 := Aside0.mk (Kd.R_drew HO_5.out)
      replace HO_7 := Aside0.mk (Kd.R_drew HO_7.out)
      replace BK165 := Aside0.mk (blk_drew BK165.out)
      replace HI0 := Aside0.mk (IsS215.drew HI0.out)
      replace HK := Aside0.mk (keep_drew HK.out)
      replace HB := Aside0.mk (below_drew1 HB.out)
      refine start_ (n := 7) (S := fun w' => w'.cell? ⟨gb165, 0, none⟩ = some (.int .i64 x8_1) ∧ w'.cell? ⟨gb165, 1, none⟩ = some (.int .i64 t158) ∧ w'.cell? ⟨gb165, 2, none⟩ = some (.int .i64 t162)) (ds := []) #[f_,f_,f_,f_,f_,f_,f_] (by kernel_rfl) rfl rfl ⟨(blk_cell BK165.out 0).trans rfl, (blk_cell BK165.out 1).trans rfl, (blk_cell BK165.out 2).trans rfl⟩ (fun hHeld => ?_)
      generalize w26.drew = w27 at HO_5 HO_7 BK165 HI0 HK HB hHeld ⊢
      refine pure_ (i := 1) (N := some 37) (v := ?_) (a' := ?_) #[f_,t_,f_,f_,f_,f_,f_] rfl rfl (by kernel_rfl) (fun _ _ _ h => h) (Or.inl ⟨by rfl, ?_⟩) ?_ ?_
      rotate_left
      ·intro w'
       go_simp
       with_reducible rfl
      rotate_left
      ·simp only [pz_]
       rfl
      refine take_ (i := 3) (N := some 39) (v := ?_) (a' := ?_) #[f_,t_,f_,t_,f_,f_,f_] rfl rfl (by kernel_rfl) (fun _ _ _ h => h) (Or.inl ⟨by rfl, ?_⟩) hHeld ?_ ?_
      rotate_left
      ·rintro w' ⟨s0, s1, s2⟩
       go_simp
       with_reducible rfl
      rotate_left
      ·simp only [pz_]
       rfl
      refine join_ (σ := Value × Value × Value) 2 #[t_,t_,t_,t_,t_,f_,f_] (fun s_ => [(36, s_.1), (38, s_.2.1), (40, s_.2.2)]) (fun s_ w' => (w'.cell? ⟨gb165, 0, none⟩ = some (.int .i64 x8_1) ∧ w'.cell? ⟨gb165, 1, none⟩ = some (.int .i64 t158) ∧ w'.cell? ⟨gb165, 2, none⟩ = some (.int .i64 t162)) ∧ (Kd.R k160 160 w' w.heap.size (fun k_ => some k_ ≠ (s_.2.2 : Value).ownBlock ∧ some k_ ≠ (.slice Ao25 x7_1.length co25 : Value).ownBlock ∧ k_ ≠ gb165) s_.2.1 y169) ∧ (Kd.R k160 160 w' w.heap.size (fun k_ => some k_ ≠ (s_.2.1 : Value).ownBlock ∧ some k_ ≠ (.slice Ao25 x7_1.length co25 : Value).ownBlock ∧ k_ ≠ gb165) s_.2.2 y172) ∧ (Kd.R k200 200 w' w.heap.size (fun _ => True) (.slice (some ad161) t147.length co19) t147) ∧ (Kd.R k160 160 w' w.heap.size (fun k_ => some k_ ≠ (s_.2.1 : Value).ownBlock ∧ some k_ ≠ (s_.2.2 : Value).ownBlock ∧ k_ ≠ gb165) (.slice Ao25 x7_1.length co25) x7_1) ∧ (w'.heap[gb165]? = some (.cells #[.int .i64 x8_1, .int .i64 t158, .int .i64 t162] 160 (0, 0))) ∧ (IsS215 w0 w' g s0_0 t163 t164) ∧ (KeepBut w w' g none) ∧ (Below w0.heap.size w0 w')) ?_ ?_
      rotate_left
      ·intro hCont
       refine two_ (i := 0) (j := 4) (Ni := some 36) (Nj := some 40) #[t_,t_,f_,t_,f_,f_,f_] #[f_,t_,f_,t_,t_,f_,f_] rfl rfl rfl rfl (by kernel_rfl) (by decide) (by decide) (fun K hK => ?_) (fun K hK => ?_)
       ·skip
        refine Kd.R_lit_step k160 _ 160 ?hg (N := 36) ?hd (xs := ([] : List (S160))) (inner := []) (ok := fun _ => True) (okp := fun _ => True) ?hr ?hp (fun _ hk => hk) trivial (Below.refl _ _) (Nat.le_refl _) (by simp) ?_; (case hd => rfl); (case hg => rfl); (case hr => first | (go_simp; done) | (go_simp; rfl)); (case hp => exact (Reps.none _ _))
        intro v167 w28 ho29 hb hg_ hnew_
        clear hg_ hnew_
        (first | rw [← Ny166.out] at ho29 | (simp only [Int.reduceToNat] at ho29; rw [← Ny166.out] at ho29))
        replace HO_5 := Aside0.mk (Kd.R_below (rk_ HO_5.out) hb)
        have HO168 := Aside0.mk (Kd.R_lower (Kd.R_newB (Kd.R_new' ho29 (Kd.R_lt (rk_ HO_7.out))) (g := gb165) (o := .cells #[.int .i64 x8_1, .int .i64 t158, .int .i64 t162] 160 (0, 0)) (r2_ BK165.out)) (keep_size (w := w) (g := g) (row := none) (r6_ HK.out GW165.out)))
        replace HO_7 := Aside0.mk (Kd.R_elder' (rk_ HO_7.out) (Kd.R_base ho29) hb)
        replace BK165 := Aside0.mk (blk_below (g := gb165) (o := .cells #[.int .i64 x8_1, .int .i64 t158, .int .i64 t162] 160 (0, 0)) (r2_ BK165.out) hb)
        replace HK := Aside0.mk (KeepBut.trans (r6_ HK.out GW165.out) (KeepBut.of_below hb g none) (.inl rfl))
        replace HB := Aside0.mk (below_step (r10_ HB.out HI0.out GE165.out) hb)
        replace HI0 := Aside0.mk (IsS215.below (r8_ HI0.out NB0_165.out) hb)
        clear hb ho29
        refine hK.out _ _ ⟨(blk_cell BK165.out 0).trans rfl, (blk_cell BK165.out 1).trans rfl, (blk_cell BK165.out 2).trans rfl⟩ (fun hHeld => ?_)
        clear hK K
        refine norm_ (a' := ?_) ?_ ?_
        rotate_left
        ·show Act.put _ (some 36) _ = _
         simp only [pz_]
         rfl
        refine two_ (i := 2) (j := 4) (Ni := some 38) (Nj := some 40) #[t_,t_,t_,t_,f_,f_,f_] #[t_,t_,f_,t_,t_,f_,f_] rfl rfl rfl rfl (by kernel_rfl) (by decide) (by decide) (fun K hK => ?_) (fun K hK => ?_)
        ·skip
         refine Kd.R_append_rows_step k160 w.heap.size (by rfl) (.tmp 36) (.tmp 37) 44 160 (.agg #[(.int .i64 0), (.int .i64 0), (.int .i64 0)]) 24 rfl Try.underlying44 info160 rfl (by decide) (by omega) v167 y166 x7_1 _ _ _ (fun k_ => some k_ ≠ (.slice Ao25 x7_1.length co25 : Value).ownBlock ∧ k_ ≠ gb165) (fun _ => False) rfl rfl ?aO ?aR (fun _ _ h => h) (fun _ h => h.elim) ?aF (Below.refl _ _) ?aS ?aL ?_
         (case aR => exact r7_ HO_7.out)
         (case aF => exact (fun k_ hk => ⟨Kd.fresh' (Kd.R_lt (rk_ HO_7.out)) k_ hk, Kd.freshB (g := gb165) (o := .cells #[.int .i64 x8_1, .int .i64 t158, .int .i64 t162] 160 (0, 0)) (r2_ BK165.out) k_ hk⟩))
         (case aO => exact (rk_ (Kd.R_mono HO168.out (fun _ hk => ⟨hk.1.2, hk.2⟩))))
         (case aS => exact (keep_size (w := w) (g := g) (row := none) (r6_ HK.out GW165.out)))
         (case aL => have := LMc13.out; omega)
         intro v170 w30 ho hb hg hat
         rw [← Ny169.out] at ho
         have n0_ := Aside0.mk (Kd.R_over' (rk_ HO_5.out) (Kd.R_typed (rk_ HO168.out)) (by decide) hg)
         have n1_ := Aside0.mk (Kd.R_after (ok := (fun k_ => k_ ≠ gb165)) (rk_ HO_7.out) hg hat)
         have n2_ := Aside0.mk (IsS215.grown (r8_ HI0.out NB0_165.out) hg (IsS215.own_ne HI0.out HO168.out (by decide)))
         have n3_ := Aside0.mk (blk_grown (g := gb165) (o := .cells #[.int .i64 x8_1, .int .i64 t158, .int .i64 t162] 160 (0, 0)) (r2_ BK165.out) hg (Kd.R_away HO168.out (fun _ hk => hk.2)))
         have n4_ := Aside0.mk (below_weaken (r10_ HB.out HI0.out GE165.out) HL.out hb)
         have n5_ := Aside0.mk (KeepBut.trans (r6_ HK.out GW165.out) (KeepBut.of_grown hg g) (Kd.R_base2 HO168.out))
         have n6_ := Aside0.mk (ho)
         clear HO_5
         clear HO_7
         clear HI0
         clear BK165
         clear HB
         clear HK
         clear HO168
         have HO_5 := n0_
         have HO_7 := n1_
         have HI0 := n2_
         have BK165 := n3_
         have HB := n4_
         have HK := n5_
         have HO171 := n6_
         clear n0_ n1_ n2_ n3_ n4_ n5_ n6_
         clear ho hb hg hat
         refine hK.out _ _ ⟨(blk_cell BK165.out 0).trans rfl, (blk_cell BK165.out 1).trans rfl, (blk_cell BK165.out 2).trans rfl⟩ (fun hHeld => ?_)
         clear hK K
         refine norm_ (a' := ?_) ?_ ?_
         rotate_left
         ·show Act.put _ (some 38) _ = _
          simp only [pz_]
          rfl
         refine one_ (i := 4) (N := some 40) #[t_,t_,t_,t_,t_,f_,f_] rfl rfl (by kernel_rfl) (by decide) (fun K hK => ?_)
         refine Kd.R_lit_step k160 _ 160 ?hg (N := 40) ?hd (xs := ([(⟨x8_1, t158, t162⟩ : S160)] : List (S160))) (inner := [.int .i64 x8_1, .int .i64 t158, .int .i64 t162]) (ok := fun _ => True) (okp := fun _ => True) ?hr ?hp (fun _ hk => hk) trivial (Below.refl _ _) (Nat.le_refl _) (by simp) ?_; (case hd => rfl); (case hg => rfl); (case hr => first | (go_simp; done) | (go_simp; rfl)); (case hp => exact (Reps.c3 (show Kd.M k160 _ _ _ (⟨x8_1, t158, t162⟩ : S160) [.int .i64 x8_1, .int .i64 t158, .int .i64 t162] from (k160_mkM _ _ _ (⟨x8_1, t158, t162⟩ : S160) )) (Reps.none _ _)))
         intro v173 w31 ho32 hb hg_ hnew_
         clear hg_ hnew_
         (first | rw [← Ny172.out] at ho32 | (simp only [Int.reduceToNat] at ho32; rw [← Ny172.out] at ho32))
         replace HO_5 := Aside0.mk (Kd.R_below (rk_ HO_5.out) hb)
         have HO174 := Aside0.mk (Kd.R_lower (Kd.R_newB (Kd.R_new' (Kd.R_new' ho32 (Kd.R_lt (rk_ HO_7.out))) (Kd.R_lt (rk_ HO171.out))) (g := gb165) (o := .cells #[.int .i64 x8_1, .int .i64 t158, .int .i64 t162] 160 (0, 0)) (r2_ BK165.out)) (keep_size (w := w) (g := g) (row := none) (r6_ HK.out GW165.out)))
         replace HO_7 := Aside0.mk (Kd.R_elder' (rk_ HO_7.out) (Kd.R_base ho32) hb)
         replace HO171 := Aside0.mk (Kd.R_elder' (rk_ HO171.out) (Kd.R_base ho32) hb)
         replace BK165 := Aside0.mk (blk_below (g := gb165) (o := .cells #[.int .i64 x8_1, .int .i64 t158, .int .i64 t162] 160 (0, 0)) (r2_ BK165.out) hb)
         replace HK := Aside0.mk (KeepBut.trans (r6_ HK.out GW165.out) (KeepBut.of_below hb g none) (.inl rfl))
         replace HB := Aside0.mk (below_step (r10_ HB.out HI0.out GE165.out) hb)
         replace HI0 := Aside0.mk (IsS215.below (r8_ HI0.out NB0_165.out) hb)
         clear hb ho32
         refine hK.out _ _ ⟨(blk_cell BK165.out 0).trans rfl, (blk_cell BK165.out 1).trans rfl, (blk_cell BK165.out 2).trans rfl⟩ (fun hHeld => ?_)
         clear hK K
         refine norm_ (a' := ?_) ?_ ?_
         rotate_left
         ·show Act.put _ (some 40) _ = _
          simp only [pz_]
          rfl
         exact norm_ (by simp only [putAll, Act.put, List.setIfInBounds_toArray, List.set_cons_zero, List.set_cons_succ]) (hCont (v167, v170, v173) _ ⟨hHeld, (rk_ (Kd.R_mono HO171.out (fun _ hk => ⟨hk.2, ⟨hk.1.1, hk.1.2⟩⟩))), (rk_ (Kd.R_mono HO174.out (fun _ hk => ⟨hk.1.2, ⟨hk.1.1.2, hk.2⟩⟩))), (rk_ HO_5.out), (rk_ (Kd.R_mono HO_7.out (fun _ hk => ⟨hk.1.2, ⟨hk.2, hk.1.1⟩⟩))), (r2_ BK165.out), (r8_ HI0.out NB0_165.out), (r6_ HK.out GW165.out), (r10_ HB.out HI0.out GE165.out)⟩)
        ·skip
         refine Kd.R_lit_step k160 _ 160 ?hg (N := 40) ?hd (xs := ([(⟨x8_1, t158, t162⟩ : S160)] : List (S160))) (inner := [.int .i64 x8_1, .int .i64 t158, .int .i64 t162]) (ok := fun _ => True) (okp := fun _ => True) ?hr ?hp (fun _ hk => hk) trivial (Below.refl _ _) (Nat.le_refl _) (by simp) ?_; (case hd => rfl); (case hg => rfl); (case hr => first | (go_simp; done) | (go_simp; rfl)); (case hp => exact (Reps.c3 (show Kd.M k160 _ _ _ (⟨x8_1, t158, t162⟩ : S160) [.int .i64 x8_1, .int .i64 t158, .int .i64 t162] from (k160_mkM _ _ _ (⟨x8_1, t158, t162⟩ : S160) )) (Reps.none _ _)))
         intro v173 w30 ho31 hb hg_ hnew_
         clear hg_ hnew_
         (first | rw [← Ny172.out] at ho31 | (simp only [Int.reduceToNat] at ho31; rw [← Ny172.out] at ho31))
         replace HO_5 := Aside0.mk (Kd.R_below (rk_ HO_5.out) hb)
         have HO174 := Aside0.mk (Kd.R_lower (Kd.R_newB (Kd.R_new' (Kd.R_new' ho31 (Kd.R_lt (rk_ HO_7.out))) (Kd.R_lt (rk_ HO168.out))) (g := gb165) (o := .cells #[.int .i64 x8_1, .int .i64 t158, .int .i64 t162] 160 (0, 0)) (r2_ BK165.out)) (keep_size (w := w) (g := g) (row := none) (r6_ HK.out GW165.out)))
         replace HO_7 := Aside0.mk (Kd.R_elder' (rk_ HO_7.out) (Kd.R_base ho31) hb)
         replace HO168 := Aside0.mk (Kd.R_elder' (rk_ HO168.out) (Kd.R_base ho31) hb)
         replace BK165 := Aside0.mk (blk_below (g := gb165) (o := .cells #[.int .i64 x8_1, .int .i64 t158, .int .i64 t162] 160 (0, 0)) (r2_ BK165.out) hb)
         replace HK := Aside0.mk (KeepBut.trans (r6_ HK.out GW165.out) (KeepBut.of_below hb g none) (.inl rfl))
         replace HB := Aside0.mk (below_step (r10_ HB.out HI0.out GE165.out) hb)
         replace HI0 := Aside0.mk (IsS215.below (r8_ HI0.out NB0_165.out) hb)
         clear hb ho31
         refine hK.out _ _ ⟨(blk_cell BK165.out 0).trans rfl, (blk_cell BK165.out 1).trans rfl, (blk_cell BK165.out 2).trans rfl⟩ (fun hHeld => ?_)
         clear hK K
         refine norm_ (a' := ?_) ?_ ?_
         rotate_left
         ·show Act.put _ (some 40) _ = _
          simp only [pz_]
          rfl
         refine one_ (i := 2) (N := some 38) #[t_,t_,t_,t_,t_,f_,f_] rfl rfl (by kernel_rfl) (by decide) (fun K hK => ?_)
         refine Kd.R_append_rows_step k160 w.heap.size (by rfl) (.tmp 36) (.tmp 37) 44 160 (.agg #[(.int .i64 0), (.int .i64 0), (.int .i64 0)]) 24 rfl Try.underlying44 info160 rfl (by decide) (by omega) v167 y166 x7_1 _ _ _ (fun k_ => some k_ ≠ (.slice Ao25 x7_1.length co25 : Value).ownBlock ∧ some k_ ≠ (v173 : Value).ownBlock ∧ k_ ≠ gb165) (fun _ => False) rfl rfl ?aO ?aR (fun _ _ h => h) (fun _ h => h.elim) ?aF (Below.refl _ _) ?aS ?aL ?_
         (case aR => exact r7_ HO_7.out)
         (case aF => exact (fun k_ hk => ⟨Kd.fresh' (Kd.R_lt (rk_ HO_7.out)) k_ hk, Kd.fresh' (Kd.R_lt (rk_ HO174.out)) k_ hk, Kd.freshB (g := gb165) (o := .cells #[.int .i64 x8_1, .int .i64 t158, .int .i64 t162] 160 (0, 0)) (r2_ BK165.out) k_ hk⟩))
         (case aO => exact (rk_ (Kd.R_mono HO168.out (fun _ hk => ⟨hk.1.1.2, ⟨hk.2, hk.1.2⟩⟩))))
         (case aS => exact (keep_size (w := w) (g := g) (row := none) (r6_ HK.out GW165.out)))
         (case aL => have := LMc13.out; omega)
         intro v170 w32 ho hb hg hat
         rw [← Ny169.out] at ho
         have n0_ := Aside0.mk (Kd.R_over' (rk_ HO_5.out) (Kd.R_typed (rk_ HO168.out)) (by decide) hg)
         have n1_ := Aside0.mk (Kd.R_after (ok := (fun k_ => some k_ ≠ (v173 : Value).ownBlock ∧ k_ ≠ gb165)) (rk_ (Kd.R_mono HO_7.out (fun _ hk => ⟨⟨hk.2, hk.1.1⟩, hk.1.2⟩))) hg hat)
         have n2_ := Aside0.mk (IsS215.grown (r8_ HI0.out NB0_165.out) hg (IsS215.own_ne HI0.out HO168.out (by decide)))
         have n3_ := Aside0.mk (blk_grown (g := gb165) (o := .cells #[.int .i64 x8_1, .int .i64 t158, .int .i64 t162] 160 (0, 0)) (r2_ BK165.out) hg (Kd.R_away HO168.out (fun _ hk => hk.1.2)))
         have n4_ := Aside0.mk (Kd.R_after (ok := (fun k_ => some k_ ≠ (.slice Ao25 x7_1.length co25 : Value).ownBlock ∧ k_ ≠ gb165)) (rk_ (Kd.R_mono HO174.out (fun _ hk => ⟨⟨hk.1.1.2, hk.2⟩, hk.1.2⟩))) hg hat)
         have n5_ := Aside0.mk (below_weaken (r10_ HB.out HI0.out GE165.out) HL.out hb)
         have n6_ := Aside0.mk (KeepBut.trans (r6_ HK.out GW165.out) (KeepBut.of_grown hg g) (Kd.R_base2 HO168.out))
         have n7_ := Aside0.mk (ho)
         clear HO_5
         clear HO_7
         clear HI0
         clear BK165
         clear HO174
         clear HB
         clear HK
         clear HO168
         have HO_5 := n0_
         have HO_7 := n1_
         have HI0 := n2_
         have BK165 := n3_
         have HO174 := n4_
         have HB := n5_
         have HK := n6_
         have HO171 := n7_
         clear n0_ n1_ n2_ n3_ n4_ n5_ n6_ n7_
         clear ho hb hg hat
         refine hK.out _ _ ⟨(blk_cell BK165.out 0).trans rfl, (blk_cell BK165.out 1).trans rfl, (blk_cell BK165.out 2).trans rfl⟩ (fun hHeld => ?_)
         clear hK K
         refine norm_ (a' := ?_) ?_ ?_
         rotate_left
         ·show Act.put _ (some 38) _ = _
          simp only [pz_]
          rfl
         exact norm_ (by simp only [putAll, Act.put, List.setIfInBounds_toArray, List.set_cons_zero, List.set_cons_succ]) (hCont (v167, v170, v173) _ ⟨hHeld, (rk_ (Kd.R_mono HO171.out (fun _ hk => ⟨hk.2.1, ⟨hk.1, hk.2.2⟩⟩))), (rk_ (Kd.R_mono HO174.out (fun _ hk => ⟨hk.2, ⟨hk.1.1, hk.1.2⟩⟩))), (rk_ HO_5.out), (rk_ (Kd.R_mono HO_7.out (fun _ hk => ⟨hk.2, ⟨hk.1.1, hk.1.2⟩⟩))), (r2_ BK165.out), (r8_ HI0.out NB0_165.out), (r6_ HK.out GW165.out), (r10_ HB.out HI0.out GE165.out)⟩)
       ·skip
        refine Kd.R_lit_step k160 _ 160 ?hg (N := 40) ?hd (xs := ([(⟨x8_1, t158, t162⟩ : S160)] : List (S160))) (inner := [.int .i64 x8_1, .int .i64 t158, .int .i64 t162]) (ok := fun _ => True) (okp := fun _ => True) ?hr ?hp (fun _ hk => hk) trivial (Below.refl _ _) (Nat.le_refl _) (by simp) ?_; (case hd => rfl); (case hg => rfl); (case hr => first | (go_simp; done) | (go_simp; rfl)); (case hp => exact (Reps.c3 (show Kd.M k160 _ _ _ (⟨x8_1, t158, t162⟩ : S160) [.int .i64 x8_1, .int .i64 t158, .int .i64 t162] from (k160_mkM _ _ _ (⟨x8_1, t158, t162⟩ : S160) )) (Reps.none _ _)))
        intro v173 w28 ho29 hb hg_ hnew_
        clear hg_ hnew_
        (first | rw [← Ny172.out] at ho29 | (simp only [Int.reduceToNat] at ho29; rw [← Ny172.out] at ho29))
        replace HO_5 := Aside0.mk (Kd.R_below (rk_ HO_5.out) hb)
        have HO174 := Aside0.mk (Kd.R_lower (Kd.R_newB (Kd.R_new' ho29 (Kd.R_lt (rk_ HO_7.out))) (g := gb165) (o := .cells #[.int .i64 x8_1, .int .i64 t158, .int .i64 t162] 160 (0, 0)) (r2_ BK165.out)) (keep_size (w := w) (g := g) (row := none) (r6_ HK.out GW165.out)))
        replace HO_7 := Aside0.mk (Kd.R_elder' (rk_ HO_7.out) (Kd.R_base ho29) hb)
        replace BK165 := Aside0.mk (blk_below (g := gb165) (o := .cells #[.int .i64 x8_1, .int .i64 t158, .int .i64 t162] 160 (0, 0)) (r2_ BK165.out) hb)
        replace HK := Aside0.mk (KeepBut.trans (r6_ HK.out GW165.out) (KeepBut.of_below hb g none) (.inl rfl))
        replace HB := Aside0.mk (below_step (r10_ HB.out HI0.out GE165.out) hb)
        replace HI0 := Aside0.mk (IsS215.below (r8_ HI0.out NB0_165.out) hb)
        clear hb ho29
        refine hK.out _ _ ⟨(blk_cell BK165.out 0).trans rfl, (blk_cell BK165.out 1).trans rfl, (blk_cell BK165.out 2).trans rfl⟩ (fun hHeld => ?_)
        clear hK K
        refine norm_ (a' := ?_) ?_ ?_
        rotate_left
        ·show Act.put _ (some 40) _ = _
         simp only [pz_]
         rfl
        refine one_ (i := 0) (N := some 36) #[t_,t_,f_,t_,t_,f_,f_] rfl rfl (by kernel_rfl) (by decide) (fun K hK => ?_)
        refine Kd.R_lit_step k160 _ 160 ?hg (N := 36) ?hd (xs := ([] : List (S160))) (inner := []) (ok := fun _ => True) (okp := fun _ => True) ?hr ?hp (fun _ hk => hk) trivial (Below.refl _ _) (Nat.le_refl _) (by simp) ?_; (case hd => rfl); (case hg => rfl); (case hr => first | (go_simp; done) | (go_simp; rfl)); (case hp => exact (Reps.none _ _))
        intro v167 w30 ho31 hb hg_ hnew_
        clear hg_ hnew_
        (first | rw [← Ny166.out] at ho31 | (simp only [Int.reduceToNat] at ho31; rw [← Ny166.out] at ho31))
        replace HO_5 := Aside0.mk (Kd.R_below (rk_ HO_5.out) hb)
        have HO168 := Aside0.mk (Kd.R_lower (Kd.R_newB (Kd.R_new' (Kd.R_new' ho31 (Kd.R_lt (rk_ HO_7.out))) (Kd.R_lt (rk_ HO174.out))) (g := gb165) (o := .cells #[.int .i64 x8_1, .int .i64 t158, .int .i64 t162] 160 (0, 0)) (r2_ BK165.out)) (keep_size (w := w) (g := g) (row := none) (r6_ HK.out GW165.out)))
        replace HO_7 := Aside0.mk (Kd.R_elder' (rk_ HO_7.out) (Kd.R_base ho31) hb)
        replace HO174 := Aside0.mk (Kd.R_elder' (rk_ HO174.out) (Kd.R_base ho31) hb)
        replace BK165 := Aside0.mk (blk_below (g := gb165) (o := .cells #[.int .i64 x8_1, .int .i64 t158, .int .i64 t162] 160 (0, 0)) (r2_ BK165.out) hb)
        replace HK := Aside0.mk (KeepBut.trans (r6_ HK.out GW165.out) (KeepBut.of_below hb g none) (.inl rfl))
        replace HB := Aside0.mk (below_step (r10_ HB.out HI0.out GE165.out) hb)
        replace HI0 := Aside0.mk (IsS215.below (r8_ HI0.out NB0_165.out) hb)
        clear hb ho31
        refine hK.out _ _ ⟨(blk_cell BK165.out 0).trans rfl, (blk_cell BK165.out 1).trans rfl, (blk_cell BK165.out 2).trans rfl⟩ (fun hHeld => ?_)
        clear hK K
        refine norm_ (a' := ?_) ?_ ?_
        rotate_left
        ·show Act.put _ (some 36) _ = _
         simp only [pz_]
         rfl
        refine one_ (i := 2) (N := some 38) #[t_,t_,t_,t_,t_,f_,f_] rfl rfl (by kernel_rfl) (by decide) (fun K hK => ?_)
        refine Kd.R_append_rows_step k160 w.heap.size (by rfl) (.tmp 36) (.tmp 37) 44 160 (.agg #[(.int .i64 0), (.int .i64 0), (.int .i64 0)]) 24 rfl Try.underlying44 info160 rfl (by decide) (by omega) v167 y166 x7_1 _ _ _ (fun k_ => some k_ ≠ (.slice Ao25 x7_1.length co25 : Value).ownBlock ∧ some k_ ≠ (v173 : Value).ownBlock ∧ k_ ≠ gb165) (fun _ => False) rfl rfl ?aO ?aR (fun _ _ h => h) (fun _ h => h.elim) ?aF (Below.refl _ _) ?aS ?aL ?_
        (case aR => exact r7_ HO_7.out)
        (case aF => exact (fun k_ hk => ⟨Kd.fresh' (Kd.R_lt (rk_ HO_7.out)) k_ hk, Kd.fresh' (Kd.R_lt (rk_ HO174.out)) k_ hk, Kd.freshB (g := gb165) (o := .cells #[.int .i64 x8_1, .int .i64 t158, .int .i64 t162] 160 (0, 0)) (r2_ BK165.out) k_ hk⟩))
        (case aO => exact (rk_ (Kd.R_mono HO168.out (fun _ hk => ⟨hk.1.1.2, ⟨hk.1.2, hk.2⟩⟩))))
        (case aS => exact (keep_size (w := w) (g := g) (row := none) (r6_ HK.out GW165.out)))
        (case aL => have := LMc13.out; omega)
        intro v170 w32 ho hb hg hat
        rw [← Ny169.out] at ho
        have n0_ := Aside0.mk (Kd.R_over' (rk_ HO_5.out) (Kd.R_typed (rk_ HO168.out)) (by decide) hg)
        have n1_ := Aside0.mk (Kd.R_after (ok := (fun k_ => some k_ ≠ (v173 : Value).ownBlock ∧ k_ ≠ gb165)) (rk_ (Kd.R_mono HO_7.out (fun _ hk => ⟨⟨hk.1.2, hk.1.1⟩, hk.2⟩))) hg hat)
        have n2_ := Aside0.mk (IsS215.grown (r8_ HI0.out NB0_165.out) hg (IsS215.own_ne HI0.out HO168.out (by decide)))
        have n3_ := Aside0.mk (blk_grown (g := gb165) (o := .cells #[.int .i64 x8_1, .int .i64 t158, .int .i64 t162] 160 (0, 0)) (r2_ BK165.out) hg (Kd.R_away HO168.out (fun _ hk => hk.2)))
        have n4_ := Aside0.mk (Kd.R_after (ok := (fun k_ => some k_ ≠ (.slice Ao25 x7_1.length co25 : Value).ownBlock ∧ k_ ≠ gb165)) (rk_ (Kd.R_mono HO174.out (fun _ hk => ⟨⟨hk.1.1.2, hk.1.2⟩, hk.2⟩))) hg hat)
        have n5_ := Aside0.mk (below_weaken (r10_ HB.out HI0.out GE165.out) HL.out hb)
        have n6_ := Aside0.mk (KeepBut.trans (r6_ HK.out GW165.out) (KeepBut.of_grown hg g) (Kd.R_base2 HO168.out))
        have n7_ := Aside0.mk (ho)
        clear HO_5
        clear HO_7
        clear HI0
        clear BK165
        clear HO174
        clear HB
        clear HK
        clear HO168
        have HO_5 := n0_
        have HO_7 := n1_
        have HI0 := n2_
        have BK165 := n3_
        have HO174 := n4_
        have HB := n5_
        have HK := n6_
        have HO171 := n7_
        clear n0_ n1_ n2_ n3_ n4_ n5_ n6_ n7_
        clear ho hb hg hat
        refine hK.out _ _ ⟨(blk_cell BK165.out 0).trans rfl, (blk_cell BK165.out 1).trans rfl, (blk_cell BK165.out 2).trans rfl⟩ (fun hHeld => ?_)
        clear hK K
        refine norm_ (a' := ?_) ?_ ?_
        rotate_left
        ·show Act.put _ (some 38) _ = _
         simp only [pz_]
         rfl
        exact norm_ (by simp only [putAll, Act.put, List.setIfInBounds_toArray, List.set_cons_zero, List.set_cons_succ]) (hCont (v167, v170, v173) _ ⟨hHeld, (rk_ (Kd.R_mono HO171.out (fun _ hk => ⟨hk.2.1, ⟨hk.1, hk.2.2⟩⟩))), (rk_ (Kd.R_mono HO174.out (fun _ hk => ⟨hk.2, ⟨hk.1.1, hk.1.2⟩⟩))), (rk_ HO_5.out), (rk_ (Kd.R_mono HO_7.out (fun _ hk => ⟨hk.2, ⟨hk.1.1, hk.1.2⟩⟩))), (r2_ BK165.out), (r8_ HI0.out NB0_165.out), (r6_ HK.out GW165.out), (r10_ HB.out HI0.out GE165.out)⟩)
      rintro ⟨v167, v170, v173⟩ w33 ⟨hS_, h0_, h1_, h2_, h3_, h4_, h5_, h6_, h7_⟩
      have n0_ : Aside0 (Kd.R k160 160 w33 w.heap.size (fun k_ => some k_ ≠ (v173 : Value).ownBlock ∧ some k_ ≠ (.slice Ao25 x7_1.length co25 : Value).ownBlock ∧ k_ ≠ gb165) v170 y169) := ⟨h0_⟩
      have n1_ : Aside0 (Kd.R k160 160 w33 w.heap.size (fun k_ => some k_ ≠ (v170 : Value).ownBlock ∧ some k_ ≠ (.slice Ao25 x7_1.length co25 : Value).ownBlock ∧ k_ ≠ gb165) v173 y172) := ⟨h1_⟩
      have n2_ : Aside0 (Kd.R k200 200 w33 w.heap.size (fun _ => True) (.slice (some ad161) t147.length co19) t147) := ⟨h2_⟩
      have n3_ : Aside0 (Kd.R k160 160 w33 w.heap.size (fun k_ => some k_ ≠ (v170 : Value).ownBlock ∧ some k_ ≠ (v173 : Value).ownBlock ∧ k_ ≠ gb165) (.slice Ao25 x7_1.length co25) x7_1) := ⟨h3_⟩
      have n4_ : Aside0 (w33.heap[gb165]? = some (.cells #[.int .i64 x8_1, .int .i64 t158, .int .i64 t162] 160 (0, 0))) := ⟨h4_⟩
      have n5_ : Aside0 (IsS215 w0 w33 g s0_0 t163 t164) := ⟨h5_⟩
      have n6_ : Aside0 (KeepBut w w33 g none) := ⟨h6_⟩
      have n7_ : Aside0 (Below w0.heap.size w0 w33) := ⟨h7_⟩
      clear HO_5
      clear HO_7
      clear BK165
      clear HI0
      clear HK
      clear HB
      clear h0_ h1_ h2_ h3_ h4_ h5_ h6_ h7_
      have HO171 := n0_
      have HO174 := n1_
      have HO_5 := n2_
      have HO_7 := n3_
      have BK165 := n4_
      have HI0 := n5_
      have HK := n6_
      have HB := n7_
      clear n0_ n1_ n2_ n3_ n4_ n5_ n6_ n7_
      have hHeld : w33.cell? ⟨gb165, 0, none⟩ = some (.int .i64 x8_1) ∧ w33.cell? ⟨gb165, 1, none⟩ = some (.int .i64 t158) ∧ w33.cell? ⟨gb165, 2, none⟩ = some (.int .i64 t162) := hS_
      obtain ⟨Ao35, co35, eo35⟩ := Kd.R_slice HO174.out
      (first | subst eo35 | (injection eo35 with f1_ f2_ f3_; have f4_ := f1_.symm; have f5_ := f3_.symm; clear f1_ f2_ f3_; subst f4_; subst f5_))
      refine norm_ (a' := ?_) ?_ ?_
      rotate_left
      ·simp only [putAll, Act.put, List.setIfInBounds_toArray, List.set_cons_zero, List.set_cons_succ]
       rfl
      refine one_ (i := 5) (N := some 41) #[t_,t_,t_,t_,t_,t_,f_] rfl rfl (by kernel_rfl) (by decide) (fun K hK => ?_)
      refine Kd.R_append_rows_step k160 w.heap.size (by rfl) (.tmp 38) (.tmp 40) 44 160 (.agg #[(.int .i64 0), (.int .i64 0), (.int .i64 0)]) 24 rfl Try.underlying44 info160 rfl (by decide) (by omega) v170 y169 y172 _ _ _ (fun k_ => some k_ ≠ (.slice Ao25 x7_1.length co25 : Value).ownBlock ∧ some k_ ≠ (.slice Ao35 y172.length co35 : Value).ownBlock ∧ k_ ≠ gb165) (fun _ => False) rfl rfl ?aO ?aR (fun _ _ h => h) (fun _ h => h.elim) ?aF (Below.refl _ _) ?aS ?aL ?_
      (case aR => exact r7_ HO174.out)
      (case aF => exact (fun k_ hk => ⟨Kd.fresh' (Kd.R_lt (rk_ HO_7.out)) k_ hk, Kd.fresh' (Kd.R_lt (rk_ HO174.out)) k_ hk, Kd.freshB (g := gb165) (o := .cells #[.int .i64 x8_1, .int .i64 t158, .int .i64 t162] 160 (0, 0)) (r2_ BK165.out) k_ hk⟩))
      (case aO => exact (rk_ (Kd.R_mono HO171.out (fun _ hk => ⟨hk.2.1, ⟨hk.1, hk.2.2⟩⟩))))
      (case aS => exact (keep_size (w := w) (g := g) (row := none) (r6_ HK.out GW165.out)))
      (case aL => have := LMc14.out; omega)
      intro v176 w34 ho hb hg hat
      rw [← Ny175.out] at ho
      have n0_ := Aside0.mk (Kd.R_over' (rk_ HO_5.out) (Kd.R_typed (rk_ HO171.out)) (by decide) hg)
      have n1_ := Aside0.mk (Kd.R_after (ok := (fun k_ => some k_ ≠ (.slice Ao35 y172.length co35 : Value).ownBlock ∧ k_ ≠ gb165)) (rk_ (Kd.R_mono HO_7.out (fun _ hk => ⟨⟨hk.2.1, hk.2.2⟩, hk.1⟩))) hg hat)
      have n2_ := Aside0.mk (IsS215.grown (r8_ HI0.out NB0_165.out) hg (IsS215.own_ne HI0.out HO171.out (by decide)))
      have n3_ := Aside0.mk (blk_grown (g := gb165) (o := .cells #[.int .i64 x8_1, .int .i64 t158, .int .i64 t162] 160 (0, 0)) (r2_ BK165.out) hg (Kd.R_away HO171.out (fun _ hk => hk.2.2)))
      have n4_ := Aside0.mk (Kd.R_after (ok := (fun k_ => some k_ ≠ (.slice Ao25 x7_1.length co25 : Value).ownBlock ∧ k_ ≠ gb165)) (rk_ (Kd.R_mono HO174.out (fun _ hk => ⟨⟨hk.2.1, hk.2.2⟩, hk.1⟩))) hg hat)
      have n5_ := Aside0.mk (below_weaken (r10_ HB.out HI0.out GE165.out) HL.out hb)
      have n6_ := Aside0.mk (KeepBut.trans (r6_ HK.out GW165.out) (KeepBut.of_grown hg g) (Kd.R_base2 HO171.out))
      have n7_ := Aside0.mk (ho)
      clear HO_5
      clear HO_7
      clear HI0
      clear BK165
      clear HO174
      clear HB
      clear HK
      clear HO171
      have HO_5 := n0_
      have HO_7 := n1_
      have HI0 := n2_
      have BK165 := n3_
      have HO174 := n4_
      have HB := n5_
      have HK := n6_
      have HO177 := n7_
      clear n0_ n1_ n2_ n3_ n4_ n5_ n6_ n7_
      clear ho hb hg hat
      refine hK.out _ _ ⟨(blk_cell BK165.out 0).trans rfl, (blk_cell BK165.out 1).trans rfl, (blk_cell BK165.out 2).trans rfl⟩ (fun hHeld => ?_)
      clear hK K
      refine norm_ (a' := ?_) ?_ ?_
      rotate_left
      ·show Act.put _ (some 41) _ = _
       simp only [pz_]
       rfl
      refine pure_ (i := 6) (N := some 11) (v := ?_) (a' := ?_) #[t_,t_,t_,t_,t_,t_,t_] rfl rfl (by kernel_rfl) (fun _ _ _ h => h) (Or.inl ⟨by rfl, ?_⟩) ?_ ?_
      rotate_left
      ·intro w'
       go_simp
       with_reducible rfl
      rotate_left
      ·simp only [pz_]
       rfl
      refine done_ (by kernel_rfl) ?_
      try go_wp2_with (first | ((with_reducible refine gate_callee (f := 129) rfl ?_); refine goesL_ (some 43) rfl rfl Try.func129 (by kernel_rfl) rfl #[.pointer (some ⟨g, 0, none⟩), .int .i64 3] rfl ag_ ?_; (with_reducible refine (spec_l01Next.calls g s0_0 t163 t164 3 t178 t179 t180 w0 _ ?side1 ?side2 A15.out).mono ?_); (case side1 => exact r8_ HI0.out NB0_165.out); (case side2 => exact r10_ HB.out HI0.out GE165.out); rintro e w36 ⟨rfl, hi, hb, hk⟩; refine ⟨_, rfl, ?_⟩; replace HO_5 := Aside0.mk (Kd.R_mono (Kd.R_keep (IsS215.apart (show IsS215 w0 _ g s0_0 t163 t164 from r8_ HI0.out NB0_165.out) (rk_ HO_5.out) (by decide)) hk (fun _ h => h.2)) (fun _ h => h.1)); replace HO_7 := Aside0.mk (Kd.R_mono (Kd.R_keep (IsS215.apart (show IsS215 w0 _ g s0_0 t163 t164 from r8_ HI0.out NB0_165.out) (rk_ HO_7.out) (by decide)) hk (fun _ h => h.2)) (fun _ h => h.1)); replace BK165 := Aside0.mk (KeepBut.blk hk (g' := gb165) (o := .cells #[.int .i64 x8_1, .int .i64 t158, .int .i64 t162] 160 (0, 0)) (r2_ BK165.out) NB165_0.out (by simp)); replace HO174 := Aside0.mk (Kd.R_mono (Kd.R_keep (IsS215.apart (show IsS215 w0 _ g s0_0 t163 t164 from r8_ HI0.out NB0_165.out) (rk_ HO174.out) (by decide)) hk (fun _ h => h.2)) (fun _ h => h.1)); replace HO177 := Aside0.mk (Kd.R_mono (Kd.R_keep (IsS215.apart (show IsS215 w0 _ g s0_0 t163 t164 from r8_ HI0.out NB0_165.out) (rk_ HO177.out) (by decide)) hk (fun _ h => h.2)) (fun _ h => h.1)); replace HK := Aside0.mk (KeepBut.trans (r6_ HK.out GW165.out) hk (.inl rfl)); replace HB := Aside0.mk (hb); replace HI0 := Aside0.mk (hi); (try clear hb); (try clear hb2); (try clear hk); (try clear hi); obtain ⟨Ao37, co37, eo37⟩ := Kd.R_slice HO177.out; subst eo37) | (go_at_call 203; (with_reducible refine (spec_AreWires.calls k1 _ _ t147 t152 _ _ y175 true _ ?side1 ?side2 ?side3 ?side4 A17.out).mono ?_); (case side1 => exact r7_ HO_5.out); (case side2 => exact (Kd.R_reads' HO_5.out).2.1); (case side3 => exact r7_ HO177.out); (case side4 => exact (Kd.R_reads' HO177.out).2.1); rintro e w38 ⟨rfl, hb⟩; replace HO_5 := Aside0.mk (Kd.R_below (rk_ HO_5.out) hb); replace HO_7 := Aside0.mk (Kd.R_below (rk_ HO_7.out) hb); replace HO174 := Aside0.mk (Kd.R_below (rk_ HO174.out) hb); replace HO177 := Aside0.mk (Kd.R_below (rk_ HO177.out) hb); replace BK165 := Aside0.mk (blk_below (g := gb165) (o := .cells #[.int .i64 x8_1, .int .i64 t158, .int .i64 t162] 160 (0, 0)) (r2_ BK165.out) hb); replace HK := Aside0.mk (KeepBut.trans (r6_ HK.out GW165.out) (KeepBut.of_below hb g none) (.inl rfl)); replace HB := Aside0.mk (below_step (r10_ HB.out HI0.out GE165.out) hb); replace HI0 := Aside0.mk (IsS215.below (r8_ HI0.out NB0_165.out) hb); (try clear hb); (try clear hb2); (try clear hk); (try clear hi)))
      go_roundg k1
      case measure => have := HK1.out; omega
      case rel => exact ⟨(y175), (wrap64 (x8_1 + 1)), (t179), (t180), (by first | rfl | (simp; done) | (simp [*]; done)), H', ⟨by have := HK1.out; omega⟩, ⟨rk_ HO_5.out⟩, ⟨rk_ (Kd.R_mono HO177.out (fun _ hk => trivial))⟩, ⟨r8_ HI0.out NB0_165.out⟩, ⟨r6_ HK.out GW165.out⟩, ⟨r10_ HB.out HI0.out GE165.out⟩⟩
     ·replace c18 := Bool.eq_false_iff.mpr c18
      subst c18
      replace H : (spec_l13Good.l0 k1 t147 t152 x7_1 (wrap64 (x8_1 + 1)) s0_0 t179 t180) = some (r1, r2, r3, r4, r5) := by rw [if_neg (show ¬ (false = true) by decide)] at H; exact H
      have H' := Aside0.mk H
      clear H
      obtain ⟨Ao39, co39, eo39⟩ := Kd.R_slice HO_5.out
      subst eo39
      try go_wp2_with (first | ((with_reducible refine gate_callee (f := 129) rfl ?_); refine goesL_ (some 25) rfl rfl Try.func129 (by kernel_rfl) rfl #[.pointer (some ⟨g, 0, none⟩), .int .i64 (t147.length : Int)] rfl ag_ ?_; (with_reducible refine (spec_l01Next.calls g s0_0 x1001_1 x1002_1 (t147.length : Int) t158 t159 t160 w0 _ ?side1 ?side2 A9.out).mono ?_); (case side1 => exact r0_ HI0.out); (case side2 => exact r1_ HB.out HI0.out); rintro e w40 ⟨rfl, hi, hb, hk⟩; refine ⟨_, rfl, ?_⟩; replace HO_5 := Aside0.mk (Kd.R_mono (Kd.R_keep (IsS215.apart (show IsS215 w0 _ g s0_0 x1001_1 x1002_1 from r0_ HI0.out) (rk_ HO_5.out) (by decide)) hk (fun _ h => h.2)) (fun _ h => h.1)); replace HO_7 := Aside0.mk (Kd.R_mono (Kd.R_keep (IsS215.apart (show IsS215 w0 _ g s0_0 x1001_1 x1002_1 from r0_ HI0.out) (rk_ HO_7.out) (by decide)) hk (fun _ h => h.2)) (fun _ h => h.1)); replace HK := Aside0.mk (KeepBut.trans (r3_ HK.out) hk (.inl rfl)); replace HB := Aside0.mk (hb); replace HI0 := Aside0.mk (hi); (try clear hb); (try clear hb2); (try clear hk); (try clear hi); have p161 : 0 ≤ (t158 : Int) := od_; have q161 : t158 < (t147.length : Int) := od_; obtain ⟨ad161, e161, hx161_0, hx161_1⟩ := at_T200 (Kd.R_reads' HO_5.out).2.2 t158 p161 q161; cases e161; replace p161 := eq_true p161; replace q161 := eq_true q161) | ((with_reducible refine gate_callee (f := 129) rfl ?_); refine goesL_ (some 34) rfl rfl Try.func129 (by kernel_rfl) rfl #[.pointer (some ⟨g, 0, none⟩), .int .i64 ((rd_T200 t147 t158).f1)] rfl ag_ ?_; (with_reducible refine (spec_l01Next.calls g s0_0 t159 t160 ((rd_T200 t147 t158).f1) t162 t163 t164 w0 _ ?side1 ?side2 A12.out).mono ?_); (case side1 => exact r0_ HI0.out); (case side2 => exact r1_ HB.out HI0.out); rintro e w41 ⟨rfl, hi, hb, hk⟩; refine ⟨_, rfl, ?_⟩; replace HO_5 := Aside0.mk (Kd.R_mono (Kd.R_keep (IsS215.apart (show IsS215 w0 _ g s0_0 t159 t160 from r0_ HI0.out) (rk_ HO_5.out) (by decide)) hk (fun _ h => h.2)) (fun _ h => h.1)); replace HO_7 := Aside0.mk (Kd.R_mono (Kd.R_keep (IsS215.apart (show IsS215 w0 _ g s0_0 t159 t160 from r0_ HI0.out) (rk_ HO_7.out) (by decide)) hk (fun _ h => h.2)) (fun _ h => h.1)); replace HK := Aside0.mk (KeepBut.trans (r3_ HK.out) hk (.inl rfl)); replace HB := Aside0.mk (hb); replace HI0 := Aside0.mk (hi); (try clear hb); (try clear hb2); (try clear hk); (try clear hi)) | ((with_reducible refine gate_dst (N := 10) rfl ?_); refine box_event ?hg (N := 10) ?hd (cs := #[.int .i64 0, .int .i64 0, .int .i64 0]) (t := 160) ?hr ?_; (case hd => rfl); (case hg => rfl); (case hr => first | (go_simp; done) | (go_simp; rfl)); intro gb165 hg w42 hbox hb; replace HO_5 := Aside0.mk (Kd.R_below (rk_ HO_5.out) hb); replace HO_7 := Aside0.mk (Kd.R_below (Kd.R_elderB (rk_ HO_7.out) gb165 (Nat.le_of_eq hg.symm)) hb); replace HB := Aside0.mk (below_step (r1_ HB.out HI0.out) hb); have BK165 := Aside0.mk (hbox); have GW165 := Aside0.mk ((by rw [hg]; exact (keep_size (w := w) (g := g) (row := none) (r3_ HK.out)) : w.heap.size ≤ gb165)); have GE165 := Aside0.mk ((Nat.le_trans HW0.out (by rw [hg]; exact (keep_size (w := w) (g := g) (row := none) (r3_ HK.out)) : w.heap.size ≤ gb165) : w0.heap.size ≤ gb165)); replace HK := Aside0.mk (KeepBut.trans (r3_ HK.out) (KeepBut.of_below hb g none) (.inl rfl)); have NB0_165 := Aside0.mk ((by rw [hg]; exact Nat.ne_of_lt (IsS215.lt (show IsS215 w0 _ g s0_0 t163 t164 from r0_ HI0.out)) : g ≠ gb165)); have NB165_0 := Aside0.mk ((by rw [hg]; exact Nat.ne_of_gt (IsS215.lt (show IsS215 w0 _ g s0_0 t163 t164 from r0_ HI0.out)) : gb165 ≠ g)); replace HI0 := Aside0.mk (IsS215.below (r0_ HI0.out) hb); clear hb hbox hg; have hnb43 := NB165_0.out; have hnc43 := NB0_165.out; have hcz44_0 : w42.cell? ⟨gb165, 0, none⟩ = some (.int .i64 0) := (blk_cell BK165.out 0).trans rfl; have hcz44_1 : w42.cell? ⟨gb165, 1, none⟩ = some (.int .i64 0) := (blk_cell BK165.out 1).trans rfl; have hcz44_2 : w42.cell? ⟨gb165, 2, none⟩ = some (.int .i64 0) := (blk_cell BK165.out 2).trans rfl; have hfz44_0 := blk_frozen BK165.out 0; have hfz44_1 := blk_frozen BK165.out 1; have hfz44_2 := blk_frozen BK165.out 2; obtain ⟨Ao45, co45, eo45⟩ := Kd.R_slice HO_7.out; subst eo45))
      have n0_ : Aside0 (Kd.R k200 200 (((w42.setCell ⟨gb165, 0, none⟩ (.int .i64 x8_1)).setCell ⟨gb165, 1, none⟩ (.int .i64 t158)).setCell ⟨gb165, 2, none⟩ (.int .i64 t162)) w.heap.size (fun _ => True) (.slice (some ad161) t147.length co39) t147) := ⟨rk_ (Kd.R_mono (Kd.R_far (p := ⟨gb165, 2, none⟩) (Kd.R_far (p := ⟨gb165, 1, none⟩) (Kd.R_far (p := ⟨gb165, 0, none⟩) (Kd.R_types HO_5.out BK165.out (by decide)) (fun _ hk => hk.2) (.int .i64 x8_1)) (fun _ hk => hk.2) (.int .i64 t158)) (fun _ hk => hk.2) (.int .i64 t162)) (fun _ hk => trivial))⟩
      have n1_ : Aside0 (Kd.R k160 160 (((w42.setCell ⟨gb165, 0, none⟩ (.int .i64 x8_1)).setCell ⟨gb165, 1, none⟩ (.int .i64 t158)).setCell ⟨gb165, 2, none⟩ (.int .i64 t162)) w.heap.size (fun k_ => k_ ≠ gb165) (.slice Ao45 x7_1.length co45) x7_1) := ⟨rk_ (Kd.R_mono (Kd.R_far (p := ⟨gb165, 2, none⟩) (Kd.R_far (p := ⟨gb165, 1, none⟩) (Kd.R_far (p := ⟨gb165, 0, none⟩) (Kd.R_mono HO_7.out (fun k_ hk => (⟨hk, hk.2⟩ : _ ∧ k_ ≠ gb165))) (fun _ hk => hk.2) (.int .i64 x8_1)) (fun _ hk => hk.2) (.int .i64 t158)) (fun _ hk => hk.2) (.int .i64 t162)) (fun _ hk => hk.1.2))⟩
      have n2_ : Aside0 ((((w42.setCell ⟨gb165, 0, none⟩ (.int .i64 x8_1)).setCell ⟨gb165, 1, none⟩ (.int .i64 t158)).setCell ⟨gb165, 2, none⟩ (.int .i64 t162)).heap[gb165]? = some (.cells #[.int .i64 x8_1, .int .i64 t158, .int .i64 t162] 160 (0, 0))) := ⟨by (with_reducible repeat (first | refine blk_drewN ?_ _ | refine blk_drew ?_ | refine blk_alloc ?_ _)); refine blk_put (cs := #[.int .i64 x8_1, .int .i64 t158, .int .i64 0]) ?_ 2 _ rfl; (with_reducible repeat (first | refine blk_drewN ?_ _ | refine blk_drew ?_ | refine blk_alloc ?_ _)); refine blk_put (cs := #[.int .i64 x8_1, .int .i64 0, .int .i64 0]) ?_ 1 _ rfl; (with_reducible repeat (first | refine blk_drewN ?_ _ | refine blk_drew ?_ | refine blk_alloc ?_ _)); refine blk_put (cs := #[.int .i64 0, .int .i64 0, .int .i64 0]) ?_ 0 _ rfl; (with_reducible repeat (first | refine blk_drewN ?_ _ | refine blk_drew ?_ | refine blk_alloc ?_ _)); exact BK165.out⟩
      have n3_ : Aside0 (IsS215 w0 (((w42.setCell ⟨gb165, 0, none⟩ (.int .i64 x8_1)).setCell ⟨gb165, 1, none⟩ (.int .i64 t158)).setCell ⟨gb165, 2, none⟩ (.int .i64 t162)) g s0_0 t163 t164) := ⟨r8_ HI0.out NB0_165.out⟩
      have n4_ : Aside0 (KeepBut w (((w42.setCell ⟨gb165, 0, none⟩ (.int .i64 x8_1)).setCell ⟨gb165, 1, none⟩ (.int .i64 t158)).setCell ⟨gb165, 2, none⟩ (.int .i64 t162)) g none) := ⟨r6_ HK.out GW165.out⟩
      have n5_ : Aside0 (Below w0.heap.size w0 (((w42.setCell ⟨gb165, 0, none⟩ (.int .i64 x8_1)).setCell ⟨gb165, 1, none⟩ (.int .i64 t158)).setCell ⟨gb165, 2, none⟩ (.int .i64 t162))) := ⟨r10_ HB.out HI0.out GE165.out⟩
      (try clear HO_5)
      (try clear HO_7)
      (try clear BK165)
      (try clear HI0)
      (try clear HK)
      (try clear HB)
      generalize (((w42.setCell ⟨gb165, 0, none⟩ (.int .i64 x8_1)).setCell ⟨gb165, 1, none⟩ (.int .i64 t158)).setCell ⟨gb165, 2, none⟩ (.int .i64 t162)) = w46 at n0_ n1_ n2_ n3_ n4_ n5_ ⊢
      have HO_5 := n0_
      have HO_7 := n1_
      have BK165 := n2_
      have HI0 := n3_
      have HK := n4_
      have HB := n5_
      clear n0_ n1_ n2_ n3_ n4_ n5_
      replace HO_5 := Aside0.mk (Kd.R_drew HO_5.out)
      replace HO_7 := Aside0.mk (Kd.R_drew HO_7.out)
      replace BK165 := Aside0.mk (blk_drew BK165.out)
      replace HI0 := Aside0.mk (IsS215.drew HI0.out)
      replace HK := Aside0.mk (keep_drew HK.out)
      replace HB := Aside0.mk (below_drew1 HB.out)
      refine start_ (n := 7) (S := fun w' => w'.cell? ⟨gb165, 0, none⟩ = some (.int .i64 x8_1) ∧ w'.cell? ⟨gb165, 1, none⟩ = some (.int .i64 t158) ∧ w'.cell? ⟨gb165, 2, none⟩ = some (.int .i64 t162)) (ds := []) #[f_,f_,f_,f_,f_,f_,f_] (by kernel_rfl) rfl rfl ⟨(blk_cell BK165.out 0).trans rfl, (blk_cell BK165.out 1).trans rfl, (blk_cell BK165.out 2).trans rfl⟩ (fun hHeld => ?_)
      generalize w46.drew = w47 at HO_5 HO_7 BK165 HI0 HK HB hHeld ⊢
      refine pure_ (i := 1) (N := some 37) (v := ?_) (a' := ?_) #[f_,t_,f_,f_,f_,f_,f_] rfl rfl (by kernel_rfl) (fun _ _ _ h => h) (Or.inl ⟨by rfl, ?_⟩) ?_ ?_
      rotate_left
      ·intro w'
       go_simp
       with_reducible rfl
      rotate_left
      ·simp only [pz_]
       rfl
      refine take_ (i := 3) (N := some 39) (v := ?_) (a' := ?_) #[f_,t_,f_,t_,f_,f_,f_] rfl rfl (by kernel_rfl) (fun _ _ _ h => h) (Or.inl ⟨by rfl, ?_⟩) hHeld ?_ ?_
      rotate_left
      ·rintro w' ⟨s0, s1, s2⟩
       go_simp
       with_reducible rfl
      rotate_left
      ·simp only [pz_]
       rfl
      refine join_ (σ := Value × Value × Value) 2 #[t_,t_,t_,t_,t_,f_,f_] (fun s_ => [(36, s_.1), (38, s_.2.1), (40, s_.2.2)]) (fun s_ w' => (w'.cell? ⟨gb165, 0, none⟩ = some (.int .i64 x8_1) ∧ w'.cell? ⟨gb165, 1, none⟩ = some (.int .i64 t158) ∧ w'.cell? ⟨gb165, 2, none⟩ = some (.int .i64 t162)) ∧ (Kd.R k160 160 w' w.heap.size (fun k_ => some k_ ≠ (s_.2.2 : Value).ownBlock ∧ some k_ ≠ (.slice Ao45 x7_1.length co45 : Value).ownBlock ∧ k_ ≠ gb165) s_.2.1 y169) ∧ (Kd.R k160 160 w' w.heap.size (fun k_ => some k_ ≠ (s_.2.1 : Value).ownBlock ∧ some k_ ≠ (.slice Ao45 x7_1.length co45 : Value).ownBlock ∧ k_ ≠ gb165) s_.2.2 y172) ∧ (Kd.R k200 200 w' w.heap.size (fun _ => True) (.slice (some ad161) t147.length co39) t147) ∧ (Kd.R k160 160 w' w.heap.size (fun k_ => some k_ ≠ (s_.2.1 : Value).ownBlock ∧ some k_ ≠ (s_.2.2 : Value).ownBlock ∧ k_ ≠ gb165) (.slice Ao45 x7_1.length co45) x7_1) ∧ (w'.heap[gb165]? = some (.cells #[.int .i64 x8_1, .int .i64 t158, .int .i64 t162] 160 (0, 0))) ∧ (IsS215 w0 w' g s0_0 t163 t164) ∧ (KeepBut w w' g none) ∧ (Below w0.heap.size w0 w')) ?_ ?_
      rotate_left
      ·intro hCont
       refine two_ (i := 0) (j := 4) (Ni := some 36) (Nj := some 40) #[t_,t_,f_,t_,f_,f_,f_] #[f_,t_,f_,t_,t_,f_,f_] rfl rfl rfl rfl (by kernel_rfl) (by decide) (by decide) (fun K hK => ?_) (fun K hK => ?_)
       ·skip
        refine Kd.R_lit_step k160 _ 160 ?hg (N := 36) ?hd (xs := ([] : List (S160))) (inner := []) (ok := fun _ => True) (okp := fun _ => True) ?hr ?hp (fun _ hk => hk) trivial (Below.refl _ _) (Nat.le_refl _) (by simp) ?_; (case hd => rfl); (case hg => rfl); (case hr => first | (go_simp; done) | (go_simp; rfl)); (case hp => exact (Reps.none _ _))
        intro v167 w48 ho49 hb hg_ hnew_
        clear hg_ hnew_
        (first | rw [← Ny166.out] at ho49 | (simp only [Int.reduceToNat] at ho49; rw [← Ny166.out] at ho49))
        replace HO_5 := Aside0.mk (Kd.R_below (rk_ HO_5.out) hb)
        have HO168 := Aside0.mk (Kd.R_lower (Kd.R_newB (Kd.R_new' ho49 (Kd.R_lt (rk_ HO_7.out))) (g := gb165) (o := .cells #[.int .i64 x8_1, .int .i64 t158, .int .i64 t162] 160 (0, 0)) (r2_ BK165.out)) (keep_size (w := w) (g := g) (row := none) (r6_ HK.out GW165.out)))
        replace HO_7 := Aside0.mk (Kd.R_elder' (rk_ HO_7.out) (Kd.R_base ho49) hb)
        replace BK165 := Aside0.mk (blk_below (g := gb165) (o := .cells #[.int .i64 x8_1, .int .i64 t158, .int .i64 t162] 160 (0, 0)) (r2_ BK165.out) hb)
        replace HK := Aside0.mk (KeepBut.trans (r6_ HK.out GW165.out) (KeepBut.of_below hb g none) (.inl rfl))
        replace HB := Aside0.mk (below_step (r10_ HB.out HI0.out GE165.out) hb)
        replace HI0 := Aside0.mk (IsS215.below (r8_ HI0.out NB0_165.out) hb)
        clear hb ho49
        refine hK.out _ _ ⟨(blk_cell BK165.out 0).trans rfl, (blk_cell BK165.out 1).trans rfl, (blk_cell BK165.out 2).trans rfl⟩ (fun hHeld => ?_)
        clear hK K
        refine norm_ (a' := ?_) ?_ ?_
        rotate_left
        ·show Act.put _ (some 36) _ = _
         simp only [pz_]
         rfl
        refine two_ (i := 2) (j := 4) (Ni := some 38) (Nj := some 40) #[t_,t_,t_,t_,f_,f_,f_] #[t_,t_,f_,t_,t_,f_,f_] rfl rfl rfl rfl (by kernel_rfl) (by decide) (by decide) (fun K hK => ?_) (fun K hK => ?_)
        ·skip
         refine Kd.R_append_rows_step k160 w.heap.size (by rfl) (.tmp 36) (.tmp 37) 44 160 (.agg #[(.int .i64 0), (.int .i64 0), (.int .i64 0)]) 24 rfl Try.underlying44 info160 rfl (by decide) (by omega) v167 y166 x7_1 _ _ _ (fun k_ => some k_ ≠ (.slice Ao45 x7_1.length co45 : Value).ownBlock ∧ k_ ≠ gb165) (fun _ => False) rfl rfl ?aO ?aR (fun _ _ h => h) (fun _ h => h.elim) ?aF (Below.refl _ _) ?aS ?aL ?_
         (case aR => exact r7_ HO_7.out)
         (case aF => exact (fun k_ hk => ⟨Kd.fresh' (Kd.R_lt (rk_ HO_7.out)) k_ hk, Kd.freshB (g := gb165) (o := .cells #[.int .i64 x8_1, .int .i64 t158, .int .i64 t162] 160 (0, 0)) (r2_ BK165.out) k_ hk⟩))
         (case aO => exact (rk_ (Kd.R_mono HO168.out (fun _ hk => ⟨hk.1.2, hk.2⟩))))
         (case aS => exact (keep_size (w := w) (g := g) (row := none) (r6_ HK.out GW165.out)))
         (case aL => have := LMc13.out; omega)
         intro v170 w50 ho hb hg hat
         rw [← Ny169.out] at ho
         have n0_ := Aside0.mk (Kd.R_over' (rk_ HO_5.out) (Kd.R_typed (rk_ HO168.out)) (by decide) hg)
         have n1_ := Aside0.mk (Kd.R_after (ok := (fun k_ => k_ ≠ gb165)) (rk_ HO_7.out) hg hat)
         have n2_ := Aside0.mk (IsS215.grown (r8_ HI0.out NB0_165.out) hg (IsS215.own_ne HI0.out HO168.out (by decide)))
         have n3_ := Aside0.mk (blk_grown (g := gb165) (o := .cells #[.int .i64 x8_1, .int .i64 t158, .int .i64 t162] 160 (0, 0)) (r2_ BK165.out) hg (Kd.R_away HO168.out (fun _ hk => hk.2)))
         have n4_ := Aside0.mk (below_weaken (r10_ HB.out HI0.out GE165.out) HL.out hb)
         have n5_ := Aside0.mk (KeepBut.trans (r6_ HK.out GW165.out) (KeepBut.of_grown hg g) (Kd.R_base2 HO168.out))
         have n6_ := Aside0.mk (ho)
         clear HO_5
         clear HO_7
         clear HI0
         clear BK165
         clear HB
         clear HK
         clear HO168
         have HO_5 := n0_
         have HO_7 := n1_
         have HI0 := n2_
         have BK165 := n3_
         have HB := n4_
         have HK := n5_
         have HO171 := n6_
         clear n0_ n1_ n2_ n3_ n4_ n5_ n6_
         clear ho hb hg hat
         refine hK.out _ _ ⟨(blk_cell BK165.out 0).trans rfl, (blk_cell BK165.out 1).trans rfl, (blk_cell BK165.out 2).trans rfl⟩ (fun hHeld => ?_)
         clear hK K
         refine norm_ (a' := ?_) ?_ ?_
         rotate_left
         ·show Act.put _ (some 38) _ = _
          simp only [pz_]
          rfl
         refine one_ (i := 4) (N := some 40) #[t_,t_,t_,t_,t_,f_,f_] rfl rfl (by kernel_rfl) (by decide) (fun K hK => ?_)
         refine Kd.R_lit_step k160 _ 160 ?hg (N := 40) ?hd (xs := ([(⟨x8_1, t158, t162⟩ : S160)] : List (S160))) (inner := [.int .i64 x8_1, .int .i64 t158, .int .i64 t162]) (ok := fun _ => True) (okp := fun _ => True) ?hr ?hp (fun _ hk => hk) trivial (Below.refl _ _) (Nat.le_refl _) (by simp) ?_; (case hd => rfl); (case hg => rfl); (case hr => first | (go_simp; done) | (go_simp; rfl)); (case hp => exact (Reps.c3 (show Kd.M k160 _ _ _ (⟨x8_1, t158, t162⟩ : S160) [.int .i64 x8_1, .int .i64 t158, .int .i64 t162] from (k160_mkM _ _ _ (⟨x8_1, t158, t162⟩ : S160) )) (Reps.none _ _)))
         intro v173 w51 ho52 hb hg_ hnew_
         clear hg_ hnew_
         (first | rw [← Ny172.out] at ho52 | (simp only [Int.reduceToNat] at ho52; rw [← Ny172.out] at ho52))
         replace HO_5 := Aside0.mk (Kd.R_below (rk_ HO_5.out) hb)
         have HO174 := Aside0.mk (Kd.R_lower (Kd.R_newB (Kd.R_new' (Kd.R_new' ho52 (Kd.R_lt (rk_ HO_7.out))) (Kd.R_lt (rk_ HO171.out))) (g := gb165) (o := .cells #[.int .i64 x8_1, .int .i64 t158, .int .i64 t162] 160 (0, 0)) (r2_ BK165.out)) (keep_size (w := w) (g := g) (row := none) (r6_ HK.out GW165.out)))
         replace HO_7 := Aside0.mk (Kd.R_elder' (rk_ HO_7.out) (Kd.R_base ho52) hb)
         replace HO171 := Aside0.mk (Kd.R_elder' (rk_ HO171.out) (Kd.R_base ho52) hb)
         replace BK165 := Aside0.mk (blk_below (g := gb165) (o := .cells #[.int .i64 x8_1, .int .i64 t158, .int .i64 t162] 160 (0, 0)) (r2_ BK165.out) hb)
         replace HK := Aside0.mk (KeepBut.trans (r6_ HK.out GW165.out) (KeepBut.of_below hb g none) (.inl rfl))
         replace HB := Aside0.mk (below_step (r10_ HB.out HI0.out GE165.out) hb)
         replace HI0 := Aside0.mk (IsS215.below (r8_ HI0.out NB0_165.out) hb)
         clear hb ho52
         refine hK.out _ _ ⟨(blk_cell BK165.out 0).trans rfl, (blk_cell BK165.out 1).trans rfl, (blk_cell BK165.out 2).trans rfl⟩ (fun hHeld => ?_)
         clear hK K
         refine norm_ (a' := ?_) ?_ ?_
         rotate_left
         ·show Act.put _ (some 40) _ = _
          simp only [pz_]
          rfl
         exact norm_ (by simp only [putAll, Act.put, List.setIfInBounds_toArray, List.set_cons_zero, List.set_cons_succ]) (hCont (v167, v170, v173) _ ⟨hHeld, (rk_ (Kd.R_mono HO171.out (fun _ hk => ⟨hk.2, ⟨hk.1.1, hk.1.2⟩⟩))), (rk_ (Kd.R_mono HO174.out (fun _ hk => ⟨hk.1.2, ⟨hk.1.1.2, hk.2⟩⟩))), (rk_ HO_5.out), (rk_ (Kd.R_mono HO_7.out (fun _ hk => ⟨hk.1.2, ⟨hk.2, hk.1.1⟩⟩))), (r2_ BK165.out), (r8_ HI0.out NB0_165.out), (r6_ HK.out GW165.out), (r10_ HB.out HI0.out GE165.out)⟩)
        ·skip
         refine Kd.R_lit_step k160 _ 160 ?hg (N := 40) ?hd (xs := ([(⟨x8_1, t158, t162⟩ : S160)] : List (S160))) (inner := [.int .i64 x8_1, .int .i64 t158, .int .i64 t162]) (ok := fun _ => True) (okp := fun _ => True) ?hr ?hp (fun _ hk => hk) trivial (Below.refl _ _) (Nat.le_refl _) (by simp) ?_; (case hd => rfl); (case hg => rfl); (case hr => first | (go_simp; done) | (go_simp; rfl)); (case hp => exact (Reps.c3 (show Kd.M k160 _ _ _ (⟨x8_1, t158, t162⟩ : S160) [.int .i64 x8_1, .int .i64 t158, .int .i64 t162] from (k160_mkM _ _ _ (⟨x8_1, t158, t162⟩ : S160) )) (Reps.none _ _)))
         intro v173 w50 ho51 hb hg_ hnew_
         clear hg_ hnew_
         (first | rw [← Ny172.out] at ho51 | (simp only [Int.reduceToNat] at ho51; rw [← Ny172.out] at ho51))
         replace HO_5 := Aside0.mk (Kd.R_below (rk_ HO_5.out) hb)
         have HO174 := Aside0.mk (Kd.R_lower (Kd.R_newB (Kd.R_new' (Kd.R_new' ho51 (Kd.R_lt (rk_ HO_7.out))) (Kd.R_lt (rk_ HO168.out))) (g := gb165) (o := .cells #[.int .i64 x8_1, .int .i64 t158, .int .i64 t162] 160 (0, 0)) (r2_ BK165.out)) (keep_size (w := w) (g := g) (row := none) (r6_ HK.out GW165.out)))
         replace HO_7 := Aside0.mk (Kd.R_elder' (rk_ HO_7.out) (Kd.R_base ho51) hb)
         replace HO168 := Aside0.mk (Kd.R_elder' (rk_ HO168.out) (Kd.R_base ho51) hb)
         replace BK165 := Aside0.mk (blk_below (g := gb165) (o := .cells #[.int .i64 x8_1, .int .i64 t158, .int .i64 t162] 160 (0, 0)) (r2_ BK165.out) hb)
         replace HK := Aside0.mk (KeepBut.trans (r6_ HK.out GW165.out) (KeepBut.of_below hb g none) (.inl rfl))
         replace HB := Aside0.mk (below_step (r10_ HB.out HI0.out GE165.out) hb)
         replace HI0 := Aside0.mk (IsS215.below (r8_ HI0.out NB0_165.out) hb)
         clear hb ho51
         refine hK.out _ _ ⟨(blk_cell BK165.out 0).trans rfl, (blk_cell BK165.out 1).trans rfl, (blk_cell BK165.out 2).trans rfl⟩ (fun hHeld => ?_)
         clear hK K
         refine norm_ (a' := ?_) ?_ ?_
         rotate_left
         ·show Act.put _ (some 40) _ = _
          simp only [pz_]
          rfl
         refine one_ (i := 2) (N := some 38) #[t_,t_,t_,t_,t_,f_,f_] rfl rfl (by kernel_rfl) (by decide) (fun K hK => ?_)
         refine Kd.R_append_rows_step k160 w.heap.size (by rfl) (.tmp 36) (.tmp 37) 44 160 (.agg #[(.int .i64 0), (.int .i64 0), (.int .i64 0)]) 24 rfl Try.underlying44 info160 rfl (by decide) (by omega) v167 y166 x7_1 _ _ _ (fun k_ => some k_ ≠ (.slice Ao45 x7_1.length co45 : Value).ownBlock ∧ some k_ ≠ (v173 : Value).ownBlock ∧ k_ ≠ gb165) (fun _ => False) rfl rfl ?aO ?aR (fun _ _ h => h) (fun _ h => h.elim) ?aF (Below.refl _ _) ?aS ?aL ?_
         (case aR => exact r7_ HO_7.out)
         (case aF => exact (fun k_ hk => ⟨Kd.fresh' (Kd.R_lt (rk_ HO_7.out)) k_ hk, Kd.fresh' (Kd.R_lt (rk_ HO174.out)) k_ hk, Kd.freshB (g := gb165) (o := .cells #[.int .i64 x8_1, .int .i64 t158, .int .i64 t162] 160 (0, 0)) (r2_ BK165.out) k_ hk⟩))
         (case aO => exact (rk_ (Kd.R_mono HO168.out (fun _ hk => ⟨hk.1.1.2, ⟨hk.2, hk.1.2⟩⟩))))
         (case aS => exact (keep_size (w := w) (g := g) (row := none) (r6_ HK.out GW165.out)))
         (case aL => have := LMc13.out; omega)
         intro v170 w52 ho hb hg hat
         rw [← Ny169.out] at ho
         have n0_ := Aside0.mk (Kd.R_over' (rk_ HO_5.out) (Kd.R_typed (rk_ HO168.out)) (by decide) hg)
         have n1_ := Aside0.mk (Kd.R_after (ok := (fun k_ => some k_ ≠ (v173 : Value).ownBlock ∧ k_ ≠ gb165)) (rk_ (Kd.R_mono HO_7.out (fun _ hk => ⟨⟨hk.2, hk.1.1⟩, hk.1.2⟩))) hg hat)
         have n2_ := Aside0.mk (IsS215.grown (r8_ HI0.out NB0_165.out) hg (IsS215.own_ne HI0.out HO168.out (by decide)))
         have n3_ := Aside0.mk (blk_grown (g := gb165) (o := .cells #[.int .i64 x8_1, .int .i64 t158, .int .i64 t162] 160 (0, 0)) (r2_ BK165.out) hg (Kd.R_away HO168.out (fun _ hk => hk.1.2)))
         have n4_ := Aside0.mk (Kd.R_after (ok := (fun k_ => some k_ ≠ (.slice Ao45 x7_1.length co45 : Value).ownBlock ∧ k_ ≠ gb165)) (rk_ (Kd.R_mono HO174.out (fun _ hk => ⟨⟨hk.1.1.2, hk.2⟩, hk.1.2⟩))) hg hat)
         have n5_ := Aside0.mk (below_weaken (r10_ HB.out HI0.out GE165.out) HL.out hb)
         have n6_ := Aside0.mk (KeepBut.trans (r6_ HK.out GW165.out) (KeepBut.of_grown hg g) (Kd.R_base2 HO168.out))
         have n7_ := Aside0.mk (ho)
         clear HO_5
         clear HO_7
         clear HI0
         clear BK165
         clear HO174
         clear HB
         clear HK
         clear HO168
         have HO_5 := n0_
         have HO_7 := n1_
         have HI0 := n2_
         have BK165 := n3_
         have HO174 := n4_
         have HB := n5_
         have HK := n6_
         have HO171 := n7_
         clear n0_ n1_ n2_ n3_ n4_ n5_ n6_ n7_
         clear ho hb hg hat
         refine hK.out _ _ ⟨(blk_cell BK165.out 0).trans rfl, (blk_cell BK165.out 1).trans rfl, (blk_cell BK165.out 2).trans rfl⟩ (fun hHeld => ?_)
         clear hK K
         refine norm_ (a' := ?_) ?_ ?_
         rotate_left
         ·show Act.put _ (some 38) _ = _
          simp only [pz_]
          rfl
         exact norm_ (by simp only [putAll, Act.put, List.setIfInBounds_toArray, List.set_cons_zero, List.set_cons_succ]) (hCont (v167, v170, v173) _ ⟨hHeld, (rk_ (Kd.R_mono HO171.out (fun _ hk => ⟨hk.2.1, ⟨hk.1, hk.2.2⟩⟩))), (rk_ (Kd.R_mono HO174.out (fun _ hk => ⟨hk.2, ⟨hk.1.1, hk.1.2⟩⟩))), (rk_ HO_5.out), (rk_ (Kd.R_mono HO_7.out (fun _ hk => ⟨hk.2, ⟨hk.1.1, hk.1.2⟩⟩))), (r2_ BK165.out), (r8_ HI0.out NB0_165.out), (r6_ HK.out GW165.out), (r10_ HB.out HI0.out GE165.out)⟩)
       ·skip
        refine Kd.R_lit_step k160 _ 160 ?hg (N := 40) ?hd (xs := ([(⟨x8_1, t158, t162⟩ : S160)] : List (S160))) (inner := [.int .i64 x8_1, .int .i64 t158, .int .i64 t162]) (ok := fun _ => True) (okp := fun _ => True) ?hr ?hp (fun _ hk => hk) trivial (Below.refl _ _) (Nat.le_refl _) (by simp) ?_; (case hd => rfl); (case hg => rfl); (case hr => first | (go_simp; done) | (go_simp; rfl)); (case hp => exact (Reps.c3 (show Kd.M k160 _ _ _ (⟨x8_1, t158, t162⟩ : S160) [.int .i64 x8_1, .int .i64 t158, .int .i64 t162] from (k160_mkM _ _ _ (⟨x8_1, t158, t162⟩ : S160) )) (Reps.none _ _)))
        intro v173 w48 ho49 hb hg_ hnew_
        clear hg_ hnew_
        (first | rw [← Ny172.out] at ho49 | (simp only [Int.reduceToNat] at ho49; rw [← Ny172.out] at ho49))
        replace HO_5 := Aside0.mk (Kd.R_below (rk_ HO_5.out) hb)
        have HO174 := Aside0.mk (Kd.R_lower (Kd.R_newB (Kd.R_new' ho49 (Kd.R_lt (rk_ HO_7.out))) (g := gb165) (o := .cells #[.int .i64 x8_1, .int .i64 t158, .int .i64 t162] 160 (0, 0)) (r2_ BK165.out)) (keep_size (w := w) (g := g) (row := none) (r6_ HK.out GW165.out)))
        replace HO_7 := Aside0.mk (Kd.R_elder' (rk_ HO_7.out) (Kd.R_base ho49) hb)
        replace BK165 := Aside0.mk (blk_below (g := gb165) (o := .cells #[.int .i64 x8_1, .int .i64 t158, .int .i64 t162] 160 (0, 0)) (r2_ BK165.out) hb)
        replace HK := Aside0.mk (KeepBut.trans (r6_ HK.out GW165.out) (KeepBut.of_below hb g none) (.inl rfl))
        replace HB := Aside0.mk (below_step (r10_ HB.out HI0.out GE165.out) hb)
        replace HI0 := Aside0.mk (IsS215.below (r8_ HI0.out NB0_165.out) hb)
        clear hb ho49
        refine hK.out _ _ ⟨(blk_cell BK165.out 0).trans rfl, (blk_cell BK165.out 1).trans rfl, (blk_cell BK165.out 2).trans rfl⟩ (fun hHeld => ?_)
        clear hK K
        refine norm_ (a' := ?_) ?_ ?_
        rotate_left
        ·show Act.put _ (some 40) _ = _
         simp only [pz_]
         rfl
        refine one_ (i := 0) (N := some 36) #[t_,t_,f_,t_,t_,f_,f_] rfl rfl (by kernel_rfl) (by decide) (fun K hK => ?_)
        refine Kd.R_lit_step k160 _ 160 ?hg (N := 36) ?hd (xs := ([] : List (S160))) (inner := []) (ok := fun _ => True) (okp := fun _ => True) ?hr ?hp (fun _ hk => hk) trivial (Below.refl _ _) (Nat.le_refl _) (by simp) ?_; (case hd => rfl); (case hg => rfl); (case hr => first | (go_simp; done) | (go_simp; rfl)); (case hp => exact (Reps.none _ _))
        intro v167 w50 ho51 hb hg_ hnew_
        clear hg_ hnew_
        (first | rw [← Ny166.out] at ho51 | (simp only [Int.reduceToNat] at ho51; rw [← Ny166.out] at ho51))
        replace HO_5 := Aside0.mk (Kd.R_below (rk_ HO_5.out) hb)
        have HO168 := Aside0.mk (Kd.R_lower (Kd.R_newB (Kd.R_new' (Kd.R_new' ho51 (Kd.R_lt (rk_ HO_7.out))) (Kd.R_lt (rk_ HO174.out))) (g := gb165) (o := .cells #[.int .i64 x8_1, .int .i64 t158, .int .i64 t162] 160 (0, 0)) (r2_ BK165.out)) (keep_size (w := w) (g := g) (row := none) (r6_ HK.out GW165.out)))
        replace HO_7 := Aside0.mk (Kd.R_elder' (rk_ HO_7.out) (Kd.R_base ho51) hb)
        replace HO174 := Aside0.mk (Kd.R_elder' (rk_ HO174.out) (Kd.R_base ho51) hb)
        replace BK165 := Aside0.mk (blk_below (g := gb165) (o := .cells #[.int .i64 x8_1, .int .i64 t158, .int .i64 t162] 160 (0, 0)) (r2_ BK165.out) hb)
        replace HK := Aside0.mk (KeepBut.trans (r6_ HK.out GW165.out) (KeepBut.of_below hb g none) (.inl rfl))
        replace HB := Aside0.mk (below_step (r10_ HB.out HI0.out GE165.out) hb)
        replace HI0 := Aside0.mk (IsS215.below (r8_ HI0.out NB0_165.out) hb)
        clear hb ho51
        refine hK.out _ _ ⟨(blk_cell BK165.out 0).trans rfl, (blk_cell BK165.out 1).trans rfl, (blk_cell BK165.out 2).trans rfl⟩ (fun hHeld => ?_)
        clear hK K
        refine norm_ (a' := ?_) ?_ ?_
        rotate_left
        ·show Act.put _ (some 36) _ = _
         simp only [pz_]
         rfl
        refine one_ (i := 2) (N := some 38) #[t_,t_,t_,t_,t_,f_,f_] rfl rfl (by kernel_rfl) (by decide) (fun K hK => ?_)
        refine Kd.R_append_rows_step k160 w.heap.size (by rfl) (.tmp 36) (.tmp 37) 44 160 (.agg #[(.int .i64 0), (.int .i64 0), (.int .i64 0)]) 24 rfl Try.underlying44 info160 rfl (by decide) (by omega) v167 y166 x7_1 _ _ _ (fun k_ => some k_ ≠ (.slice Ao45 x7_1.length co45 : Value).ownBlock ∧ some k_ ≠ (v173 : Value).ownBlock ∧ k_ ≠ gb165) (fun _ => False) rfl rfl ?aO ?aR (fun _ _ h => h) (fun _ h => h.elim) ?aF (Below.refl _ _) ?aS ?aL ?_
        (case aR => exact r7_ HO_7.out)
        (case aF => exact (fun k_ hk => ⟨Kd.fresh' (Kd.R_lt (rk_ HO_7.out)) k_ hk, Kd.fresh' (Kd.R_lt (rk_ HO174.out)) k_ hk, Kd.freshB (g := gb165) (o := .cells #[.int .i64 x8_1, .int .i64 t158, .int .i64 t162] 160 (0, 0)) (r2_ BK165.out) k_ hk⟩))
        (case aO => exact (rk_ (Kd.R_mono HO168.out (fun _ hk => ⟨hk.1.1.2, ⟨hk.1.2, hk.2⟩⟩))))
        (case aS => exact (keep_size (w := w) (g := g) (row := none) (r6_ HK.out GW165.out)))
        (case aL => have := LMc13.out; omega)
        intro v170 w52 ho hb hg hat
        rw [← Ny169.out] at ho
        have n0_ := Aside0.mk (Kd.R_over' (rk_ HO_5.out) (Kd.R_typed (rk_ HO168.out)) (by decide) hg)
        have n1_ := Aside0.mk (Kd.R_after (ok := (fun k_ => some k_ ≠ (v173 : Value).ownBlock ∧ k_ ≠ gb165)) (rk_ (Kd.R_mono HO_7.out (fun _ hk => ⟨⟨hk.1.2, hk.1.1⟩, hk.2⟩))) hg hat)
        have n2_ := Aside0.mk (IsS215.grown (r8_ HI0.out NB0_165.out) hg (IsS215.own_ne HI0.out HO168.out (by decide)))
        have n3_ := Aside0.mk (blk_grown (g := gb165) (o := .cells #[.int .i64 x8_1, .int .i64 t158, .int .i64 t162] 160 (0, 0)) (r2_ BK165.out) hg (Kd.R_away HO168.out (fun _ hk => hk.2)))
        have n4_ := Aside0.mk (Kd.R_after (ok := (fun k_ => some k_ ≠ (.slice Ao45 x7_1.length co45 : Value).ownBlock ∧ k_ ≠ gb165)) (rk_ (Kd.R_mono HO174.out (fun _ hk => ⟨⟨hk.1.1.2, hk.1.2⟩, hk.2⟩))) hg hat)
        have n5_ := Aside0.mk (below_weaken (r10_ HB.out HI0.out GE165.out) HL.out hb)
        have n6_ := Aside0.mk (KeepBut.trans (r6_ HK.out GW165.out) (KeepBut.of_grown hg g) (Kd.R_base2 HO168.out))
        have n7_ := Aside0.mk (ho)
        clear HO_5
        clear HO_7
        clear HI0
        clear BK165
        clear HO174
        clear HB
        clear HK
        clear HO168
        have HO_5 := n0_
        have HO_7 := n1_
        have HI0 := n2_
        have BK165 := n3_
        have HO174 := n4_
        have HB := n5_
        have HK := n6_
        have HO171 := n7_
        clear n0_ n1_ n2_ n3_ n4_ n5_ n6_ n7_
        clear ho hb hg hat
        refine hK.out _ _ ⟨(blk_cell BK165.out 0).trans rfl, (blk_cell BK165.out 1).trans rfl, (blk_cell BK165.out 2).trans rfl⟩ (fun hHeld => ?_)
        clear hK K
        refine norm_ (a' := ?_) ?_ ?_
        rotate_left
        ·show Act.put _ (some 38) _ = _
         simp only [pz_]
         rfl
        exact norm_ (by simp only [putAll, Act.put, List.setIfInBounds_toArray, List.set_cons_zero, List.set_cons_succ]) (hCont (v167, v170, v173) _ ⟨hHeld, (rk_ (Kd.R_mono HO171.out (fun _ hk => ⟨hk.2.1, ⟨hk.1, hk.2.2⟩⟩))), (rk_ (Kd.R_mono HO174.out (fun _ hk => ⟨hk.2, ⟨hk.1.1, hk.1.2⟩⟩))), (rk_ HO_5.out), (rk_ (Kd.R_mono HO_7.out (fun _ hk => ⟨hk.2, ⟨hk.1.1, hk.1.2⟩⟩))), (r2_ BK165.out), (r8_ HI0.out NB0_165.out), (r6_ HK.out GW165.out), (r10_ HB.out HI0.out GE165.out)⟩)
      rintro ⟨v167, v170, v173⟩ w53 ⟨hS_, h0_, h1_, h2_, h3_, h4_, h5_, h6_, h7_⟩
      have n0_ : Aside0 (Kd.R k160 160 w53 w.heap.size (fun k_ => some k_ ≠ (v173 : Value).ownBlock ∧ some k_ ≠ (.slice Ao45 x7_1.length co45 : Value).ownBlock ∧ k_ ≠ gb165) v170 y169) := ⟨h0_⟩
      have n1_ : Aside0 (Kd.R k160 160 w53 w.heap.size (fun k_ => some k_ ≠ (v170 : Value).ownBlock ∧ some k_ ≠ (.slice Ao45 x7_1.length co45 : Value).ownBlock ∧ k_ ≠ gb165) v173 y172) := ⟨h1_⟩
      have n2_ : Aside0 (Kd.R k200 200 w53 w.heap.size (fun _ => True) (.slice (some ad161) t147.length co39) t147) := ⟨h2_⟩
      have n3_ : Aside0 (Kd.R k160 160 w53 w.heap.size (fun k_ => some k_ ≠ (v170 : Value).ownBlock ∧ some k_ ≠ (v173 : Value).ownBlock ∧ k_ ≠ gb165) (.slice Ao45 x7_1.length co45) x7_1) := ⟨h3_⟩
      have n4_ : Aside0 (w53.heap[gb165]? = some (.cells #[.int .i64 x8_1, .int .i64 t158, .int .i64 t162] 160 (0, 0))) := ⟨h4_⟩
      have n5_ : Aside0 (IsS215 w0 w53 g s0_0 t163 t164) := ⟨h5_⟩
      have n6_ : Aside0 (KeepBut w w53 g none) := ⟨h6_⟩
      have n7_ : Aside0 (Below w0.heap.size w0 w53) := ⟨h7_⟩
      clear HO_5
      clear HO_7
      clear BK165
      clear HI0
      clear HK
      clear HB
      clear h0_ h1_ h2_ h3_ h4_ h5_ h6_ h7_
      have HO171 := n0_
      have HO174 := n1_
      have HO_5 := n2_
      have HO_7 := n3_
      have BK165 := n4_
      have HI0 := n5_
      have HK := n6_
      have HB := n7_
      clear n0_ n1_ n2_ n3_ n4_ n5_ n6_ n7_
      have hHeld : w53.cell? ⟨gb165, 0, none⟩ = some (.int .i64 x8_1) ∧ w53.cell? ⟨gb165, 1, none⟩ = some (.int .i64 t158) ∧ w53.cell? ⟨gb165, 2, none⟩ = some (.int .i64 t162) := hS_
      obtain ⟨Ao55, co55, eo55⟩ := Kd.R_slice HO174.out
      (first | subst eo55 | (injection eo55 with f1_ f2_ f3_; have f4_ := f1_.symm; have f5_ := f3_.symm; clear f1_ f2_ f3_; subst f4_; subst f5_))
      refine norm_ (a' := ?_) ?_ ?_
      rotate_left
      ·simp only [putAll, Act.put, List.setIfInBounds_toArray, List.set_cons_zero, List.set_cons_succ]
       rfl
      refine one_ (i := 5) (N := some 41) #[t_,t_,t_,t_,t_,t_,f_] rfl rfl (by kernel_rfl) (by decide) (fun K hK => ?_)
      refine Kd.R_append_rows_step k160 w.heap.size (by rfl) (.tmp 38) (.tmp 40) 44 160 (.agg #[(.int .i64 0), (.int .i64 0), (.int .i64 0)]) 24 rfl Try.underlying44 info160 rfl (by decide) (by omega) v170 y169 y172 _ _ _ (fun k_ => some k_ ≠ (.slice Ao45 x7_1.length co45 : Value).ownBlock ∧ some k_ ≠ (.slice Ao55 y172.length co55 : Value).ownBlock ∧ k_ ≠ gb165) (fun _ => False) rfl rfl ?aO ?aR (fun _ _ h => h) (fun _ h => h.elim) ?aF (Below.refl _ _) ?aS ?aL ?_
      (case aR => exact r7_ HO174.out)
      (case aF => exact (fun k_ hk => ⟨Kd.fresh' (Kd.R_lt (rk_ HO_7.out)) k_ hk, Kd.fresh' (Kd.R_lt (rk_ HO174.out)) k_ hk, Kd.freshB (g := gb165) (o := .cells #[.int .i64 x8_1, .int .i64 t158, .int .i64 t162] 160 (0, 0)) (r2_ BK165.out) k_ hk⟩))
      (case aO => exact (rk_ (Kd.R_mono HO171.out (fun _ hk => ⟨hk.2.1, ⟨hk.1, hk.2.2⟩⟩))))
      (case aS => exact (keep_size (w := w) (g := g) (row := none) (r6_ HK.out GW165.out)))
      (case aL => have := LMc14.out; omega)
      intro v176 w54 ho hb hg hat
      rw [← Ny175.out] at ho
      have n0_ := Aside0.mk (Kd.R_over' (rk_ HO_5.out) (Kd.R_typed (rk_ HO171.out)) (by decide) hg)
      have n1_ := Aside0.mk (Kd.R_after (ok := (fun k_ => some k_ ≠ (.slice Ao55 y172.length co55 : Value).ownBlock ∧ k_ ≠ gb165)) (rk_ (Kd.R_mono HO_7.out (fun _ hk => ⟨⟨hk.2.1, hk.2.2⟩, hk.1⟩))) hg hat)
      have n2_ := Aside0.mk (IsS215.grown (r8_ HI0.out NB0_165.out) hg (IsS215.own_ne HI0.out HO171.out (by decide)))
      have n3_ := Aside0.mk (blk_grown (g := gb165) (o := .cells #[.int .i64 x8_1, .int .i64 t158, .int .i64 t162] 160 (0, 0)) (r2_ BK165.out) hg (Kd.R_away HO171.out (fun _ hk => hk.2.2)))
      have n4_ := Aside0.mk (Kd.R_after (ok := (fun k_ => some k_ ≠ (.slice Ao45 x7_1.length co45 : Value).ownBlock ∧ k_ ≠ gb165)) (rk_ (Kd.R_mono HO174.out (fun _ hk => ⟨⟨hk.2.1, hk.2.2⟩, hk.1⟩))) hg hat)
      have n5_ := Aside0.mk (below_weaken (r10_ HB.out HI0.out GE165.out) HL.out hb)
      have n6_ := Aside0.mk (KeepBut.trans (r6_ HK.out GW165.out) (KeepBut.of_grown hg g) (Kd.R_base2 HO171.out))
      have n7_ := Aside0.mk (ho)
      clear HO_5
      clear HO_7
      clear HI0
      clear BK165
      clear HO174
      clear HB
      clear HK
      clear HO171
      have HO_5 := n0_
      have HO_7 := n1_
      have HI0 := n2_
      have BK165 := n3_
      have HO174 := n4_
      have HB := n5_
      have HK := n6_
      have HO177 := n7_
      clear n0_ n1_ n2_ n3_ n4_ n5_ n6_ n7_
      clear ho hb hg hat
      refine hK.out _ _ ⟨(blk_cell BK165.out 0).trans rfl, (blk_cell BK165.out 1).trans rfl, (blk_cell BK165.out 2).trans rfl⟩ (fun hHeld => ?_)
      clear hK K
      refine norm_ (a' := ?_) ?_ ?_
      rotate_left
      ·show Act.put _ (some 41) _ = _
       simp only [pz_]
       rfl
      refine pure_ (i := 6) (N := some 11) (v := ?_) (a' := ?_) #[t_,t_,t_,t_,t_,t_,t_] rfl rfl (by kernel_rfl) (fun _ _ _ h => h) (Or.inl ⟨by rfl, ?_⟩) ?_ ?_
      rotate_left
      ·intro w'
       go_simp
       with_reducible rfl
      rotate_left
      ·simp only [pz_]
       rfl
      refine done_ (by kernel_rfl) ?_
      try go_wp2_with (first | ((with_reducible refine gate_callee (f := 129) rfl ?_); refine goesL_ (some 43) rfl rfl Try.func129 (by kernel_rfl) rfl #[.pointer (some ⟨g, 0, none⟩), .int .i64 3] rfl ag_ ?_; (with_reducible refine (spec_l01Next.calls g s0_0 t163 t164 3 t178 t179 t180 w0 _ ?side1 ?side2 A15.out).mono ?_); (case side1 => exact r8_ HI0.out NB0_165.out); (case side2 => exact r10_ HB.out HI0.out GE165.out); rintro e w56 ⟨rfl, hi, hb, hk⟩; refine ⟨_, rfl, ?_⟩; replace HO_5 := Aside0.mk (Kd.R_mono (Kd.R_keep (IsS215.apart (show IsS215 w0 _ g s0_0 t163 t164 from r8_ HI0.out NB0_165.out) (rk_ HO_5.out) (by decide)) hk (fun _ h => h.2)) (fun _ h => h.1)); replace HO_7 := Aside0.mk (Kd.R_mono (Kd.R_keep (IsS215.apart (show IsS215 w0 _ g s0_0 t163 t164 from r8_ HI0.out NB0_165.out) (rk_ HO_7.out) (by decide)) hk (fun _ h => h.2)) (fun _ h => h.1)); replace BK165 := Aside0.mk (KeepBut.blk hk (g' := gb165) (o := .cells #[.int .i64 x8_1, .int .i64 t158, .int .i64 t162] 160 (0, 0)) (r2_ BK165.out) NB165_0.out (by simp)); replace HO174 := Aside0.mk (Kd.R_mono (Kd.R_keep (IsS215.apart (show IsS215 w0 _ g s0_0 t163 t164 from r8_ HI0.out NB0_165.out) (rk_ HO174.out) (by decide)) hk (fun _ h => h.2)) (fun _ h => h.1)); replace HO177 := Aside0.mk (Kd.R_mono (Kd.R_keep (IsS215.apart (show IsS215 w0 _ g s0_0 t163 t164 from r8_ HI0.out NB0_165.out) (rk_ HO177.out) (by decide)) hk (fun _ h => h.2)) (fun _ h => h.1)); replace HK := Aside0.mk (KeepBut.trans (r6_ HK.out GW165.out) hk (.inl rfl)); replace HB := Aside0.mk (hb); replace HI0 := Aside0.mk (hi); (try clear hb); (try clear hb2); (try clear hk); (try clear hi); obtain ⟨Ao57, co57, eo57⟩ := Kd.R_slice HO177.out; subst eo57) | (go_at_call 203; (with_reducible refine (spec_AreWires.calls k1 _ _ t147 t152 _ _ y175 false _ ?side1 ?side2 ?side3 ?side4 A17.out).mono ?_); (case side1 => exact r7_ HO_5.out); (case side2 => exact (Kd.R_reads' HO_5.out).2.1); (case side3 => exact r7_ HO177.out); (case side4 => exact (Kd.R_reads' HO177.out).2.1); rintro e w58 ⟨rfl, hb⟩; replace HO_5 := Aside0.mk (Kd.R_below (rk_ HO_5.out) hb); replace HO_7 := Aside0.mk (Kd.R_below (rk_ HO_7.out) hb); replace HO174 := Aside0.mk (Kd.R_below (rk_ HO174.out) hb); replace HO177 := Aside0.mk (Kd.R_below (rk_ HO177.out) hb); replace BK165 := Aside0.mk (blk_below (g := gb165) (o := .cells #[.int .i64 x8_1, .int .i64 t158, .int .i64 t162] 160 (0, 0)) (r2_ BK165.out) hb); replace HK := Aside0.mk (KeepBut.trans (r6_ HK.out GW165.out) (KeepBut.of_below hb g none) (.inl rfl)); replace HB := Aside0.mk (below_step (r10_ HB.out HI0.out GE165.out) hb); replace HI0 := Aside0.mk (IsS215.below (r8_ HI0.out NB0_165.out) hb); (try clear hb); (try clear hb2); (try clear hk); (try clear hi)))
      go_roundg k1
      case measure => have := HK1.out; omega
      case rel => exact ⟨(x7_1), (wrap64 (x8_1 + 1)), (t179), (t180), (by first | rfl | (simp; done) | (simp [*]; done)), H', ⟨by have := HK1.out; omega⟩, ⟨rk_ HO_5.out⟩, ⟨rk_ (Kd.R_mono HO_7.out (fun _ hk => trivial))⟩, ⟨r8_ HI0.out NB0_165.out⟩, ⟨r6_ HK.out GW165.out⟩, ⟨r10_ HB.out HI0.out GE165.out⟩⟩
    ·rw [if_neg c16] at H
     have c16b0 : decide (0 < t178) = false := decide_eq_false c16
     clear c16
     have H' := Aside0.mk H
     clear H
     obtain ⟨Ao59, co59, eo59⟩ := Kd.R_slice HO_5.out
     subst eo59
     try go_wp2_with (first | ((with_reducible refine gate_callee (f := 129) rfl ?_); refine goesL_ (some 25) rfl rfl Try.func129 (by kernel_rfl) rfl #[.pointer (some ⟨g, 0, none⟩), .int .i64 (t147.length : Int)] rfl ag_ ?_; (with_reducible refine (spec_l01Next.calls g s0_0 x1001_1 x1002_1 (t147.length : Int) t158 t159 t160 w0 _ ?side1 ?side2 A9.out).mono ?_); (case side1 => exact r0_ HI0.out); (case side2 => exact r1_ HB.out HI0.out); rintro e w60 ⟨rfl, hi, hb, hk⟩; refine ⟨_, rfl, ?_⟩; replace HO_5 := Aside0.mk (Kd.R_mono (Kd.R_keep (IsS215.apart (show IsS215 w0 _ g s0_0 x1001_1 x1002_1 from r0_ HI0.out) (rk_ HO_5.out) (by decide)) hk (fun _ h => h.2)) (fun _ h => h.1)); replace HO_7 := Aside0.mk (Kd.R_mono (Kd.R_keep (IsS215.apart (show IsS215 w0 _ g s0_0 x1001_1 x1002_1 from r0_ HI0.out) (rk_ HO_7.out) (by decide)) hk (fun _ h => h.2)) (fun _ h => h.1)); replace HK := Aside0.mk (KeepBut.trans (r3_ HK.out) hk (.inl rfl)); replace HB := Aside0.mk (hb); replace HI0 := Aside0.mk (hi); (try clear hb); (try clear hb2); (try clear hk); (try clear hi); have p161 : 0 ≤ (t158 : Int) := od_; have q161 : t158 < (t147.length : Int) := od_; obtain ⟨ad161, e161, hx161_0, hx161_1⟩ := at_T200 (Kd.R_reads' HO_5.out).2.2 t158 p161 q161; cases e161; replace p161 := eq_true p161; replace q161 := eq_true q161) | ((with_reducible refine gate_callee (f := 129) rfl ?_); refine goesL_ (some 34) rfl rfl Try.func129 (by kernel_rfl) rfl #[.pointer (some ⟨g, 0, none⟩), .int .i64 ((rd_T200 t147 t158).f1)] rfl ag_ ?_; (with_reducible refine (spec_l01Next.calls g s0_0 t159 t160 ((rd_T200 t147 t158).f1) t162 t163 t164 w0 _ ?side1 ?side2 A12.out).mono ?_); (case side1 => exact r0_ HI0.out); (case side2 => exact r1_ HB.out HI0.out); rintro e w61 ⟨rfl, hi, hb, hk⟩; refine ⟨_, rfl, ?_⟩; replace HO_5 := Aside0.mk (Kd.R_mono (Kd.R_keep (IsS215.apart (show IsS215 w0 _ g s0_0 t159 t160 from r0_ HI0.out) (rk_ HO_5.out) (by decide)) hk (fun _ h => h.2)) (fun _ h => h.1)); replace HO_7 := Aside0.mk (Kd.R_mono (Kd.R_keep (IsS215.apart (show IsS215 w0 _ g s0_0 t159 t160 from r0_ HI0.out) (rk_ HO_7.out) (by decide)) hk (fun _ h => h.2)) (fun _ h => h.1)); replace HK := Aside0.mk (KeepBut.trans (r3_ HK.out) hk (.inl rfl)); replace HB := Aside0.mk (hb); replace HI0 := Aside0.mk (hi); (try clear hb); (try clear hb2); (try clear hk); (try clear hi)) | ((with_reducible refine gate_dst (N := 10) rfl ?_); refine box_event ?hg (N := 10) ?hd (cs := #[.int .i64 0, .int .i64 0, .int .i64 0]) (t := 160) ?hr ?_; (case hd => rfl); (case hg => rfl); (case hr => first | (go_simp; done) | (go_simp; rfl)); intro gb165 hg w62 hbox hb; replace HO_5 := Aside0.mk (Kd.R_below (rk_ HO_5.out) hb); replace HO_7 := Aside0.mk (Kd.R_below (Kd.R_elderB (rk_ HO_7.out) gb165 (Nat.le_of_eq hg.symm)) hb); replace HB := Aside0.mk (below_step (r1_ HB.out HI0.out) hb); have BK165 := Aside0.mk (hbox); have GW165 := Aside0.mk ((by rw [hg]; exact (keep_size (w := w) (g := g) (row := none) (r3_ HK.out)) : w.heap.size ≤ gb165)); have GE165 := Aside0.mk ((Nat.le_trans HW0.out (by rw [hg]; exact (keep_size (w := w) (g := g) (row := none) (r3_ HK.out)) : w.heap.size ≤ gb165) : w0.heap.size ≤ gb165)); replace HK := Aside0.mk (KeepBut.trans (r3_ HK.out) (KeepBut.of_below hb g none) (.inl rfl)); have NB0_165 := Aside0.mk ((by rw [hg]; exact Nat.ne_of_lt (IsS215.lt (show IsS215 w0 _ g s0_0 t163 t164 from r0_ HI0.out)) : g ≠ gb165)); have NB165_0 := Aside0.mk ((by rw [hg]; exact Nat.ne_of_gt (IsS215.lt (show IsS215 w0 _ g s0_0 t163 t164 from r0_ HI0.out)) : gb165 ≠ g)); replace HI0 := Aside0.mk (IsS215.below (r0_ HI0.out) hb); clear hb hbox hg; have hnb63 := NB165_0.out; have hnc63 := NB0_165.out; have hcz64_0 : w62.cell? ⟨gb165, 0, none⟩ = some (.int .i64 0) := (blk_cell BK165.out 0).trans rfl; have hcz64_1 : w62.cell? ⟨gb165, 1, none⟩ = some (.int .i64 0) := (blk_cell BK165.out 1).trans rfl; have hcz64_2 : w62.cell? ⟨gb165, 2, none⟩ = some (.int .i64 0) := (blk_cell BK165.out 2).trans rfl; have hfz64_0 := blk_frozen BK165.out 0; have hfz64_1 := blk_frozen BK165.out 1; have hfz64_2 := blk_frozen BK165.out 2; obtain ⟨Ao65, co65, eo65⟩ := Kd.R_slice HO_7.out; subst eo65))
     have n0_ : Aside0 (Kd.R k200 200 (((w62.setCell ⟨gb165, 0, none⟩ (.int .i64 x8_1)).setCell ⟨gb165, 1, none⟩ (.int .i64 t158)).setCell ⟨gb165, 2, none⟩ (.int .i64 t162)) w.heap.size (fun _ => True) (.slice (some ad161) t147.length co59) t147) := ⟨rk_ (Kd.R_mono (Kd.R_far (p := ⟨gb165, 2, none⟩) (Kd.R_far (p := ⟨gb165, 1, none⟩) (Kd.R_far (p := ⟨gb165, 0, none⟩) (Kd.R_types HO_5.out BK165.out (by decide)) (fun _ hk => hk.2) (.int .i64 x8_1)) (fun _ hk => hk.2) (.int .i64 t158)) (fun _ hk => hk.2) (.int .i64 t162)) (fun _ hk => trivial))⟩
     have n1_ : Aside0 (Kd.R k160 160 (((w62.setCell ⟨gb165, 0, none⟩ (.int .i64 x8_1)).setCell ⟨gb165, 1, none⟩ (.int .i64 t158)).setCell ⟨gb165, 2, none⟩ (.int .i64 t162)) w.heap.size (fun k_ => k_ ≠ gb165) (.slice Ao65 x7_1.length co65) x7_1) := ⟨rk_ (Kd.R_mono (Kd.R_far (p := ⟨gb165, 2, none⟩) (Kd.R_far (p := ⟨gb165, 1, none⟩) (Kd.R_far (p := ⟨gb165, 0, none⟩) (Kd.R_mono HO_7.out (fun k_ hk => (⟨hk, hk.2⟩ : _ ∧ k_ ≠ gb165))) (fun _ hk => hk.2) (.int .i64 x8_1)) (fun _ hk => hk.2) (.int .i64 t158)) (fun _ hk => hk.2) (.int .i64 t162)) (fun _ hk => hk.1.2))⟩
     have n2_ : Aside0 ((((w62.setCell ⟨gb165, 0, none⟩ (.int .i64 x8_1)).setCell ⟨gb165, 1, none⟩ (.int .i64 t158)).setCell ⟨gb165, 2, none⟩ (.int .i64 t162)).heap[gb165]? = some (.cells #[.int .i64 x8_1, .int .i64 t158, .int .i64 t162] 160 (0, 0))) := ⟨by (with_reducible repeat (first | refine blk_drewN ?_ _ | refine blk_drew ?_ | refine blk_alloc ?_ _)); refine blk_put (cs := #[.int .i64 x8_1, .int .i64 t158, .int .i64 0]) ?_ 2 _ rfl; (with_reducible repeat (first | refine blk_drewN ?_ _ | refine blk_drew ?_ | refine blk_alloc ?_ _)); refine blk_put (cs := #[.int .i64 x8_1, .int .i64 0, .int .i64 0]) ?_ 1 _ rfl; (with_reducible repeat (first | refine blk_drewN ?_ _ | refine blk_drew ?_ | refine blk_alloc ?_ _)); refine blk_put (cs := #[.int .i64 0, .int .i64 0, .int .i64 0]) ?_ 0 _ rfl; (with_reducible repeat (first | refine blk_drewN ?_ _ | refine blk_drew ?_ | refine blk_alloc ?_ _)); exact BK165.out⟩
     have n3_ : Aside0 (IsS215 w0 (((w62.setCell ⟨gb165, 0, none⟩ (.int .i64 x8_1)).setCell ⟨gb165, 1, none⟩ (.int .i64 t158)).setCell ⟨gb165, 2, none⟩ (.int .i64 t162)) g s0_0 t163 t164) := ⟨r8_ HI0.out NB0_165.out⟩
     have n4_ : Aside0 (KeepBut w (((w62.setCell ⟨gb165, 0, none⟩ (.int .i64 x8_1)).setCell ⟨gb165, 1, none⟩ (.int .i64 t158)).setCell ⟨gb165, 2, none⟩ (.int .i64 t162)) g none) := ⟨r6_ HK.out GW165.out⟩
     have n5_ : Aside0 (Below w0.heap.size w0 (((w62.setCell ⟨gb165, 0, none⟩ (.int .i64 x8_1)).setCell ⟨gb165, 1, none⟩ (.int .i64 t158)).setCell ⟨gb165, 2, none⟩ (.int .i64 t162))) := ⟨r10_ HB.out HI0.out GE165.out⟩
     (try clear HO_5)
     (try clear HO_7)
     (try clear BK165)
     (try clear HI0)
     (try clear HK)
     (try clear HB)
     generalize (((w62.setCell ⟨gb165, 0, none⟩ (.int .i64 x8_1)).setCell ⟨gb165, 1, none⟩ (.int .i64 t158)).setCell ⟨gb165, 2, none⟩ (.int .i64 t162)) = w66 at n0_ n1_ n2_ n3_ n4_ n5_ ⊢
     have HO_5 := n0_
     have HO_7 := n1_
     have BK165 := n2_
     have HI0 := n3_
     have HK := n4_
     have HB := n5_
     clear n0_ n1_ n2_ n3_ n4_ n5_
     replace HO_5 := Aside0.mk (Kd.R_drew HO_5.out)
     replace HO_7 := Aside0.mk (Kd.R_drew HO_7.out)
     replace BK165 := Aside0.mk (blk_drew BK165.out)
     replace HI0 := Aside0.mk (IsS215.drew HI0.out)
     replace HK := Aside0.mk (keep_drew HK.out)
     replace HB := Aside0.mk (below_drew1 HB.out)
     refine start_ (n := 7) (S := fun w' => w'.cell? ⟨gb165, 0, none⟩ = some (.int .i64 x8_1) ∧ w'.cell? ⟨gb165, 1, none⟩ = some (.int .i64 t158) ∧ w'.cell? ⟨gb165, 2, none⟩ = some (.int .i64 t162)) (ds := []) #[f_,f_,f_,f_,f_,f_,f_] (by kernel_rfl) rfl rfl ⟨(blk_cell BK165.out 0).trans rfl, (blk_cell BK165.out 1).trans rfl, (blk_cell BK165.out 2).trans rfl⟩ (fun hHeld => ?_)
     generalize w66.drew = w67 at HO_5 HO_7 BK165 HI0 HK HB hHeld ⊢
     refine pure_ (i := 1) (N := some 37) (v := ?_) (a' := ?_) #[f_,t_,f_,f_,f_,f_,f_] rfl rfl (by kernel_rfl) (fun _ _ _ h => h) (Or.inl ⟨by rfl, ?_⟩) ?_ ?_
     rotate_left
     ·intro w'
      go_simp
      with_reducible rfl
     rotate_left
     ·simp only [pz_]
      rfl
     refine take_ (i := 3) (N := some 39) (v := ?_) (a' := ?_) #[f_,t_,f_,t_,f_,f_,f_] rfl rfl (by kernel_rfl) (fun _ _ _ h => h) (Or.inl ⟨by rfl, ?_⟩) hHeld ?_ ?_
     rotate_left
     ·rintro w' ⟨s0, s1, s2⟩
      go_simp
      with_reducible rfl
     rotate_left
     ·simp only [pz_]
      rfl
     refine join_ (σ := Value × Value × Value) 2 #[t_,t_,t_,t_,t_,f_,f_] (fun s_ => [(36, s_.1), (38, s_.2.1), (40, s_.2.2)]) (fun s_ w' => (w'.cell? ⟨gb165, 0, none⟩ = some (.int .i64 x8_1) ∧ w'.cell? ⟨gb165, 1, none⟩ = some (.int .i64 t158) ∧ w'.cell? ⟨gb165, 2, none⟩ = some (.int .i64 t162)) ∧ (Kd.R k160 160 w' w.heap.size (fun k_ => some k_ ≠ (s_.2.2 : Value).ownBlock ∧ some k_ ≠ (.slice Ao65 x7_1.length co65 : Value).ownBlock ∧ k_ ≠ gb165) s_.2.1 y169) ∧ (Kd.R k160 160 w' w.heap.size (fun k_ => some k_ ≠ (s_.2.1 : Value).ownBlock ∧ some k_ ≠ (.slice Ao65 x7_1.length co65 : Value).ownBlock ∧ k_ ≠ gb165) s_.2.2 y172) ∧ (Kd.R k200 200 w' w.heap.size (fun _ => True) (.slice (some ad161) t147.length co59) t147) ∧ (Kd.R k160 160 w' w.heap.size (fun k_ => some k_ ≠ (s_.2.1 : Value).ownBlock ∧ some k_ ≠ (s_.2.2 : Value).ownBlock ∧ k_ ≠ gb165) (.slice Ao65 x7_1.length co65) x7_1) ∧ (w'.heap[gb165]? = some (.cells #[.int .i64 x8_1, .int .i64 t158, .int .i64 t162] 160 (0, 0))) ∧ (IsS215 w0 w' g s0_0 t163 t164) ∧ (KeepBut w w' g none) ∧ (Below w0.heap.size w0 w')) ?_ ?_
     rotate_left
     ·intro hCont
      refine two_ (i := 0) (j := 4) (Ni := some 36) (Nj := some 40) #[t_,t_,f_,t_,f_,f_,f_] #[f_,t_,f_,t_,t_,f_,f_] rfl rfl rfl rfl (by kernel_rfl) (by decide) (by decide) (fun K hK => ?_) (fun K hK => ?_)
      ·skip
       refine Kd.R_lit_step k160 _ 160 ?hg (N := 36) ?hd (xs := ([] : List (S160))) (inner := []) (ok := fun _ => True) (okp := fun _ => True) ?hr ?hp (fun _ hk => hk) trivial (Below.refl _ _) (Nat.le_refl _) (by simp) ?_; (case hd => rfl); (case hg => rfl); (case hr => first | (go_simp; done) | (go_simp; rfl)); (case hp => exact (Reps.none _ _))
       intro v167 w68 ho69 hb hg_ hnew_
       clear hg_ hnew_
       (first | rw [← Ny166.out] at ho69 | (simp only [Int.reduceToNat] at ho69; rw [← Ny166.out] at ho69))
       replace HO_5 := Aside0.mk (Kd.R_below (rk_ HO_5.out) hb)
       have HO168 := Aside0.mk (Kd.R_lower (Kd.R_newB (Kd.R_new' ho69 (Kd.R_lt (rk_ HO_7.out))) (g := gb165) (o := .cells #[.int .i64 x8_1, .int .i64 t158, .int .i64 t162] 160 (0, 0)) (r2_ BK165.out)) (keep_size (w := w) (g := g) (row := none) (r6_ HK.out GW165.out)))
       replace HO_7 := Aside0.mk (Kd.R_elder' (rk_ HO_7.out) (Kd.R_base ho69) hb)
       replace BK165 := Aside0.mk (blk_below (g := gb165) (o := .cells #[.int .i64 x8_1, .int .i64 t158, .int .i64 t162] 160 (0, 0)) (r2_ BK165.out) hb)
       replace HK := Aside0.mk (KeepBut.trans (r6_ HK.out GW165.out) (KeepBut.of_below hb g none) (.inl rfl))
       replace HB := Aside0.mk (below_step (r10_ HB.out HI0.out GE165.out) hb)
       replace HI0 := Aside0.mk (IsS215.below (r8_ HI0.out NB0_165.out) hb)
       clear hb ho69
       refine hK.out _ _ ⟨(blk_cell BK165.out 0).trans rfl, (blk_cell BK165.out 1).trans rfl, (blk_cell BK165.out 2).trans rfl⟩ (fun hHeld => ?_)
       clear hK K
       refine norm_ (a' := ?_) ?_ ?_
       rotate_left
       ·show Act.put _ (some 36) _ = _
        simp only [pz_]
        rfl
       refine two_ (i := 2) (j := 4) (Ni := some 38) (Nj := some 40) #[t_,t_,t_,t_,f_,f_,f_] #[t_,t_,f_,t_,t_,f_,f_] rfl rfl rfl rfl (by kernel_rfl) (by decide) (by decide) (fun K hK => ?_) (fun K hK => ?_)
       ·skip
        refine Kd.R_append_rows_step k160 w.heap.size (by rfl) (.tmp 36) (.tmp 37) 44 160 (.agg #[(.int .i64 0), (.int .i64 0), (.int .i64 0)]) 24 rfl Try.underlying44 info160 rfl (by decide) (by omega) v167 y166 x7_1 _ _ _ (fun k_ => some k_ ≠ (.slice Ao65 x7_1.length co65 : Value).ownBlock ∧ k_ ≠ gb165) (fun _ => False) rfl rfl ?aO ?aR (fun _ _ h => h) (fun _ h => h.elim) ?aF (Below.refl _ _) ?aS ?aL ?_
        (case aR => exact r7_ HO_7.out)
        (case aF => exact (fun k_ hk => ⟨Kd.fresh' (Kd.R_lt (rk_ HO_7.out)) k_ hk, Kd.freshB (g := gb165) (o := .cells #[.int .i64 x8_1, .int .i64 t158, .int .i64 t162] 160 (0, 0)) (r2_ BK165.out) k_ hk⟩))
        (case aO => exact (rk_ (Kd.R_mono HO168.out (fun _ hk => ⟨hk.1.2, hk.2⟩))))
        (case aS => exact (keep_size (w := w) (g := g) (row := none) (r6_ HK.out GW165.out)))
        (case aL => have := LMc13.out; omega)
        intro v170 w70 ho hb hg hat
        rw [← Ny169.out] at ho
        have n0_ := Aside0.mk (Kd.R_over' (rk_ HO_5.out) (Kd.R_typed (rk_ HO168.out)) (by decide) hg)
        have n1_ := Aside0.mk (Kd.R_after (ok := (fun k_ => k_ ≠ gb165)) (rk_ HO_7.out) hg hat)
        have n2_ := Aside0.mk (IsS215.grown (r8_ HI0.out NB0_165.out) hg (IsS215.own_ne HI0.out HO168.out (by decide)))
        have n3_ := Aside0.mk (blk_grown (g := gb165) (o := .cells #[.int .i64 x8_1, .int .i64 t158, .int .i64 t162] 160 (0, 0)) (r2_ BK165.out) hg (Kd.R_away HO168.out (fun _ hk => hk.2)))
        have n4_ := Aside0.mk (below_weaken (r10_ HB.out HI0.out GE165.out) HL.out hb)
        have n5_ := Aside0.mk (KeepBut.trans (r6_ HK.out GW165.out) (KeepBut.of_grown hg g) (Kd.R_base2 HO168.out))
        have n6_ := Aside0.mk (ho)
        clear HO_5
        clear HO_7
        clear HI0
        clear BK165
        clear HB
        clear HK
        clear HO168
        have HO_5 := n0_
        have HO_7 := n1_
        have HI0 := n2_
        have BK165 := n3_
        have HB := n4_
        have HK := n5_
        have HO171 := n6_
        clear n0_ n1_ n2_ n3_ n4_ n5_ n6_
        clear ho hb hg hat
        refine hK.out _ _ ⟨(blk_cell BK165.out 0).trans rfl, (blk_cell BK165.out 1).trans rfl, (blk_cell BK165.out 2).trans rfl⟩ (fun hHeld => ?_)
        clear hK K
        refine norm_ (a' := ?_) ?_ ?_
        rotate_left
        ·show Act.put _ (some 38) _ = _
         simp only [pz_]
         rfl
        refine one_ (i := 4) (N := some 40) #[t_,t_,t_,t_,t_,f_,f_] rfl rfl (by kernel_rfl) (by decide) (fun K hK => ?_)
        refine Kd.R_lit_step k160 _ 160 ?hg (N := 40) ?hd (xs := ([(⟨x8_1, t158, t162⟩ : S160)] : List (S160))) (inner := [.int .i64 x8_1, .int .i64 t158, .int .i64 t162]) (ok := fun _ => True) (okp := fun _ => True) ?hr ?hp (fun _ hk => hk) trivial (Below.refl _ _) (Nat.le_refl _) (by simp) ?_; (case hd => rfl); (case hg => rfl); (case hr => first | (go_simp; done) | (go_simp; rfl)); (case hp => exact (Reps.c3 (show Kd.M k160 _ _ _ (⟨x8_1, t158, t162⟩ : S160) [.int .i64 x8_1, .int .i64 t158, .int .i64 t162] from (k160_mkM _ _ _ (⟨x8_1, t158, t162⟩ : S160) )) (Reps.none _ _)))
        intro v173 w71 ho72 hb hg_ hnew_
        clear hg_ hnew_
        (first | rw [← Ny172.out] at ho72 | (simp only [Int.reduceToNat] at ho72; rw [← Ny172.out] at ho72))
        replace HO_5 := Aside0.mk (Kd.R_below (rk_ HO_5.out) hb)
        have HO174 := Aside0.mk (Kd.R_lower (Kd.R_newB (Kd.R_new' (Kd.R_new' ho72 (Kd.R_lt (rk_ HO_7.out))) (Kd.R_lt (rk_ HO171.out))) (g := gb165) (o := .cells #[.int .i64 x8_1, .int .i64 t158, .int .i64 t162] 160 (0, 0)) (r2_ BK165.out)) (keep_size (w := w) (g := g) (row := none) (r6_ HK.out GW165.out)))
        replace HO_7 := Aside0.mk (Kd.R_elder' (rk_ HO_7.out) (Kd.R_base ho72) hb)
        replace HO171 := Aside0.mk (Kd.R_elder' (rk_ HO171.out) (Kd.R_base ho72) hb)
        replace BK165 := Aside0.mk (blk_below (g := gb165) (o := .cells #[.int .i64 x8_1, .int .i64 t158, .int .i64 t162] 160 (0, 0)) (r2_ BK165.out) hb)
        replace HK := Aside0.mk (KeepBut.trans (r6_ HK.out GW165.out) (KeepBut.of_below hb g none) (.inl rfl))
        replace HB := Aside0.mk (below_step (r10_ HB.out HI0.out GE165.out) hb)
        replace HI0 := Aside0.mk (IsS215.below (r8_ HI0.out NB0_165.out) hb)
        clear hb ho72
        refine hK.out _ _ ⟨(blk_cell BK165.out 0).trans rfl, (blk_cell BK165.out 1).trans rfl, (blk_cell BK165.out 2).trans rfl⟩ (fun hHeld => ?_)
        clear hK K
        refine norm_ (a' := ?_) ?_ ?_
        rotate_left
        ·show Act.put _ (some 40) _ = _
         simp only [pz_]
         rfl
        exact norm_ (by simp only [putAll, Act.put, List.setIfInBounds_toArray, List.set_cons_zero, List.set_cons_succ]) (hCont (v167, v170, v173) _ ⟨hHeld, (rk_ (Kd.R_mono HO171.out (fun _ hk => ⟨hk.2, ⟨hk.1.1, hk.1.2⟩⟩))), (rk_ (Kd.R_mono HO174.out (fun _ hk => ⟨hk.1.2, ⟨hk.1.1.2, hk.2⟩⟩))), (rk_ HO_5.out), (rk_ (Kd.R_mono HO_7.out (fun _ hk => ⟨hk.1.2, ⟨hk.2, hk.1.1⟩⟩))), (r2_ BK165.out), (r8_ HI0.out NB0_165.out), (r6_ HK.out GW165.out), (r10_ HB.out HI0.out GE165.out)⟩)
       ·skip
        refine Kd.R_lit_step k160 _ 160 ?hg (N := 40) ?hd (xs := ([(⟨x8_1, t158, t162⟩ : S160)] : List (S160))) (inner := [.int .i64 x8_1, .int .i64 t158, .int .i64 t162]) (ok := fun _ => True) (okp := fun _ => True) ?hr ?hp (fun _ hk => hk) trivial (Below.refl _ _) (Nat.le_refl _) (by simp) ?_; (case hd => rfl); (case hg => rfl); (case hr => first | (go_simp; done) | (go_simp; rfl)); (case hp => exact (Reps.c3 (show Kd.M k160 _ _ _ (⟨x8_1, t158, t162⟩ : S160) [.int .i64 x8_1, .int .i64 t158, .int .i64 t162] from (k160_mkM _ _ _ (⟨x8_1, t158, t162⟩ : S160) )) (Reps.none _ _)))
        intro v173 w70 ho71 hb hg_ hnew_
        clear hg_ hnew_
        (first | rw [← Ny172.out] at ho71 | (simp only [Int.reduceToNat] at ho71; rw [← Ny172.out] at ho71))
        replace HO_5 := Aside0.mk (Kd.R_below (rk_ HO_5.out) hb)
        have HO174 := Aside0.mk (Kd.R_lower (Kd.R_newB (Kd.R_new' (Kd.R_new' ho71 (Kd.R_lt (rk_ HO_7.out))) (Kd.R_lt (rk_ HO168.out))) (g := gb165) (o := .cells #[.int .i64 x8_1, .int .i64 t158, .int .i64 t162] 160 (0, 0)) (r2_ BK165.out)) (keep_size (w := w) (g := g) (row := none) (r6_ HK.out GW165.out)))
        replace HO_7 := Aside0.mk (Kd.R_elder' (rk_ HO_7.out) (Kd.R_base ho71) hb)
        replace HO168 := Aside0.mk (Kd.R_elder' (rk_ HO168.out) (Kd.R_base ho71) hb)
        replace BK165 := Aside0.mk (blk_below (g := gb165) (o := .cells #[.int .i64 x8_1, .int .i64 t158, .int .i64 t162] 160 (0, 0)) (r2_ BK165.out) hb)
        replace HK := Aside0.mk (KeepBut.trans (r6_ HK.out GW165.out) (KeepBut.of_below hb g none) (.inl rfl))
        replace HB := Aside0.mk (below_step (r10_ HB.out HI0.out GE165.out) hb)
        replace HI0 := Aside0.mk (IsS215.below (r8_ HI0.out NB0_165.out) hb)
        clear hb ho71
        refine hK.out _ _ ⟨(blk_cell BK165.out 0).trans rfl, (blk_cell BK165.out 1).trans rfl, (blk_cell BK165.out 2).trans rfl⟩ (fun hHeld => ?_)
        clear hK K
        refine norm_ (a' := ?_) ?_ ?_
        rotate_left
        ·show Act.put _ (some 40) _ = _
         simp only [pz_]
         rfl
        refine one_ (i := 2) (N := some 38) #[t_,t_,t_,t_,t_,f_,f_] rfl rfl (by kernel_rfl) (by decide) (fun K hK => ?_)
        refine Kd.R_append_rows_step k160 w.heap.size (by rfl) (.tmp 36) (.tmp 37) 44 160 (.agg #[(.int .i64 0), (.int .i64 0), (.int .i64 0)]) 24 rfl Try.underlying44 info160 rfl (by decide) (by omega) v167 y166 x7_1 _ _ _ (fun k_ => some k_ ≠ (.slice Ao65 x7_1.length co65 : Value).ownBlock ∧ some k_ ≠ (v173 : Value).ownBlock ∧ k_ ≠ gb165) (fun _ => False) rfl rfl ?aO ?aR (fun _ _ h => h) (fun _ h => h.elim) ?aF (Below.refl _ _) ?aS ?aL ?_
        (case aR => exact r7_ HO_7.out)
        (case aF => exact (fun k_ hk => ⟨Kd.fresh' (Kd.R_lt (rk_ HO_7.out)) k_ hk, Kd.fresh' (Kd.R_lt (rk_ HO174.out)) k_ hk, Kd.freshB (g := gb165) (o := .cells #[.int .i64 x8_1, .int .i64 t158, .int .i64 t162] 160 (0, 0)) (r2_ BK165.out) k_ hk⟩))
        (case aO => exact (rk_ (Kd.R_mono HO168.out (fun _ hk => ⟨hk.1.1.2, ⟨hk.2, hk.1.2⟩⟩))))
        (case aS => exact (keep_size (w := w) (g := g) (row := none) (r6_ HK.out GW165.out)))
        (case aL => have := LMc13.out; omega)
        intro v170 w72 ho hb hg hat
        rw [← Ny169.out] at ho
        have n0_ := Aside0.mk (Kd.R_over' (rk_ HO_5.out) (Kd.R_typed (rk_ HO168.out)) (by decide) hg)
        have n1_ := Aside0.mk (Kd.R_after (ok := (fun k_ => some k_ ≠ (v173 : Value).ownBlock ∧ k_ ≠ gb165)) (rk_ (Kd.R_mono HO_7.out (fun _ hk => ⟨⟨hk.2, hk.1.1⟩, hk.1.2⟩))) hg hat)
        have n2_ := Aside0.mk (IsS215.grown (r8_ HI0.out NB0_165.out) hg (IsS215.own_ne HI0.out HO168.out (by decide)))
        have n3_ := Aside0.mk (blk_grown (g := gb165) (o := .cells #[.int .i64 x8_1, .int .i64 t158, .int .i64 t162] 160 (0, 0)) (r2_ BK165.out) hg (Kd.R_away HO168.out (fun _ hk => hk.1.2)))
        have n4_ := Aside0.mk (Kd.R_after (ok := (fun k_ => some k_ ≠ (.slice Ao65 x7_1.length co65 : Value).ownBlock ∧ k_ ≠ gb165)) (rk_ (Kd.R_mono HO174.out (fun _ hk => ⟨⟨hk.1.1.2, hk.2⟩, hk.1.2⟩))) hg hat)
        have n5_ := Aside0.mk (below_weaken (r10_ HB.out HI0.out GE165.out) HL.out hb)
        have n6_ := Aside0.mk (KeepBut.trans (r6_ HK.out GW165.out) (KeepBut.of_grown hg g) (Kd.R_base2 HO168.out))
        have n7_ := Aside0.mk (ho)
        clear HO_5
        clear HO_7
        clear HI0
        clear BK165
        clear HO174
        clear HB
        clear HK
        clear HO168
        have HO_5 := n0_
        have HO_7 := n1_
        have HI0 := n2_
        have BK165 := n3_
        have HO174 := n4_
        have HB := n5_
        have HK := n6_
        have HO171 := n7_
        clear n0_ n1_ n2_ n3_ n4_ n5_ n6_ n7_
        clear ho hb hg hat
        refine hK.out _ _ ⟨(blk_cell BK165.out 0).trans rfl, (blk_cell BK165.out 1).trans rfl, (blk_cell BK165.out 2).trans rfl⟩ (fun hHeld => ?_)
        clear hK K
        refine norm_ (a' := ?_) ?_ ?_
        rotate_left
        ·show Act.put _ (some 38) _ = _
         simp only [pz_]
         rfl
        exact norm_ (by simp only [putAll, Act.put, List.setIfInBounds_toArray, List.set_cons_zero, List.set_cons_succ]) (hCont (v167, v170, v173) _ ⟨hHeld, (rk_ (Kd.R_mono HO171.out (fun _ hk => ⟨hk.2.1, ⟨hk.1, hk.2.2⟩⟩))), (rk_ (Kd.R_mono HO174.out (fun _ hk => ⟨hk.2, ⟨hk.1.1, hk.1.2⟩⟩))), (rk_ HO_5.out), (rk_ (Kd.R_mono HO_7.out (fun _ hk => ⟨hk.2, ⟨hk.1.1, hk.1.2⟩⟩))), (r2_ BK165.out), (r8_ HI0.out NB0_165.out), (r6_ HK.out GW165.out), (r10_ HB.out HI0.out GE165.out)⟩)
      ·skip
       refine Kd.R_lit_step k160 _ 160 ?hg (N := 40) ?hd (xs := ([(⟨x8_1, t158, t162⟩ : S160)] : List (S160))) (inner := [.int .i64 x8_1, .int .i64 t158, .int .i64 t162]) (ok := fun _ => True) (okp := fun _ => True) ?hr ?hp (fun _ hk => hk) trivial (Below.refl _ _) (Nat.le_refl _) (by simp) ?_; (case hd => rfl); (case hg => rfl); (case hr => first | (go_simp; done) | (go_simp; rfl)); (case hp => exact (Reps.c3 (show Kd.M k160 _ _ _ (⟨x8_1, t158, t162⟩ : S160) [.int .i64 x8_1, .int .i64 t158, .int .i64 t162] from (k160_mkM _ _ _ (⟨x8_1, t158, t162⟩ : S160) )) (Reps.none _ _)))
       intro v173 w68 ho69 hb hg_ hnew_
       clear hg_ hnew_
       (first | rw [← Ny172.out] at ho69 | (simp only [Int.reduceToNat] at ho69; rw [← Ny172.out] at ho69))
       replace HO_5 := Aside0.mk (Kd.R_below (rk_ HO_5.out) hb)
       have HO174 := Aside0.mk (Kd.R_lower (Kd.R_newB (Kd.R_new' ho69 (Kd.R_lt (rk_ HO_7.out))) (g := gb165) (o := .cells #[.int .i64 x8_1, .int .i64 t158, .int .i64 t162] 160 (0, 0)) (r2_ BK165.out)) (keep_size (w := w) (g := g) (row := none) (r6_ HK.out GW165.out)))
       replace HO_7 := Aside0.mk (Kd.R_elder' (rk_ HO_7.out) (Kd.R_base ho69) hb)
       replace BK165 := Aside0.mk (blk_below (g := gb165) (o := .cells #[.int .i64 x8_1, .int .i64 t158, .int .i64 t162] 160 (0, 0)) (r2_ BK165.out) hb)
       replace HK := Aside0.mk (KeepBut.trans (r6_ HK.out GW165.out) (KeepBut.of_below hb g none) (.inl rfl))
       replace HB := Aside0.mk (below_step (r10_ HB.out HI0.out GE165.out) hb)
       replace HI0 := Aside0.mk (IsS215.below (r8_ HI0.out NB0_165.out) hb)
       clear hb ho69
       refine hK.out _ _ ⟨(blk_cell BK165.out 0).trans rfl, (blk_cell BK165.out 1).trans rfl, (blk_cell BK165.out 2).trans rfl⟩ (fun hHeld => ?_)
       clear hK K
       refine norm_ (a' := ?_) ?_ ?_
       rotate_left
       ·show Act.put _ (some 40) _ = _
        simp only [pz_]
        rfl
       refine one_ (i := 0) (N := some 36) #[t_,t_,f_,t_,t_,f_,f_] rfl rfl (by kernel_rfl) (by decide) (fun K hK => ?_)
       refine Kd.R_lit_step k160 _ 160 ?hg (N := 36) ?hd (xs := ([] : List (S160))) (inner := []) (ok := fun _ => True) (okp := fun _ => True) ?hr ?hp (fun _ hk => hk) trivial (Below.refl _ _) (Nat.le_refl _) (by simp) ?_; (case hd => rfl); (case hg => rfl); (case hr => first | (go_simp; done) | (go_simp; rfl)); (case hp => exact (Reps.none _ _))
       intro v167 w70 ho71 hb hg_ hnew_
       clear hg_ hnew_
       (first | rw [← Ny166.out] at ho71 | (simp only [Int.reduceToNat] at ho71; rw [← Ny166.out] at ho71))
       replace HO_5 := Aside0.mk (Kd.R_below (rk_ HO_5.out) hb)
       have HO168 := Aside0.mk (Kd.R_lower (Kd.R_newB (Kd.R_new' (Kd.R_new' ho71 (Kd.R_lt (rk_ HO_7.out))) (Kd.R_lt (rk_ HO174.out))) (g := gb165) (o := .cells #[.int .i64 x8_1, .int .i64 t158, .int .i64 t162] 160 (0, 0)) (r2_ BK165.out)) (keep_size (w := w) (g := g) (row := none) (r6_ HK.out GW165.out)))
       replace HO_7 := Aside0.mk (Kd.R_elder' (rk_ HO_7.out) (Kd.R_base ho71) hb)
       replace HO174 := Aside0.mk (Kd.R_elder' (rk_ HO174.out) (Kd.R_base ho71) hb)
       replace BK165 := Aside0.mk (blk_below (g := gb165) (o := .cells #[.int .i64 x8_1, .int .i64 t158, .int .i64 t162] 160 (0, 0)) (r2_ BK165.out) hb)
       replace HK := Aside0.mk (KeepBut.trans (r6_ HK.out GW165.out) (KeepBut.of_below hb g none) (.inl rfl))
       replace HB := Aside0.mk (below_step (r10_ HB.out HI0.out GE165.out) hb)
       replace HI0 := Aside0.mk (IsS215.below (r8_ HI0.out NB0_165.out) hb)
       clear hb ho71
       refine hK.out _ _ ⟨(blk_cell BK165.out 0).trans rfl, (blk_cell BK165.out 1).trans rfl, (blk_cell BK165.out 2).trans rfl⟩ (fun hHeld => ?_)
       clear hK K
       refine norm_ (a' := ?_) ?_ ?_
       rotate_left
       ·show Act.put _ (some 36) _ = _
        simp only [pz_]
        rfl
       refine one_ (i := 2) (N := some 38) #[t_,t_,t_,t_,t_,f_,f_] rfl rfl (by kernel_rfl) (by decide) (fun K hK => ?_)
       refine Kd.R_append_rows_step k160 w.heap.size (by rfl) (.tmp 36) (.tmp 37) 44 160 (.agg #[(.int .i64 0), (.int .i64 0), (.int .i64 0)]) 24 rfl Try.underlying44 info160 rfl (by decide) (by omega) v167 y166 x7_1 _ _ _ (fun k_ => some k_ ≠ (.slice Ao65 x7_1.length co65 : Value).ownBlock ∧ some k_ ≠ (v173 : Value).ownBlock ∧ k_ ≠ gb165) (fun _ => False) rfl rfl ?aO ?aR (fun _ _ h => h) (fun _ h => h.elim) ?aF (Below.refl _ _) ?aS ?aL ?_
       (case aR => exact r7_ HO_7.out)
       (case aF => exact (fun k_ hk => ⟨Kd.fresh' (Kd.R_lt (rk_ HO_7.out)) k_ hk, Kd.fresh' (Kd.R_lt (rk_ HO174.out)) k_ hk, Kd.freshB (g := gb165) (o := .cells #[.int .i64 x8_1, .int .i64 t158, .int .i64 t162] 160 (0, 0)) (r2_ BK165.out) k_ hk⟩))
       (case aO => exact (rk_ (Kd.R_mono HO168.out (fun _ hk => ⟨hk.1.1.2, ⟨hk.1.2, hk.2⟩⟩))))
       (case aS => exact (keep_size (w := w) (g := g) (row := none) (r6_ HK.out GW165.out)))
       (case aL => have := LMc13.out; omega)
       intro v170 w72 ho hb hg hat
       rw [← Ny169.out] at ho
       have n0_ := Aside0.mk (Kd.R_over' (rk_ HO_5.out) (Kd.R_typed (rk_ HO168.out)) (by decide) hg)
       have n1_ := Aside0.mk (Kd.R_after (ok := (fun k_ => some k_ ≠ (v173 : Value).ownBlock ∧ k_ ≠ gb165)) (rk_ (Kd.R_mono HO_7.out (fun _ hk => ⟨⟨hk.1.2, hk.1.1⟩, hk.2⟩))) hg hat)
       have n2_ := Aside0.mk (IsS215.grown (r8_ HI0.out NB0_165.out) hg (IsS215.own_ne HI0.out HO168.out (by decide)))
       have n3_ := Aside0.mk (blk_grown (g := gb165) (o := .cells #[.int .i64 x8_1, .int .i64 t158, .int .i64 t162] 160 (0, 0)) (r2_ BK165.out) hg (Kd.R_away HO168.out (fun _ hk => hk.2)))
       have n4_ := Aside0.mk (Kd.R_after (ok := (fun k_ => some k_ ≠ (.slice Ao65 x7_1.length co65 : Value).ownBlock ∧ k_ ≠ gb165)) (rk_ (Kd.R_mono HO174.out (fun _ hk => ⟨⟨hk.1.1.2, hk.1.2⟩, hk.2⟩))) hg hat)
       have n5_ := Aside0.mk (below_weaken (r10_ HB.out HI0.out GE165.out) HL.out hb)
       have n6_ := Aside0.mk (KeepBut.trans (r6_ HK.out GW165.out) (KeepBut.of_grown hg g) (Kd.R_base2 HO168.out))
       have n7_ := Aside0.mk (ho)
       clear HO_5
       clear HO_7
       clear HI0
       clear BK165
       clear HO174
       clear HB
       clear HK
       clear HO168
       have HO_5 := n0_
       have HO_7 := n1_
       have HI0 := n2_
       have BK165 := n3_
       have HO174 := n4_
       have HB := n5_
       have HK := n6_
       have HO171 := n7_
       clear n0_ n1_ n2_ n3_ n4_ n5_ n6_ n7_
       clear ho hb hg hat
       refine hK.out _ _ ⟨(blk_cell BK165.out 0).trans rfl, (blk_cell BK165.out 1).trans rfl, (blk_cell BK165.out 2).trans rfl⟩ (fun hHeld => ?_)
       clear hK K
       refine norm_ (a' := ?_) ?_ ?_
       rotate_left
       ·show Act.put _ (some 38) _ = _
        simp only [pz_]
        rfl
       exact norm_ (by simp only [putAll, Act.put, List.setIfInBounds_toArray, List.set_cons_zero, List.set_cons_succ]) (hCont (v167, v170, v173) _ ⟨hHeld, (rk_ (Kd.R_mono HO171.out (fun _ hk => ⟨hk.2.1, ⟨hk.1, hk.2.2⟩⟩))), (rk_ (Kd.R_mono HO174.out (fun _ hk => ⟨hk.2, ⟨hk.1.1, hk.1.2⟩⟩))), (rk_ HO_5.out), (rk_ (Kd.R_mono HO_7.out (fun _ hk => ⟨hk.2, ⟨hk.1.1, hk.1.2⟩⟩))), (r2_ BK165.out), (r8_ HI0.out NB0_165.out), (r6_ HK.out GW165.out), (r10_ HB.out HI0.out GE165.out)⟩)
     rintro ⟨v167, v170, v173⟩ w73 ⟨hS_, h0_, h1_, h2_, h3_, h4_, h5_, h6_, h7_⟩
     have n0_ : Aside0 (Kd.R k160 160 w73 w.heap.size (fun k_ => some k_ ≠ (v173 : Value).ownBlock ∧ some k_ ≠ (.slice Ao65 x7_1.length co65 : Value).ownBlock ∧ k_ ≠ gb165) v170 y169) := ⟨h0_⟩
     have n1_ : Aside0 (Kd.R k160 160 w73 w.heap.size (fun k_ => some k_ ≠ (v170 : Value).ownBlock ∧ some k_ ≠ (.slice Ao65 x7_1.length co65 : Value).ownBlock ∧ k_ ≠ gb165) v173 y172) := ⟨h1_⟩
     have n2_ : Aside0 (Kd.R k200 200 w73 w.heap.size (fun _ => True) (.slice (some ad161) t147.length co59) t147) := ⟨h2_⟩
     have n3_ : Aside0 (Kd.R k160 160 w73 w.heap.size (fun k_ => some k_ ≠ (v170 : Value).ownBlock ∧ some k_ ≠ (v173 : Value).ownBlock ∧ k_ ≠ gb165) (.slice Ao65 x7_1.length co65) x7_1) := ⟨h3_⟩
     have n4_ : Aside0 (w73.heap[gb165]? = some (.cells #[.int .i64 x8_1, .int .i64 t158, .int .i64 t162] 160 (0, 0))) := ⟨h4_⟩
     have n5_ : Aside0 (IsS215 w0 w73 g s0_0 t163 t164) := ⟨h5_⟩
     have n6_ : Aside0 (KeepBut w w73 g none) := ⟨h6_⟩
     have n7_ : Aside0 (Below w0.heap.size w0 w73) := ⟨h7_⟩
     clear HO_5
     clear HO_7
     clear BK165
     clear HI0
     clear HK
     clear HB
     clear h0_ h1_ h2_ h3_ h4_ h5_ h6_ h7_
     have HO171 := n0_
     have HO174 := n1_
     have HO_5 := n2_
     have HO_7 := n3_
     have BK165 := n4_
     have HI0 := n5_
     have HK := n6_
     have HB := n7_
     clear n0_ n1_ n2_ n3_ n4_ n5_ n6_ n7_
     have hHeld : w73.cell? ⟨gb165, 0, none⟩ = some (.int .i64 x8_1) ∧ w73.cell? ⟨gb165, 1, none⟩ = some (.int .i64 t158) ∧ w73.cell? ⟨gb165, 2, none⟩ = some (.int .i64 t162) := hS_
     obtain ⟨Ao75, co75, eo75⟩ := Kd.R_slice HO174.out
     (first | subst eo75 | (injection eo75 with f1_ f2_ f3_; have f4_ := f1_.symm; have f5_ := f3_.symm; clear f1_ f2_ f3_; subst f4_; subst f5_))
     refine norm_ (a' := ?_) ?_ ?_
     rotate_left
     ·simp only [putAll, Act.put, List.setIfInBounds_toArray, List.set_cons_zero, List.set_cons_succ]
      rfl
     refine one_ (i := 5) (N := some 41) #[t_,t_,t_,t_,t_,t_,f_] rfl rfl (by kernel_rfl) (by decide) (fun K hK => ?_)
     refine Kd.R_append_rows_step k160 w.heap.size (by rfl) (.tmp 38) (.tmp 40) 44 160 (.agg #[(.int .i64 0), (.int .i64 0), (.int .i64 0)]) 24 rfl Try.underlying44 info160 rfl (by decide) (by omega) v170 y169 y172 _ _ _ (fun k_ => some k_ ≠ (.slice Ao65 x7_1.length co65 : Value).ownBlock ∧ some k_ ≠ (.slice Ao75 y172.length co75 : Value).ownBlock ∧ k_ ≠ gb165) (fun _ => False) rfl rfl ?aO ?aR (fun _ _ h => h) (fun _ h => h.elim) ?aF (Below.refl _ _) ?aS ?aL ?_
     (case aR => exact r7_ HO174.out)
     (case aF => exact (fun k_ hk => ⟨Kd.fresh' (Kd.R_lt (rk_ HO_7.out)) k_ hk, Kd.fresh' (Kd.R_lt (rk_ HO174.out)) k_ hk, Kd.freshB (g := gb165) (o := .cells #[.int .i64 x8_1, .int .i64 t158, .int .i64 t162] 160 (0, 0)) (r2_ BK165.out) k_ hk⟩))
     (case aO => exact (rk_ (Kd.R_mono HO171.out (fun _ hk => ⟨hk.2.1, ⟨hk.1, hk.2.2⟩⟩))))
     (case aS => exact (keep_size (w := w) (g := g) (row := none) (r6_ HK.out GW165.out)))
     (case aL => have := LMc14.out; omega)
     intro v176 w74 ho hb hg hat
     rw [← Ny175.out] at ho
     have n0_ := Aside0.mk (Kd.R_over' (rk_ HO_5.out) (Kd.R_typed (rk_ HO171.out)) (by decide) hg)
     have n1_ := Aside0.mk (Kd.R_after (ok := (fun k_ => some k_ ≠ (.slice Ao75 y172.length co75 : Value).ownBlock ∧ k_ ≠ gb165)) (rk_ (Kd.R_mono HO_7.out (fun _ hk => ⟨⟨hk.2.1, hk.2.2⟩, hk.1⟩))) hg hat)
     have n2_ := Aside0.mk (IsS215.grown (r8_ HI0.out NB0_165.out) hg (IsS215.own_ne HI0.out HO171.out (by decide)))
     have n3_ := Aside0.mk (blk_grown (g := gb165) (o := .cells #[.int .i64 x8_1, .int .i64 t158, .int .i64 t162] 160 (0, 0)) (r2_ BK165.out) hg (Kd.R_away HO171.out (fun _ hk => hk.2.2)))
     have n4_ := Aside0.mk (Kd.R_after (ok := (fun k_ => some k_ ≠ (.slice Ao65 x7_1.length co65 : Value).ownBlock ∧ k_ ≠ gb165)) (rk_ (Kd.R_mono HO174.out (fun _ hk => ⟨⟨hk.2.1, hk.2.2⟩, hk.1⟩))) hg hat)
     have n5_ := Aside0.mk (below_weaken (r10_ HB.out HI0.out GE165.out) HL.out hb)
     have n6_ := Aside0.mk (KeepBut.trans (r6_ HK.out GW165.out) (KeepBut.of_grown hg g) (Kd.R_base2 HO171.out))
     have n7_ := Aside0.mk (ho)
     clear HO_5
     clear HO_7
     clear HI0
     clear BK165
     clear HO174
     clear HB
     clear HK
     clear HO171
     have HO_5 := n0_
     have HO_7 := n1_
     have HI0 := n2_
     have BK165 := n3_
     have HO174 := n4_
     have HB := n5_
     have HK := n6_
     have HO177 := n7_
     clear n0_ n1_ n2_ n3_ n4_ n5_ n6_ n7_
     clear ho hb hg hat
     refine hK.out _ _ ⟨(blk_cell BK165.out 0).trans rfl, (blk_cell BK165.out 1).trans rfl, (blk_cell BK165.out 2).trans rfl⟩ (fun hHeld => ?_)
     clear hK K
     refine norm_ (a' := ?_) ?_ ?_
     rotate_left
     ·show Act.put _ (some 41) _ = _
      simp only [pz_]
      rfl
     refine pure_ (i := 6) (N := some 11) (v := ?_) (a' := ?_) #[t_,t_,t_,t_,t_,t_,t_] rfl rfl (by kernel_rfl) (fun _ _ _ h => h) (Or.inl ⟨by rfl, ?_⟩) ?_ ?_
     rotate_left
     ·intro w'
      go_simp
      with_reducible rfl
     rotate_left
     ·simp only [pz_]
      rfl
     refine done_ (by kernel_rfl) ?_
     try go_wp2_with (first | ((with_reducible refine gate_callee (f := 129) rfl ?_); refine goesL_ (some 43) rfl rfl Try.func129 (by kernel_rfl) rfl #[.pointer (some ⟨g, 0, none⟩), .int .i64 3] rfl ag_ ?_; (with_reducible refine (spec_l01Next.calls g s0_0 t163 t164 3 t178 t179 t180 w0 _ ?side1 ?side2 A15.out).mono ?_); (case side1 => exact r8_ HI0.out NB0_165.out); (case side2 => exact r10_ HB.out HI0.out GE165.out); rintro e w76 ⟨rfl, hi, hb, hk⟩; refine ⟨_, rfl, ?_⟩; replace HO_5 := Aside0.mk (Kd.R_mono (Kd.R_keep (IsS215.apart (show IsS215 w0 _ g s0_0 t163 t164 from r8_ HI0.out NB0_165.out) (rk_ HO_5.out) (by decide)) hk (fun _ h => h.2)) (fun _ h => h.1)); replace HO_7 := Aside0.mk (Kd.R_mono (Kd.R_keep (IsS215.apart (show IsS215 w0 _ g s0_0 t163 t164 from r8_ HI0.out NB0_165.out) (rk_ HO_7.out) (by decide)) hk (fun _ h => h.2)) (fun _ h => h.1)); replace BK165 := Aside0.mk (KeepBut.blk hk (g' := gb165) (o := .cells #[.int .i64 x8_1, .int .i64 t158, .int .i64 t162] 160 (0, 0)) (r2_ BK165.out) NB165_0.out (by simp)); replace HO174 := Aside0.mk (Kd.R_mono (Kd.R_keep (IsS215.apart (show IsS215 w0 _ g s0_0 t163 t164 from r8_ HI0.out NB0_165.out) (rk_ HO174.out) (by decide)) hk (fun _ h => h.2)) (fun _ h => h.1)); replace HO177 := Aside0.mk (Kd.R_mono (Kd.R_keep (IsS215.apart (show IsS215 w0 _ g s0_0 t163 t164 from r8_ HI0.out NB0_165.out) (rk_ HO177.out) (by decide)) hk (fun _ h => h.2)) (fun _ h => h.1)); replace HK := Aside0.mk (KeepBut.trans (r6_ HK.out GW165.out) hk (.inl rfl)); replace HB := Aside0.mk (hb); replace HI0 := Aside0.mk (hi); (try clear hb); (try clear hb2); (try clear hk); (try clear hi)))
     go_roundg k1
     case measure => have := HK1.out; omega
     case rel => exact ⟨(x7_1), (wrap64 (x8_1 + 1)), (t179), (t180), (by first | rfl | (simp; done) | (simp [*]; done)), H', ⟨by have := HK1.out; omega⟩, ⟨rk_ HO_5.out⟩, ⟨rk_ (Kd.R_mono HO_7.out (fun _ hk => trivial))⟩, ⟨r8_ HI0.out NB0_165.out⟩, ⟨r6_ HK.out GW165.out⟩, ⟨r10_ HB.out HI0.out GE165.out⟩⟩
   ·rw [if_neg c8] at H
    have c8b0 : decide (x8_1 < t152) = false := decide_eq_false c8
    clear c8
    simp only [Option.some.injEq, Prod.mk.injEq] at H
    obtain ⟨rfl, rfl, rfl, rfl, rfl⟩ := H
    go_wp2
    go_ret3
    exact ⟨_, _, by first | rfl | (simp [errW_none, errW_some] <;> rfl) | (simp [*, errW_none, errW_some] <;> rfl), rk_ HO_5.out, rk_ HO_7.out, r0_ HI0.out, r1_ HB.out HI0.out, r3_ HK.out⟩
end Go.Proofs.Ytedcdhnbceaaeaa.PFnWired
