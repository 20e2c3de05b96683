/- QFnWiredc of the law FnWired: taken over, declaration by declaration, as far as the law leans on it (the words and the printed functions are the kit's own print). No condition but what each says. -/
import Derived.Test.YtedcdhnbceaaeaaZFnWiredav
import Derived.Test.YtedcdhnbceaaeaaZFnWiredaw
import Derived.Test.YtedcdhnbceaaeaaZFnWiredax
import Derived.Test.YtedcdhnbceaaeaaZFnWireday
namespace Go.Proofs.Ytedcdhnbceaaeaa.PFnWired
open Go.RowKit Go.Proofs.YtedcdhnbceaaeaaW.PrintWords Go.Proofs.YtedcdhnbceaaeaaW.PrintLast Go.Proofs.YtedcdhnbceaaeaaW.PrintMore
attribute [local go_sem] max2_int min2_int max_two min_two max_three min_three max_four min_four   -- for this text's walks alone
set_option linter.unusedVariables false
set_option linter.unusedSimpArgs false
open Bool renaming true → t_, false → f_
def spec_l12Draw.l0 : Nat → List (S200) → List Int → Int → Int → Option ((List (S200)) × Int × Int)
 | 0, _, _, _, _ => none
 | k + 1, x3, x1000, x1001, x1002 => (spec_l01Next.f x1000 x1001 x1002 2).bind fun bt207 => (if (x3.length : Int) < (wrap64 (12 + bt207.1)) then (if x3.length < 8796093022208 then (spec_l12Draw.l0 k (x3 ++ [(⟨0, 1⟩ : S200)]) x1000 bt207.2.1 bt207.2.2) else (none)) else (some (x3, bt207.2.1, bt207.2.2)))
def spec_l12Draw.f (k : Nat) (s0_0 : List Int) (s0_1 : Int) (s0_2 : Int) : Option ((List (S200)) × Int × Int) := (spec_l12Good.f k s0_0 s0_1 s0_2).bind fun bt182 => ((spec_l01Next.f s0_0 bt182.2.1 bt182.2.2 (bt182.1.length : Int)).bind fun bt187 => ((spec_l01Next.f s0_0 bt187.2.1 bt187.2.2 40).bind fun bt190 => (if bt190.1 = 0 then ((spec_l01Pick.f s0_0 bt190.2.1 bt190.2.2 (([bt187.1, wrap64 (bt187.1 - 1), (-1), (-2)] : List Int))).bind fun bt196 => (if 0 ≤ bt187.1 then (if bt187.1 < (bt182.1.length : Int) then (some ((bt182.1.set (bt187.1 : Int).toNat (⟨bt196.1, (rd_T200 bt182.1 bt187.1).f1⟩ : S200)), bt196.2.1, bt196.2.2)) else (none)) else (none))) else (if bt190.1 = 1 then ((spec_l01Pick.f s0_0 bt190.2.1 bt190.2.2 (([(-1), 32, 33] : List Int))).bind fun bt203 => (if 0 ≤ bt187.1 then (if bt187.1 < (bt182.1.length : Int) then (some ((bt182.1.set (bt187.1 : Int).toNat (⟨(rd_T200 bt182.1 bt187.1).f0, bt203.1⟩ : S200)), bt203.2.1, bt203.2.2)) else (none)) else (none))) else (if bt190.1 = 2 then (spec_l12Draw.l0 k bt182.1 s0_0 bt190.2.1 bt190.2.2) else (if bt190.1 = 3 then (if 0 ≤ (bt182.1.length : Int) then (some ((bt182.1.take (0 : Int).toNat), bt190.2.1, bt190.2.2)) else (none)) else (some (bt182.1, bt190.2.1, bt190.2.2))))))))
set_option maxHeartbeats 8000000 in
set_option maxRecDepth 100000 in
theorem spec_l12Draw.calls (k : Nat) (g : Nat) (s0_0 : List Int) (s0_1 : Int) (s0_2 : Int) (r1 : List (S200)) (r2 : Int) (r3 : Int) (w0 w : World) (hI : IsS215 w0 w g s0_0 s0_1 s0_2) (hB : Below w0.heap.size w0 w) (h : spec_l12Draw.f k s0_0 s0_1 s0_2 = some (r1, r2, r3)) :
  Calls Try.prog 201 #[.pointer (some ⟨g, 0, none⟩)] w fun e w' => ∃ v0_ : Value, e = .returned (v0_) ∧ Kd.R k200 200 w' w.heap.size (fun _ => True) v0_ r1 ∧ IsS215 w0 w' g s0_0 r2 r3 ∧ Below w0.heap.size w0 w' ∧ KeepBut w w' g none := by
 have hu200 := Try.underlying200
 have HI0 := Aside0.mk hI
 have HK := Aside0.mk (KeepBut.refl w g none)
 have HL := Aside0.mk hB.size
 clear hI
 have HW0 := Aside0.mk hB.size
 have HB := Aside0.mk hB
 clear hB
 have H : ((spec_l12Good.f k s0_0 s0_1 s0_2).bind fun bt182 => ((spec_l01Next.f s0_0 bt182.2.1 bt182.2.2 (bt182.1.length : Int)).bind fun bt187 => ((spec_l01Next.f s0_0 bt187.2.1 bt187.2.2 40).bind fun bt190 => (if bt190.1 = 0 then ((spec_l01Pick.f s0_0 bt190.2.1 bt190.2.2 (([bt187.1, wrap64 (bt187.1 - 1), (-1), (-2)] : List Int))).bind fun bt196 => (if 0 ≤ bt187.1 then (if bt187.1 < (bt182.1.length : Int) then (some ((bt182.1.set (bt187.1 : Int).toNat (⟨bt196.1, (rd_T200 bt182.1 bt187.1).f1⟩ : S200)), bt196.2.1, bt196.2.2)) else (none)) else (none))) else (if bt190.1 = 1 then ((spec_l01Pick.f s0_0 bt190.2.1 bt190.2.2 (([(-1), 32, 33] : List Int))).bind fun bt203 => (if 0 ≤ bt187.1 then (if bt187.1 < (bt182.1.length : Int) then (some ((bt182.1.set (bt187.1 : Int).toNat (⟨(rd_T200 bt182.1 bt187.1).f0, bt203.1⟩ : S200)), bt203.2.1, bt203.2.2)) else (none)) else (none))) else (if bt190.1 = 2 then (spec_l12Draw.l0 k bt182.1 s0_0 bt190.2.1 bt190.2.2) else (if bt190.1 = 3 then (if 0 ≤ (bt182.1.length : Int) then (some ((bt182.1.take (0 : Int).toNat), bt190.2.1, bt190.2.2)) else (none)) else (some (bt182.1, bt190.2.1, bt190.2.2))))))))) = some (r1, r2, r3) := h
 clear h
 replace H := Option.bind_eq_some_iff.mp H
 obtain ⟨⟨t182, t185, t186⟩, A20, H⟩ := H
 replace H : ((spec_l01Next.f s0_0 t185 t186 (t182.length : Int)).bind fun bt187 => ((spec_l01Next.f s0_0 bt187.2.1 bt187.2.2 40).bind fun bt190 => (if bt190.1 = 0 then ((spec_l01Pick.f s0_0 bt190.2.1 bt190.2.2 (([bt187.1, wrap64 (bt187.1 - 1), (-1), (-2)] : List Int))).bind fun bt196 => (if 0 ≤ bt187.1 then (if bt187.1 < (t182.length : Int) then (some ((t182.set (bt187.1 : Int).toNat (⟨bt196.1, (rd_T200 t182 bt187.1).f1⟩ : S200)), bt196.2.1, bt196.2.2)) else (none)) else (none))) else (if bt190.1 = 1 then ((spec_l01Pick.f s0_0 bt190.2.1 bt190.2.2 (([(-1), 32, 33] : List Int))).bind fun bt203 => (if 0 ≤ bt187.1 then (if bt187.1 < (t182.length : Int) then (some ((t182.set (bt187.1 : Int).toNat (⟨(rd_T200 t182 bt187.1).f0, bt203.1⟩ : S200)), bt203.2.1, bt203.2.2)) else (none)) else (none))) else (if bt190.1 = 2 then (spec_l12Draw.l0 k t182 s0_0 bt190.2.1 bt190.2.2) else (if bt190.1 = 3 then (if 0 ≤ (t182.length : Int) then (some ((t182.take (0 : Int).toNat), bt190.2.1, bt190.2.2)) else (none)) else (some (t182, bt190.2.1, bt190.2.2)))))))) = some (r1, r2, r3) := H
 have A2 := Aside0.mk A20
 clear A20
 replace H := Option.bind_eq_some_iff.mp H
 obtain ⟨⟨t187, t188, t189⟩, A30, H⟩ := H
 replace H : ((spec_l01Next.f s0_0 t188 t189 40).bind fun bt190 => (if bt190.1 = 0 then ((spec_l01Pick.f s0_0 bt190.2.1 bt190.2.2 (([t187, wrap64 (t187 - 1), (-1), (-2)] : List Int))).bind fun bt196 => (if 0 ≤ t187 then (if t187 < (t182.length : Int) then (some ((t182.set (t187 : Int).toNat (⟨bt196.1, (rd_T200 t182 t187).f1⟩ : S200)), bt196.2.1, bt196.2.2)) else (none)) else (none))) else (if bt190.1 = 1 then ((spec_l01Pick.f s0_0 bt190.2.1 bt190.2.2 (([(-1), 32, 33] : List Int))).bind fun bt203 => (if 0 ≤ t187 then (if t187 < (t182.length : Int) then (some ((t182.set (t187 : Int).toNat (⟨(rd_T200 t182 t187).f0, bt203.1⟩ : S200)), bt203.2.1, bt203.2.2)) else (none)) else (none))) else (if bt190.1 = 2 then (spec_l12Draw.l0 k t182 s0_0 bt190.2.1 bt190.2.2) else (if bt190.1 = 3 then (if 0 ≤ (t182.length : Int) then (some ((t182.take (0 : Int).toNat), bt190.2.1, bt190.2.2)) else (none)) else (some (t182, bt190.2.1, bt190.2.2))))))) = some (r1, r2, r3) := H
 have A3 := Aside0.mk A30
 clear A30
 replace H := Option.bind_eq_some_iff.mp H
 obtain ⟨⟨t190, t191, t192⟩, A40, H⟩ := H
 replace H : (if t190 = 0 then ((spec_l01Pick.f s0_0 t191 t192 (([t187, wrap64 (t187 - 1), (-1), (-2)] : List Int))).bind fun bt196 => (if 0 ≤ t187 then (if t187 < (t182.length : Int) then (some ((t182.set (t187 : Int).toNat (⟨bt196.1, (rd_T200 t182 t187).f1⟩ : S200)), bt196.2.1, bt196.2.2)) else (none)) else (none))) else (if t190 = 1 then ((spec_l01Pick.f s0_0 t191 t192 (([(-1), 32, 33] : List Int))).bind fun bt203 => (if 0 ≤ t187 then (if t187 < (t182.length : Int) then (some ((t182.set (t187 : Int).toNat (⟨(rd_T200 t182 t187).f0, bt203.1⟩ : S200)), bt203.2.1, bt203.2.2)) else (none)) else (none))) else (if t190 = 2 then (spec_l12Draw.l0 k t182 s0_0 t191 t192) else (if t190 = 3 then (if 0 ≤ (t182.length : Int) then (some ((t182.take (0 : Int).toNat), t191, t192)) else (none)) else (some (t182, t191, t192)))))) = some (r1, r2, r3) := H
 have A4 := Aside0.mk A40
 clear A40
 by_cases c5 : t190 = 0
 ·rw [if_pos c5] at H
  have c5b0 : (t190 == 0) = true := beq_iff_eq.mpr c5
  have c5b1 : (t190 != 0) = false := bne_eq_false_iff_eq.mpr c5
  clear c5
  obtain ⟨y193, hy193⟩ : ∃ y_ : List Int, y_ = (([t187, wrap64 (t187 - 1), (-1), (-2)] : List Int)) := ⟨_, rfl⟩
  replace H : ((spec_l01Pick.f s0_0 t191 t192 y193).bind fun bt196 => (if 0 ≤ t187 then (if t187 < (t182.length : Int) then (some ((t182.set (t187 : Int).toNat (⟨bt196.1, (rd_T200 t182 t187).f1⟩ : S200)), bt196.2.1, bt196.2.2)) else (none)) else (none))) = some (r1, r2, r3) := by first | (rw [hy193]; with_reducible exact H) | (have H2_ := (Option.bind_some _ _).symm.trans H; rw [hy193]; with_reducible exact H2_) | (have H2_ := (Option.bind_some _ _).symm.trans H; with_reducible exact H2_) | with_reducible exact H | (rw [hy193]; exact H) | exact H
  have Ny193 := Aside0.mk hy193
  clear hy193
  replace H := Option.bind_eq_some_iff.mp H
  obtain ⟨⟨t196, t197, t198⟩, A60, H⟩ := H
  replace H : (if 0 ≤ t187 then (if t187 < (t182.length : Int) then (some ((t182.set (t187 : Int).toNat (⟨t196, (rd_T200 t182 t187).f1⟩ : S200)), t197, t198)) else (none)) else (none)) = some (r1, r2, r3) := H
  have A6 := Aside0.mk A60
  clear A60
  by_cases c7 : 0 ≤ t187
  case neg =>
   rw [if_neg c7] at H
   exact absurd H (by simp)
  rw [if_pos c7] at H
  have c7b0 : decide (0 ≤ t187) = true := decide_eq_true c7
  clear c7
  by_cases c8 : t187 < (t182.length : Int)
  case neg =>
   rw [if_neg c8] at H
   exact absurd H (by simp)
  rw [if_pos c8] at H
  have c8b0 : decide (t187 < (t182.length : Int)) = true := decide_eq_true c8
  clear c8
  obtain ⟨y199, hy199⟩ : ∃ y_ : List (S200), y_ = (t182.set (t187 : Int).toNat (⟨t196, (rd_T200 t182 t187).f1⟩ : S200)) := ⟨_, rfl⟩
  replace H : (some (y199, t197, t198)) = some (r1, r2, r3) := by first | (rw [hy199]; with_reducible exact H) | (have H2_ := (Option.bind_some _ _).symm.trans H; rw [hy199]; with_reducible exact H2_) | (have H2_ := (Option.bind_some _ _).symm.trans H; with_reducible exact H2_) | with_reducible exact H | (rw [hy199]; exact H) | exact H
  have Ny199 := Aside0.mk hy199
  clear hy199
  simp only [Option.some.injEq, Prod.mk.injEq] at H
  obtain ⟨rfl, rfl, rfl⟩ := H
  go_enter Try.func201, Try.ntmps201
  go_wp2_with (first | ((with_reducible refine gate_callee (f := 220) rfl ?_); refine goesL_ (some 6) rfl rfl Try.func220 (by kernel_rfl) rfl #[.pointer (some ⟨g, 0, none⟩)] rfl ag_ ?_; (with_reducible refine (spec_l12Good.calls k g s0_0 s0_1 s0_2 t182 t185 t186 w0 _ ?side1 ?side2 A2.out).mono ?_); (case side1 => exact r0_ HI0.out); (case side2 => exact r1_ HB.out HI0.out); rintro e w10 ⟨v183, rfl, ho0, hi, hb, hk⟩; refine ⟨_, rfl, ?_⟩; have HO184 := Aside0.mk (Kd.R_lower ho0 (keep_size (w := w) (g := g) (row := none) (r3_ HK.out))); replace HK := Aside0.mk (KeepBut.trans (r3_ HK.out) hk (.inl rfl)); replace HB := Aside0.mk (hb); replace HI0 := Aside0.mk (hi); (try clear hb); (try clear hb2); (try clear hk); (try clear hi); (try clear ho0); obtain ⟨Ao11, co11, eo11⟩ := Kd.R_slice HO184.out; subst eo11) | ((with_reducible refine gate_callee (f := 129) rfl ?_); refine goesL_ (some 10) rfl rfl Try.func129 (by kernel_rfl) rfl #[.pointer (some ⟨g, 0, none⟩), .int .i64 (t182.length : Int)] rfl ag_ ?_; (with_reducible refine (spec_l01Next.calls g s0_0 t185 t186 (t182.length : Int) t187 t188 t189 w0 _ ?side1 ?side2 A3.out).mono ?_); (case side1 => exact r0_ HI0.out); (case side2 => exact r1_ HB.out HI0.out); rintro e w12 ⟨rfl, hi, hb, hk⟩; refine ⟨_, rfl, ?_⟩; replace HO184 := Aside0.mk (Kd.R_mono (Kd.R_keep (IsS215.apart (show IsS215 w0 _ g s0_0 t185 t186 from r0_ HI0.out) (rk_ HO184.out) (by decide)) hk (fun _ h => h.2)) (fun _ h => h.1)); replace HK := Aside0.mk (KeepBut.trans (r3_ HK.out) hk (.inl rfl)); replace HB := Aside0.mk (hb); replace HI0 := Aside0.mk (hi); (try clear hb); (try clear hb2); (try clear hk); (try clear hi)) | ((with_reducible refine gate_callee (f := 129) rfl ?_); refine goesL_ (some 12) rfl rfl Try.func129 (by kernel_rfl) rfl #[.pointer (some ⟨g, 0, none⟩), .int .i64 40] rfl ag_ ?_; (with_reducible refine (spec_l01Next.calls g s0_0 t188 t189 40 t190 t191 t192 w0 _ ?side1 ?side2 A4.out).mono ?_); (case side1 => exact r0_ HI0.out); (case side2 => exact r1_ HB.out HI0.out); rintro e w13 ⟨rfl, hi, hb, hk⟩; refine ⟨_, rfl, ?_⟩; replace HO184 := Aside0.mk (Kd.R_mono (Kd.R_keep (IsS215.apart (show IsS215 w0 _ g s0_0 t188 t189 from r0_ HI0.out) (rk_ HO184.out) (by decide)) hk (fun _ h => h.2)) (fun _ h => h.1)); replace HK := Aside0.mk (KeepBut.trans (r3_ HK.out) hk (.inl rfl)); replace HB := Aside0.mk (hb); replace HI0 := Aside0.mk (hi); (try clear hb); (try clear hb2); (try clear hk); (try clear hi)) | ((with_reducible refine gate_dst (N := 21) rfl ?_); refine Kd.R_lit (Kd.int .i64) _ 2 ?hg (N := 21) ?hd (xs := ([t187, wrap64 (t187 - 1), (-1), (-2)] : List Int)) (inner := [.int .i64 t187, .int .i64 (wrap64 (t187 - 1)), .int .i64 (-1), .int .i64 (-2)]) (ok := fun _ => True) (okp := fun _ => True) ?hr ?hp (fun _ hk => hk) trivial (Below.refl _ _) (Nat.le_refl _) (by simp) ?_; (case hd => rfl); (case hg => rfl); (case hr => first | (go_simp; done) | (go_simp; rfl)); (case hp => exact (Reps.one (show Kd.M (Kd.int .i64) _ _ _ t187 [.int .i64 t187] from rfl) (Reps.one (show Kd.M (Kd.int .i64) _ _ _ (wrap64 (t187 - 1)) [.int .i64 (wrap64 (t187 - 1))] from rfl) (Reps.one (show Kd.M (Kd.int .i64) _ _ _ (-1) [.int .i64 (-1)] from rfl) (Reps.one (show Kd.M (Kd.int .i64) _ _ _ (-2) [.int .i64 (-2)] from rfl) (Reps.none _ _)))))); intro v194 w14 ho15 hb hg_ hnew_; clear hg_ hnew_; (first | rw [← Ny193.out] at ho15 | (simp only [Int.reduceToNat] at ho15; rw [← Ny193.out] at ho15)); replace HO184 := Aside0.mk (Kd.R_below (rk_ HO184.out) hb); have HO195 := Aside0.mk (Kd.R_lower ho15 (keep_size (w := w) (g := g) (row := none) (r3_ HK.out))); replace HK := Aside0.mk (KeepBut.trans (r3_ HK.out) (KeepBut.of_below hb g none) (.inl rfl)); replace HB := Aside0.mk (below_step (r1_ HB.out HI0.out) hb); replace HI0 := Aside0.mk (IsS215.below (r0_ HI0.out) hb); clear hb ho15; obtain ⟨Ao16, co16, eo16⟩ := Kd.R_slice HO195.out; subst eo16) | ((with_reducible refine gate_callee (f := 145) rfl ?_); refine goesL_ (some 22) rfl rfl Try.func145 (by kernel_rfl) rfl #[.pointer (some ⟨g, 0, none⟩), .slice Ao16 y193.length co16] rfl ag_ ?_; (with_reducible refine (spec_l01Pick.calls g s0_0 t191 t192 _ _ y193 t196 t197 t198 w0 _ ?side1 ?side2 ?side3 ?side4 ?side5 A6.out).mono ?_); (case side1 => exact r0_ HI0.out); (case side2 => exact r1_ HB.out HI0.out); (case side3 => exact r7_ HO195.out); (case side4 => exact (Kd.R_reads' HO195.out).2.1); (case side5 => exact far_slice (IsS215.own_ne HI0.out HO195.out (by decide))); rintro e w17 ⟨rfl, hi, hb, hk⟩; refine ⟨_, rfl, ?_⟩; replace HO184 := Aside0.mk (Kd.R_mono (Kd.R_keep (IsS215.apart (show IsS215 w0 _ g s0_0 t191 t192 from r0_ HI0.out) (rk_ HO184.out) (by decide)) hk (fun _ h => h.2)) (fun _ h => h.1)); replace HO195 := Aside0.mk (Kd.R_mono (Kd.R_keep (IsS215.apart (show IsS215 w0 _ g s0_0 t191 t192 from r0_ HI0.out) (rk_ HO195.out) (by decide)) hk (fun _ h => h.2)) (fun _ h => h.1)); replace HK := Aside0.mk (KeepBut.trans (r3_ HK.out) hk (.inl rfl)); replace HB := Aside0.mk (hb); replace HI0 := Aside0.mk (hi); (try clear hb); (try clear hb2); (try clear hk); (try clear hi); have p9 : 0 ≤ (t187 : Int) := od_; have q9 : (t187 : Int) < ((t182.length : Int) : Int) := od_; obtain ⟨go9, co9, eo9, gb9, gl9, cl9, HG9⟩ := Kd.R_form HO184.out (by omega); (first | cases eo9 | (injection eo9 with ea_ en_ ec_; (first | subst ea_ | (injection ea_ with ea_; subst ea_)); subst ec_; clear en_)); have GB9 := Aside0.mk gb9; have GG9 := Aside0.mk HG9; clear gb9 gl9 HG9; obtain ⟨ce9, hcl9, hM9, hcc9, hfr9⟩ := Kd.R_elem HO184.out z200 (t187 : Int) p9 q9; obtain rfl := k200_openM hM9; have hx9_0 : w17.cell? ⟨go9, (t187 : Int).toNat * 2, none⟩ = some (.int .i64 ((rd_T200 t182 t187).f0)) := hcc9 0 _ rfl; have hx9_1 : w17.cell? ⟨go9, (t187 : Int).toNat * 2 + 1, none⟩ = some (.int .i64 ((rd_T200 t182 t187).f1)) := hcc9 1 _ rfl; have hf9_0 : w17.frozen? ⟨go9, (t187 : Int).toNat * 2, none⟩ = false := hfr9 0; have hf9_1 : w17.frozen? ⟨go9, (t187 : Int).toNat * 2 + 1, none⟩ = false := hfr9 1; clear hcl9 hcc9 hfr9 hM9; replace p9 := eq_true p9; replace q9 := eq_true q9; have HX18 := Aside0.mk (show Kd.R k200 200 w17 w.heap.size (fun _ => True) (.slice (some ⟨go9, 0, none⟩) t182.length co11) t182 from (rk_ HO184.out)); obtain ⟨ce18, hcl18, hM18, hcc18, hfr18⟩ := Kd.R_elem HX18.out z200 (t187 : Int) od_ (by have h_ : (t187 : Int) < ((t182.length : Int) : Int) := od_; first | exact h_ | (have e_ := (Kd.R_reads' HO184.out).1; omega) | simpa using h_); obtain rfl := k200_openM hM18; have HP18 := Kd.R_seg HX18.out (t187 : Int) od_ (by have h_ : (t187 : Int) < ((t182.length : Int) : Int) := od_; first | exact h_ | (have e_ := (Kd.R_reads' HO184.out).1; omega) | simpa using h_) (seg := [.int .i64 t196]) (j := 0) hcl18 hcc18 (show 1 ≤ 2 from by decide) (x' := (⟨t196, (rd_T200 t182 t187).f1⟩ : S200)) (k200_mkM _ _ _ (⟨t196, (rd_T200 t182 t187).f1⟩ : S200) ) (fun _ hk => hk); have hx18_0 := hcc18 0 _ rfl; (try simp only [show (k200).sz = 2 from rfl, Nat.mul_one, Nat.add_zero] at hx18_0); have hf18_0 := hfr18 0; (try simp only [show (k200).sz = 2 from rfl, Nat.mul_one, Nat.add_zero] at hf18_0); clear hcl18 hcc18 hfr18 hM18) | ((with_reducible refine gate_store (t := 2) (p := 24) rfl ?_); refine store_event (t := 2) (p := 24) (v := ?vo_w19) (w1 := (w17.setCell ⟨go9, (t187 : Int).toNat * 2, none⟩ (.int .i64 t196))) ?hg ?ho ?hn ?hr ?_; (case ho => rfl); (case hg => rfl); (case hn => rfl); (case hr => first | (go_simp; done) | (go_simp; rfl)); intro w19 hw; have hg : w17.grownBy w19 (some go9) := (by rw [hw]; exact HP18.2); have hp_ : Kd.R k200 200 w19 w.heap.size (fun _ => True) (.slice (some ⟨go9, 0, none⟩) t182.length co11) y199 := (by rw [hw, Ny199.out]; exact HP18.1); clear HP18; replace HI0 := Aside0.mk (IsS215.grown (r0_ HI0.out) hg (IsS215.own_ne HI0.out HO184.out (by decide))); replace HO195 := Aside0.mk (Kd.R_over' (v := (.slice (some ⟨go9, 0, none⟩) t182.length co11)) (rk_ HO195.out) (Kd.R_typed HO184.out) (by decide) hg); replace HB := Aside0.mk ((by rw [hw]; exact below_set (HB.out) (Nat.le_trans HL.out GB9.out) : Below w0.heap.size w0 w19)); replace HK := Aside0.mk (KeepBut.trans (r3_ HK.out) (KeepBut.of_grown hg g) (Kd.R_base2 HO184.out)); replace HO184 := Aside0.mk (hp_); clear hg hw hp_))
  go_ret
  exact ⟨_, by first | rfl | (simp [errW_none, errW_some] <;> rfl) | (simp [*, errW_none, errW_some] <;> rfl), rk_ HO184.out, r0_ HI0.out, r1_ HB.out HI0.out, r3_ HK.out⟩
 ·rw [if_neg c5] at H
  have c5b0 : (t190 == 0) = false := beq_eq_false_iff_ne.mpr c5
  have c5b1 : (t190 != 0) = true := bne_iff_ne.mpr c5
  by_cases c20 : t190 = 1
  ·rw [if_pos c20] at H
   have c20b0 : (t190 == 1) = true := beq_iff_eq.mpr c20
   have c20b1 : (t190 != 1) = false := bne_eq_false_iff_eq.mpr c20
   clear c20
   obtain ⟨y200, hy200⟩ : ∃ y_ : List Int, y_ = (([(-1), 32, 33] : List Int)) := ⟨_, rfl⟩
   replace H : ((spec_l01Pick.f s0_0 t191 t192 y200).bind fun bt203 => (if 0 ≤ t187 then (if t187 < (t182.length : Int) then (some ((t182.set (t187 : Int).toNat (⟨(rd_T200 t182 t187).f0, bt203.1⟩ : S200)), bt203.2.1, bt203.2.2)) else (none)) else (none))) = some (r1, r2, r3) := by first | (rw [hy200]; with_reducible exact H) | (have H2_ := (Option.bind_some _ _).symm.trans H; rw [hy200]; with_reducible exact H2_) | (have H2_ := (Option.bind_some _ _).symm.trans H; with_reducible exact H2_) | with_reducible exact H | (rw [hy200]; exact H) | exact H
   have Ny200 := Aside0.mk hy200
   clear hy200
   replace H := Option.bind_eq_some_iff.mp H
   obtain ⟨⟨t203, t204, t205⟩, A210, H⟩ := H
   replace H : (if 0 ≤ t187 then (if t187 < (t182.length : Int) then (some ((t182.set (t187 : Int).toNat (⟨(rd_T200 t182 t187).f0, t203⟩ : S200)), t204, t205)) else (none)) else (none)) = some (r1, r2, r3) := H
   have A21 := Aside0.mk A210
   clear A210
   by_cases c22 : 0 ≤ t187
   case neg =>
    rw [if_neg c22] at H
    exact absurd H (by simp)
   rw [if_pos c22] at H
   have c22b0 : decide (0 ≤ t187) = true := decide_eq_true c22
   clear c22
   by_cases c23 : t187 < (t182.length : Int)
   case neg =>
    rw [if_neg c23] at H
    exact absurd H (by simp)
   rw [if_pos c23] at H
   have c23b0 : decide (t187 < (t182.length : Int)) = true := decide_eq_true c23
   clear c23
   obtain ⟨y206, hy206⟩ : ∃ y_ : List (S200), y_ = (t182.set (t187 : Int).toNat (⟨(rd_T200 t182 t187).f0, t203⟩ : S200)) := ⟨_, rfl⟩
   replace H : (some (y206, t204, t205)) = some (r1, r2, r3) := by first | (rw [hy206]; with_reducible exact H) | (have H2_ := (Option.bind_some _ _).symm.trans H; rw [hy206]; with_reducible exact H2_) | (have H2_ := (Option.bind_some _ _).symm.trans H; with_reducible exact H2_) | with_reducible exact H | (rw [hy206]; exact H) | exact H
   have Ny206 := Aside0.mk hy206
   clear hy206
   simp only [Option.some.injEq, Prod.mk.injEq] at H
   obtain ⟨rfl, rfl, rfl⟩ := H
   go_enter Try.func201, Try.ntmps201
   go_wp2_with (first | ((with_reducible refine gate_callee (f := 220) rfl ?_); refine goesL_ (some 6) rfl rfl Try.func220 (by kernel_rfl) rfl #[.pointer (some ⟨g, 0, none⟩)] rfl ag_ ?_; (with_reducible refine (spec_l12Good.calls k g s0_0 s0_1 s0_2 t182 t185 t186 w0 _ ?side1 ?side2 A2.out).mono ?_); (case side1 => exact r0_ HI0.out); (case side2 => exact r1_ HB.out HI0.out); rintro e w25 ⟨v183, rfl, ho0, hi, hb, hk⟩; refine ⟨_, rfl, ?_⟩; have HO184 := Aside0.mk (Kd.R_lower ho0 (keep_size (w := w) (g := g) (row := none) (r3_ HK.out))); replace HK := Aside0.mk (KeepBut.trans (r3_ HK.out) hk (.inl rfl)); replace HB := Aside0.mk (hb); replace HI0 := Aside0.mk (hi); (try clear hb); (try clear hb2); (try clear hk); (try clear hi); (try clear ho0); obtain ⟨Ao26, co26, eo26⟩ := Kd.R_slice HO184.out; subst eo26) | ((with_reducible refine gate_callee (f := 129) rfl ?_); refine goesL_ (some 10) rfl rfl Try.func129 (by kernel_rfl) rfl #[.pointer (some ⟨g, 0, none⟩), .int .i64 (t182.length : Int)] rfl ag_ ?_; (with_reducible refine (spec_l01Next.calls g s0_0 t185 t186 (t182.length : Int) t187 t188 t189 w0 _ ?side1 ?side2 A3.out).mono ?_); (case side1 => exact r0_ HI0.out); (case side2 => exact r1_ HB.out HI0.out); rintro e w27 ⟨rfl, hi, hb, hk⟩; refine ⟨_, rfl, ?_⟩; replace HO184 := Aside0.mk (Kd.R_mono (Kd.R_keep (IsS215.apart (show IsS215 w0 _ g s0_0 t185 t186 from r0_ HI0.out) (rk_ HO184.out) (by decide)) hk (fun _ h => h.2)) (fun _ h => h.1)); replace HK := Aside0.mk (KeepBut.trans (r3_ HK.out) hk (.inl rfl)); replace HB := Aside0.mk (hb); replace HI0 := Aside0.mk (hi); (try clear hb); (try clear hb2); (try clear hk); (try clear hi)) | ((with_reducible refine gate_callee (f := 129) rfl ?_); refine goesL_ (some 12) rfl rfl Try.func129 (by kernel_rfl) rfl #[.pointer (some ⟨g, 0, none⟩), .int .i64 40] rfl ag_ ?_; (with_reducible refine (spec_l01Next.calls g s0_0 t188 t189 40 t190 t191 t192 w0 _ ?side1 ?side2 A4.out).mono ?_); (case side1 => exact r0_ HI0.out); (case side2 => exact r1_ HB.out HI0.out); rintro e w28 ⟨rfl, hi, hb, hk⟩; refine ⟨_, rfl, ?_⟩; replace HO184 := Aside0.mk (Kd.R_mono (Kd.R_keep (IsS215.apart (show IsS215 w0 _ g s0_0 t188 t189 from r0_ HI0.out) (rk_ HO184.out) (by decide)) hk (fun _ h => h.2)) (fun _ h => h.1)); replace HK := Aside0.mk (KeepBut.trans (r3_ HK.out) hk (.inl rfl)); replace HB := Aside0.mk (hb); replace HI0 := Aside0.mk (hi); (try clear hb); (try clear hb2); (try clear hk); (try clear hi)) | ((with_reducible refine gate_dst (N := 30) rfl ?_); refine Kd.R_lit (Kd.int .i64) _ 2 ?hg (N := 30) ?hd (xs := ([(-1), 32, 33] : List Int)) (inner := [.int .i64 (-1), .int .i64 32, .int .i64 33]) (ok := fun _ => True) (okp := fun _ => True) ?hr ?hp (fun _ hk => hk) trivial (Below.refl _ _) (Nat.le_refl _) (by simp) ?_; (case hd => rfl); (case hg => rfl); (case hr => first | (go_simp; done) | (go_simp; rfl)); (case hp => exact (Reps.one (show Kd.M (Kd.int .i64) _ _ _ (-1) [.int .i64 (-1)] from rfl) (Reps.one (show Kd.M (Kd.int .i64) _ _ _ 32 [.int .i64 32] from rfl) (Reps.one (show Kd.M (Kd.int .i64) _ _ _ 33 [.int .i64 33] from rfl) (Reps.none _ _))))); intro v201 w29 ho30 hb hg_ hnew_; clear hg_ hnew_; (first | rw [← Ny200.out] at ho30 | (simp only [Int.reduceToNat] at ho30; rw [← Ny200.out] at ho30)); replace HO184 := Aside0.mk (Kd.R_below (rk_ HO184.out) hb); have HO202 := Aside0.mk (Kd.R_lower ho30 (keep_size (w := w) (g := g) (row := none) (r3_ HK.out))); replace HK := Aside0.mk (KeepBut.trans (r3_ HK.out) (KeepBut.of_below hb g none) (.inl rfl)); replace HB := Aside0.mk (below_step (r1_ HB.out HI0.out) hb); replace HI0 := Aside0.mk (IsS215.below (r0_ HI0.out) hb); clear hb ho30; obtain ⟨Ao31, co31, eo31⟩ := Kd.R_slice HO202.out; subst eo31) | ((with_reducible refine gate_callee (f := 145) rfl ?_); refine goesL_ (some 31) rfl rfl Try.func145 (by kernel_rfl) rfl #[.pointer (some ⟨g, 0, none⟩), .slice Ao31 y200.length co31] rfl ag_ ?_; (with_reducible refine (spec_l01Pick.calls g s0_0 t191 t192 _ _ y200 t203 t204 t205 w0 _ ?side1 ?side2 ?side3 ?side4 ?side5 A21.out).mono ?_); (case side1 => exact r0_ HI0.out); (case side2 => exact r1_ HB.out HI0.out); (case side3 => exact r7_ HO202.out); (case side4 => exact (Kd.R_reads' HO202.out).2.1); (case side5 => exact far_slice (IsS215.own_ne HI0.out HO202.out (by decide))); rintro e w32 ⟨rfl, hi, hb, hk⟩; refine ⟨_, rfl, ?_⟩; replace HO184 := Aside0.mk (Kd.R_mono (Kd.R_keep (IsS215.apart (show IsS215 w0 _ g s0_0 t191 t192 from r0_ HI0.out) (rk_ HO184.out) (by decide)) hk (fun _ h => h.2)) (fun _ h => h.1)); replace HO202 := Aside0.mk (Kd.R_mono (Kd.R_keep (IsS215.apart (show IsS215 w0 _ g s0_0 t191 t192 from r0_ HI0.out) (rk_ HO202.out) (by decide)) hk (fun _ h => h.2)) (fun _ h => h.1)); replace HK := Aside0.mk (KeepBut.trans (r3_ HK.out) hk (.inl rfl)); replace HB := Aside0.mk (hb); replace HI0 := Aside0.mk (hi); (try clear hb); (try clear hb2); (try clear hk); (try clear hi); have p24 : 0 ≤ (t187 : Int) := od_; have q24 : (t187 : Int) < ((t182.length : Int) : Int) := od_; obtain ⟨go24, co24, eo24, gb24, gl24, cl24, HG24⟩ := Kd.R_form HO184.out (by omega); (first | cases eo24 | (injection eo24 with ea_ en_ ec_; (first | subst ea_ | (injection ea_ with ea_; subst ea_)); subst ec_; clear en_)); have GB24 := Aside0.mk gb24; have GG24 := Aside0.mk HG24; clear gb24 gl24 HG24; obtain ⟨ce24, hcl24, hM24, hcc24, hfr24⟩ := Kd.R_elem HO184.out z200 (t187 : Int) p24 q24; obtain rfl := k200_openM hM24; have hx24_0 : w32.cell? ⟨go24, (t187 : Int).toNat * 2, none⟩ = some (.int .i64 ((rd_T200 t182 t187).f0)) := hcc24 0 _ rfl; have hx24_1 : w32.cell? ⟨go24, (t187 : Int).toNat * 2 + 1, none⟩ = some (.int .i64 ((rd_T200 t182 t187).f1)) := hcc24 1 _ rfl; have hf24_0 : w32.frozen? ⟨go24, (t187 : Int).toNat * 2, none⟩ = false := hfr24 0; have hf24_1 : w32.frozen? ⟨go24, (t187 : Int).toNat * 2 + 1, none⟩ = false := hfr24 1; clear hcl24 hcc24 hfr24 hM24; replace p24 := eq_true p24; replace q24 := eq_true q24; have HX33 := Aside0.mk (show Kd.R k200 200 w32 w.heap.size (fun _ => True) (.slice (some ⟨go24, 0, none⟩) t182.length co26) t182 from (rk_ HO184.out)); obtain ⟨ce33, hcl33, hM33, hcc33, hfr33⟩ := Kd.R_elem HX33.out z200 (t187 : Int) od_ (by have h_ : (t187 : Int) < ((t182.length : Int) : Int) := od_; first | exact h_ | (have e_ := (Kd.R_reads' HO184.out).1; omega) | simpa using h_); obtain rfl := k200_openM hM33; have HP33 := Kd.R_seg HX33.out (t187 : Int) od_ (by have h_ : (t187 : Int) < ((t182.length : Int) : Int) := od_; first | exact h_ | (have e_ := (Kd.R_reads' HO184.out).1; omega) | simpa using h_) (seg := [.int .i64 t203]) (j := 1) hcl33 hcc33 (show 2 ≤ 2 from by decide) (x' := (⟨(rd_T200 t182 t187).f0, t203⟩ : S200)) (k200_mkM _ _ _ (⟨(rd_T200 t182 t187).f0, t203⟩ : S200) ) (fun _ hk => hk); have hx33_1 := hcc33 1 _ rfl; (try simp only [show (k200).sz = 2 from rfl, Nat.mul_one, Nat.add_zero] at hx33_1); have hf33_1 := hfr33 1; (try simp only [show (k200).sz = 2 from rfl, Nat.mul_one, Nat.add_zero] at hf33_1); clear hcl33 hcc33 hfr33 hM33) | ((with_reducible refine gate_store (t := 2) (p := 33) rfl ?_); refine store_event (t := 2) (p := 33) (v := ?vo_w34) (w1 := (w32.setCell ⟨go24, (t187 : Int).toNat * 2 + 1, none⟩ (.int .i64 t203))) ?hg ?ho ?hn ?hr ?_; (case ho => rfl); (case hg => rfl); (case hn => rfl); (case hr => first | (go_simp; done) | (go_simp; rfl)); intro w34 hw; have hg : w32.grownBy w34 (some go24) := (by rw [hw]; exact HP33.2); have hp_ : Kd.R k200 200 w34 w.heap.size (fun _ => True) (.slice (some ⟨go24, 0, none⟩) t182.length co26) y206 := (by rw [hw, Ny206.out]; exact HP33.1); clear HP33; replace HI0 := Aside0.mk (IsS215.grown (r0_ HI0.out) hg (IsS215.own_ne HI0.out HO184.out (by decide))); replace HO202 := Aside0.mk (Kd.R_over' (v := (.slice (some ⟨go24, 0, none⟩) t182.length co26)) (rk_ HO202.out) (Kd.R_typed HO184.out) (by decide) hg); replace HB := Aside0.mk ((by rw [hw]; exact below_set (HB.out) (Nat.le_trans HL.out GB24.out) : Below w0.heap.size w0 w34)); replace HK := Aside0.mk (KeepBut.trans (r3_ HK.out) (KeepBut.of_grown hg g) (Kd.R_base2 HO184.out)); replace HO184 := Aside0.mk (hp_); clear hg hw hp_))
   go_ret
   exact ⟨_, by first | rfl | (simp [errW_none, errW_some] <;> rfl) | (simp [*, errW_none, errW_some] <;> rfl), rk_ HO184.out, r0_ HI0.out, r1_ HB.out HI0.out, r3_ HK.out⟩
  ·rw [if_neg c20] at H
   have c20b0 : (t190 == 1) = false := beq_eq_false_iff_ne.mpr c20
   have c20b1 : (t190 != 1) = true := bne_iff_ne.mpr c20
   by_cases c35 : t190 = 2
   ·rw [if_pos c35] at H
    have c35b0 : (t190 == 2) = true := beq_iff_eq.mpr c35
    have c35b1 : (t190 != 2) = false := bne_eq_false_iff_eq.mpr c35
    clear c35
    have H' := Aside0.mk H
    clear H
    go_enter Try.func201, Try.ntmps201
    go_wp2_with (first | ((with_reducible refine gate_callee (f := 220) rfl ?_); refine goesL_ (some 6) rfl rfl Try.func220 (by kernel_rfl) rfl #[.pointer (some ⟨g, 0, none⟩)] rfl ag_ ?_; (with_reducible refine (spec_l12Good.calls k g s0_0 s0_1 s0_2 t182 t185 t186 w0 _ ?side1 ?side2 A2.out).mono ?_); (case side1 => exact r0_ HI0.out); (case side2 => exact r1_ HB.out HI0.out); rintro e w36 ⟨v183, rfl, ho0, hi, hb, hk⟩; refine ⟨_, rfl, ?_⟩; have HO184 := Aside0.mk (Kd.R_lower ho0 (keep_size (w := w) (g := g) (row := none) (r3_ HK.out))); replace HK := Aside0.mk (KeepBut.trans (r3_ HK.out) hk (.inl rfl)); replace HB := Aside0.mk (hb); replace HI0 := Aside0.mk (hi); (try clear hb); (try clear hb2); (try clear hk); (try clear hi); (try clear ho0); obtain ⟨Ao37, co37, eo37⟩ := Kd.R_slice HO184.out; subst eo37) | ((with_reducible refine gate_callee (f := 129) rfl ?_); refine goesL_ (some 10) rfl rfl Try.func129 (by kernel_rfl) rfl #[.pointer (some ⟨g, 0, none⟩), .int .i64 (t182.length : Int)] rfl ag_ ?_; (with_reducible refine (spec_l01Next.calls g s0_0 t185 t186 (t182.length : Int) t187 t188 t189 w0 _ ?side1 ?side2 A3.out).mono ?_); (case side1 => exact r0_ HI0.out); (case side2 => exact r1_ HB.out HI0.out); rintro e w38 ⟨rfl, hi, hb, hk⟩; refine ⟨_, rfl, ?_⟩; replace HO184 := Aside0.mk (Kd.R_mono (Kd.R_keep (IsS215.apart (show IsS215 w0 _ g s0_0 t185 t186 from r0_ HI0.out) (rk_ HO184.out) (by decide)) hk (fun _ h => h.2)) (fun _ h => h.1)); replace HK := Aside0.mk (KeepBut.trans (r3_ HK.out) hk (.inl rfl)); replace HB := Aside0.mk (hb); replace HI0 := Aside0.mk (hi); (try clear hb); (try clear hb2); (try clear hk); (try clear hi)) | ((with_reducible refine gate_callee (f := 129) rfl ?_); refine goesL_ (some 12) rfl rfl Try.func129 (by kernel_rfl) rfl #[.pointer (some ⟨g, 0, none⟩), .int .i64 40] rfl ag_ ?_; (with_reducible refine (spec_l01Next.calls g s0_0 t188 t189 40 t190 t191 t192 w0 _ ?side1 ?side2 A4.out).mono ?_); (case side1 => exact r0_ HI0.out); (case side2 => exact r1_ HB.out HI0.out); rintro e w39 ⟨rfl, hi, hb, hk⟩; refine ⟨_, rfl, ?_⟩; replace HO184 := Aside0.mk (Kd.R_mono (Kd.R_keep (IsS215.apart (show IsS215 w0 _ g s0_0 t188 t189 from r0_ HI0.out) (rk_ HO184.out) (by decide)) hk (fun _ h => h.2)) (fun _ h => h.1)); replace HK := Aside0.mk (KeepBut.trans (r3_ HK.out) hk (.inl rfl)); replace HB := Aside0.mk (hb); replace HI0 := Aside0.mk (hi); (try clear hb); (try clear hb2); (try clear hk); (try clear hi)))
    go_loopg [3] k (fun kq v3 w' => ∃ (x3_1 : List (S200)) (x1001_1 : Int) (x1002_1 : Int), Aside0 (spec_l12Draw.l0 kq x3_1 s0_0 x1001_1 x1002_1 = some (r1, r2, r3)) ∧ Aside0 (kq ≤ k) ∧ Aside0 (Kd.R k200 200 w' w.heap.size (fun _ => True) v3 x3_1) ∧ Aside0 (IsS215 w0 w' g s0_0 x1001_1 x1002_1) ∧ Aside0 (KeepBut w w' g none) ∧ Aside0 (Below w0.heap.size w0 w'))
    case atStart => exact ⟨(t182), (t191), (t192), H', ⟨Nat.le_refl _⟩, ⟨rk_ HO184.out⟩, ⟨r0_ HI0.out⟩, ⟨r3_ HK.out⟩, ⟨r1_ HB.out HI0.out⟩⟩
    case round =>
     clear H'
     try clear c1
     try clear hx1
     try clear hf1
     try clear c2
     try clear p2
     try clear q2
     try clear hx2
     try clear hf2
     try clear c3
     try clear hx3
     try clear hf3
     try clear c5
     try clear c5b0
     try clear c5b1
     try clear p6
     try clear c7
     try clear c7b0
     try clear c8
     try clear c8b0
     try clear c9
     try clear p9
     try clear q9
     try clear hx9
     try clear hf9
     try clear c12
     try clear c14
     try clear c18
     try clear hx18
     try clear hf18
     try clear c20
     try clear c20b0
     try clear c20b1
     try clear c22
     try clear c22b0
     try clear c23
     try clear c23b0
     try clear c24
     try clear p24
     try clear q24
     try clear hx24
     try clear hf24
     try clear c33
     try clear hx33
     try clear hf33
     try clear c35
     try clear c35b0
     try clear c35b1
     try clear hx18_0
     try clear hx24_0
     try clear hx24_1
     try clear hx33_1
     try clear hx9_0
     try clear hx9_1
     try clear p24
     try clear p9
     try clear q24
     try clear q9
     obtain ⟨x3_1, x1001_1, x1002_1, HA, HK1, HO_3, HI0, HK, HB⟩ := hrel
     cases gk with
     | zero => exact absurd HA.out (by simp [spec_l12Draw.l0])
     | succ k1 =>
      have H := HA.out
      clear HA
      simp only [spec_l12Draw.l0] at H
      replace H := Option.bind_eq_some_iff.mp H
      obtain ⟨⟨t207, t208, t209⟩, A400, H⟩ := H
      replace H : (if (x3_1.length : Int) < (wrap64 (12 + t207)) then (if x3_1.length < 8796093022208 then (spec_l12Draw.l0 k1 (x3_1 ++ [(⟨0, 1⟩ : S200)]) s0_0 t208 t209) else (none)) else (some (x3_1, t208, t209))) = some (r1, r2, r3) := H
      have A40 := Aside0.mk A400
      clear A400
      by_cases c41 : (x3_1.length : Int) < (wrap64 (12 + t207))
      ·rw [if_pos c41] at H
       have c41b0 : decide ((x3_1.length : Int) < (wrap64 (12 + t207))) = true := decide_eq_true c41
       clear c41
       by_cases c42 : x3_1.length < 8796093022208
       case neg =>
        rw [if_neg c42] at H
        exact absurd H (by simp)
       rw [if_pos c42] at H
       have LMc42 := Aside0.mk c42
       clear c42
       obtain ⟨y210, hy210⟩ : ∃ y_ : List (S200), y_ = (x3_1 ++ [(⟨0, 1⟩ : S200)]) := ⟨_, rfl⟩
       replace H : (spec_l12Draw.l0 k1 y210 s0_0 t208 t209) = some (r1, r2, r3) := by first | (rw [hy210]; with_reducible exact H) | (have H2_ := (Option.bind_some _ _).symm.trans H; rw [hy210]; with_reducible exact H2_) | (have H2_ := (Option.bind_some _ _).symm.trans H; with_reducible exact H2_) | with_reducible exact H | (rw [hy210]; exact H) | exact H
       have Ny210 := Aside0.mk hy210
       clear hy210
       have H' := Aside0.mk H
       clear H
       obtain ⟨Ao43, co43, eo43⟩ := Kd.R_slice HO_3.out
       subst eo43
       go_wp2_with (first | ((with_reducible refine gate_callee (f := 129) rfl ?_); refine goesL_ (some 39) rfl rfl Try.func129 (by kernel_rfl) rfl #[.pointer (some ⟨g, 0, none⟩), .int .i64 2] rfl ag_ ?_; (with_reducible refine (spec_l01Next.calls g s0_0 x1001_1 x1002_1 2 t207 t208 t209 w0 _ ?side1 ?side2 A40.out).mono ?_); (case side1 => exact r0_ HI0.out); (case side2 => exact r1_ HB.out HI0.out); rintro e w44 ⟨rfl, hi, hb, hk⟩; refine ⟨_, rfl, ?_⟩; replace HO_3 := Aside0.mk (Kd.R_mono (Kd.R_keep (IsS215.apart (show IsS215 w0 _ g s0_0 x1001_1 x1002_1 from r0_ HI0.out) (rk_ HO_3.out) (by decide)) hk (fun _ h => h.2)) (fun _ h => h.1)); replace HK := Aside0.mk (KeepBut.trans (r3_ HK.out) hk (.inl rfl)); replace HB := Aside0.mk (hb); replace HI0 := Aside0.mk (hi); (try clear hb); (try clear hb2); (try clear hk); (try clear hi)) | ((with_reducible refine gate_builtin (b := .append) (xs := #[.tmp 42, .tmp 44]) rfl ?_); at_builtin; refine Kd.R_append k200 w.heap.size rfl (.tmp 42) (.tmp 44) 43 200 (.agg #[(.int .i64 0), (.int .i64 0)]) 16 rfl Try.underlying43 info200 rfl (by decide) (by omega) (.slice Ao43 x3_1.length co43) x3_1 (⟨0, 1⟩ : S200) [.int .i64 0, .int .i64 1] (fun _ => True) (fun _ => False) rfl rfl ?aP (fun _ hk => hk.elim) ?aF ?aO (Below.refl _ _) ?aS ?aL ?_; (case aP => exact k200_mkM _ _ _ (⟨0, 1⟩ : S200)); (case aF => exact (fun _ _ => trivial)); (case aO => exact (rk_ HO_3.out)); (case aS => exact (keep_size (w := w) (g := g) (row := none) (r3_ HK.out))); (case aL => have := LMc42.out; omega); intro v211 w45 ho hb hg hat; rw [← Ny210.out] at ho; have n0_ := Aside0.mk (IsS215.grown (r0_ HI0.out) hg (IsS215.own_ne HI0.out HO_3.out (by decide))); have n1_ := Aside0.mk (below_weaken (r1_ HB.out HI0.out) HL.out hb); have n2_ := Aside0.mk (KeepBut.trans (r3_ HK.out) (KeepBut.of_grown hg g) (Kd.R_base2 HO_3.out)); have n3_ := Aside0.mk (ho); clear HI0; clear HB; clear HK; clear HO_3; have HI0 := n0_; have HB := n1_; have HK := n2_; have HO212 := n3_; clear n0_ n1_ n2_ n3_; clear ho hb hg hat))
       go_roundg k1
       case measure => have := HK1.out; omega
       case rel => exact ⟨(y210), (t208), (t209), H', ⟨by have := HK1.out; omega⟩, ⟨rk_ HO212.out⟩, ⟨r0_ HI0.out⟩, ⟨r3_ HK.out⟩, ⟨r1_ HB.out HI0.out⟩⟩
      ·rw [if_neg c41] at H
       have c41b0 : decide ((x3_1.length : Int) < (wrap64 (12 + t207))) = false := decide_eq_false c41
       clear c41
       simp only [Option.some.injEq, Prod.mk.injEq] at H
       obtain ⟨rfl, rfl, rfl⟩ := H
       obtain ⟨Ao46, co46, eo46⟩ := Kd.R_slice HO_3.out
       subst eo46
       go_wp2_with (first | ((with_reducible refine gate_callee (f := 129) rfl ?_); refine goesL_ (some 39) rfl rfl Try.func129 (by kernel_rfl) rfl #[.pointer (some ⟨g, 0, none⟩), .int .i64 2] rfl ag_ ?_; (with_reducible refine (spec_l01Next.calls g s0_0 x1001_1 x1002_1 2 t207 t208 t209 w0 _ ?side1 ?side2 A40.out).mono ?_); (case side1 => exact r0_ HI0.out); (case side2 => exact r1_ HB.out HI0.out); rintro e w47 ⟨rfl, hi, hb, hk⟩; refine ⟨_, rfl, ?_⟩; replace HO_3 := Aside0.mk (Kd.R_mono (Kd.R_keep (IsS215.apart (show IsS215 w0 _ g s0_0 x1001_1 x1002_1 from r0_ HI0.out) (rk_ HO_3.out) (by decide)) hk (fun _ h => h.2)) (fun _ h => h.1)); replace HK := Aside0.mk (KeepBut.trans (r3_ HK.out) hk (.inl rfl)); replace HB := Aside0.mk (hb); replace HI0 := Aside0.mk (hi); (try clear hb); (try clear hb2); (try clear hk); (try clear hi)))
       go_ret
       exact ⟨_, by first | rfl | (simp [errW_none, errW_some] <;> rfl) | (simp [*, errW_none, errW_some] <;> rfl), rk_ HO_3.out, r0_ HI0.out, r1_ HB.out HI0.out, r3_ HK.out⟩
   ·rw [if_neg c35] at H
    have c35b0 : (t190 == 2) = false := beq_eq_false_iff_ne.mpr c35
    have c35b1 : (t190 != 2) = true := bne_iff_ne.mpr c35
    by_cases c48 : t190 = 3
    ·rw [if_pos c48] at H
     have c48b0 : (t190 == 3) = true := beq_iff_eq.mpr c48
     have c48b1 : (t190 != 3) = false := bne_eq_false_iff_eq.mpr c48
     clear c48
     by_cases c49 : 0 ≤ (t182.length : Int)
     case neg =>
      rw [if_neg c49] at H
      exact absurd H (by simp)
     rw [if_pos c49] at H
     have c49b0 := eq_true c49
     have c49b1 : decide (0 ≤ (t182.length : Int)) = true := decide_eq_true c49
     clear c49
     obtain ⟨y213, hy213⟩ : ∃ y_ : List (S200), y_ = (t182.take (0 : Int).toNat) := ⟨_, rfl⟩
     replace H : (some (y213, t191, t192)) = some (r1, r2, r3) := by first | (rw [hy213]; with_reducible exact H) | (have H2_ := (Option.bind_some _ _).symm.trans H; rw [hy213]; with_reducible exact H2_) | (have H2_ := (Option.bind_some _ _).symm.trans H; with_reducible exact H2_) | with_reducible exact H | (rw [hy213]; exact H) | exact H
     have Ny213 := Aside0.mk hy213
     clear hy213
     simp only [Option.some.injEq, Prod.mk.injEq] at H
     obtain ⟨rfl, rfl, rfl⟩ := H
     go_enter Try.func201, Try.ntmps201
     go_wp2_with (first | ((with_reducible refine gate_callee (f := 220) rfl ?_); refine goesL_ (some 6) rfl rfl Try.func220 (by kernel_rfl) rfl #[.pointer (some ⟨g, 0, none⟩)] rfl ag_ ?_; (with_reducible refine (spec_l12Good.calls k g s0_0 s0_1 s0_2 t182 t185 t186 w0 _ ?side1 ?side2 A2.out).mono ?_); (case side1 => exact r0_ HI0.out); (case side2 => exact r1_ HB.out HI0.out); rintro e w50 ⟨v183, rfl, ho0, hi, hb, hk⟩; refine ⟨_, rfl, ?_⟩; have HO184 := Aside0.mk (Kd.R_lower ho0 (keep_size (w := w) (g := g) (row := none) (r3_ HK.out))); replace HK := Aside0.mk (KeepBut.trans (r3_ HK.out) hk (.inl rfl)); replace HB := Aside0.mk (hb); replace HI0 := Aside0.mk (hi); (try clear hb); (try clear hb2); (try clear hk); (try clear hi); (try clear ho0); obtain ⟨Ao51, co51, eo51⟩ := Kd.R_slice HO184.out; subst eo51) | ((with_reducible refine gate_callee (f := 129) rfl ?_); refine goesL_ (some 10) rfl rfl Try.func129 (by kernel_rfl) rfl #[.pointer (some ⟨g, 0, none⟩), .int .i64 (t182.length : Int)] rfl ag_ ?_; (with_reducible refine (spec_l01Next.calls g s0_0 t185 t186 (t182.length : Int) t187 t188 t189 w0 _ ?side1 ?side2 A3.out).mono ?_); (case side1 => exact r0_ HI0.out); (case side2 => exact r1_ HB.out HI0.out); rintro e w52 ⟨rfl, hi, hb, hk⟩; refine ⟨_, rfl, ?_⟩; replace HO184 := Aside0.mk (Kd.R_mono (Kd.R_keep (IsS215.apart (show IsS215 w0 _ g s0_0 t185 t186 from r0_ HI0.out) (rk_ HO184.out) (by decide)) hk (fun _ h => h.2)) (fun _ h => h.1)); replace HK := Aside0.mk (KeepBut.trans (r3_ HK.out) hk (.inl rfl)); replace HB := Aside0.mk (hb); replace HI0 := Aside0.mk (hi); (try clear hb); (try clear hb2); (try clear hk); (try clear hi)) | ((with_reducible refine gate_callee (f := 129) rfl ?_); refine goesL_ (some 12) rfl rfl Try.func129 (by kernel_rfl) rfl #[.pointer (some ⟨g, 0, none⟩), .int .i64 40] rfl ag_ ?_; (with_reducible refine (spec_l01Next.calls g s0_0 t188 t189 40 t190 t191 t192 w0 _ ?side1 ?side2 A4.out).mono ?_); (case side1 => exact r0_ HI0.out); (case side2 => exact r1_ HB.out HI0.out); rintro e w53 ⟨rfl, hi, hb, hk⟩; refine ⟨_, rfl, ?_⟩; replace HO184 := Aside0.mk (Kd.R_mono (Kd.R_keep (IsS215.apart (show IsS215 w0 _ g s0_0 t188 t189 from r0_ HI0.out) (rk_ HO184.out) (by decide)) hk (fun _ h => h.2)) (fun _ h => h.1)); replace HK := Aside0.mk (KeepBut.trans (r3_ HK.out) hk (.inl rfl)); replace HB := Aside0.mk (hb); replace HI0 := Aside0.mk (hi); (try clear hb); (try clear hb2); (try clear hk); (try clear hi); have q54 : (0 : Int) ≤ ((t182.length : Int) : Int) := od_; obtain ⟨i054, hi054, _, hsz54, _⟩ := info_parts info200; have hcut54 := cut_to (P := Try.prog) 43 200 .i64 Try.underlying43 hi054 Ao51 t182.length co51 0 (by omega) q54 (Kd.R_reads' HO184.out).2.1; have hr54 := Kd.R_take (m := (0 : Int).toNat) HO184.out (by omega); have hy54 : y213.length = (0 : Int).toNat := (by rw [Ny213.out, List.length_take]; omega); rw [← Ny213.out] at hr54; rw [← hy54] at hr54 hcut54; clear hy54 hi054 hsz54 HO184; have HO215 := Aside0.mk hr54; clear hr54; replace q54 := eq_true q54))
     go_ret
     exact ⟨_, by first | rfl | (simp [errW_none, errW_some] <;> rfl) | (simp [*, errW_none, errW_some] <;> rfl), rk_ HO215.out, r0_ HI0.out, r1_ HB.out HI0.out, r3_ HK.out⟩
    ·rw [if_neg c48] at H
     have c48b0 : (t190 == 3) = false := beq_eq_false_iff_ne.mpr c48
     have c48b1 : (t190 != 3) = true := bne_iff_ne.mpr c48
     simp only [Option.some.injEq, Prod.mk.injEq] at H
     obtain ⟨rfl, rfl, rfl⟩ := H
     go_enter Try.func201, Try.ntmps201
     go_wp2_with (first | ((with_reducible refine gate_callee (f := 220) rfl ?_); refine goesL_ (some 6) rfl rfl Try.func220 (by kernel_rfl) rfl #[.pointer (some ⟨g, 0, none⟩)] rfl ag_ ?_; (with_reducible refine (spec_l12Good.calls k g s0_0 s0_1 s0_2 t182 t185 t186 w0 _ ?side1 ?side2 A2.out).mono ?_); (case side1 => exact r0_ HI0.out); (case side2 => exact r1_ HB.out HI0.out); rintro e w55 ⟨v183, rfl, ho0, hi, hb, hk⟩; refine ⟨_, rfl, ?_⟩; have HO184 := Aside0.mk (Kd.R_lower ho0 (keep_size (w := w) (g := g) (row := none) (r3_ HK.out))); replace HK := Aside0.mk (KeepBut.trans (r3_ HK.out) hk (.inl rfl)); replace HB := Aside0.mk (hb); replace HI0 := Aside0.mk (hi); (try clear hb); (try clear hb2); (try clear hk); (try clear hi); (try clear ho0); obtain ⟨Ao56, co56, eo56⟩ := Kd.R_slice HO184.out; subst eo56) | ((with_reducible refine gate_callee (f := 129) rfl ?_); refine goesL_ (some 10) rfl rfl Try.func129 (by kernel_rfl) rfl #[.pointer (some ⟨g, 0, none⟩), .int .i64 (t182.length : Int)] rfl ag_ ?_; (with_reducible refine (spec_l01Next.calls g s0_0 t185 t186 (t182.length : Int) t187 t188 t189 w0 _ ?side1 ?side2 A3.out).mono ?_); (case side1 => exact r0_ HI0.out); (case side2 => exact r1_ HB.out HI0.out); rintro e w57 ⟨rfl, hi, hb, hk⟩; refine ⟨_, rfl, ?_⟩; replace HO184 := Aside0.mk (Kd.R_mono (Kd.R_keep (IsS215.apart (show IsS215 w0 _ g s0_0 t185 t186 from r0_ HI0.out) (rk_ HO184.out) (by decide)) hk (fun _ h => h.2)) (fun _ h => h.1)); replace HK := Aside0.mk (KeepBut.trans (r3_ HK.out) hk (.inl rfl)); replace HB := Aside0.mk (hb); replace HI0 := Aside0.mk (hi); (try clear hb); (try clear hb2); (try clear hk); (try clear hi)) | ((with_reducible refine gate_callee (f := 129) rfl ?_); refine goesL_ (some 12) rfl rfl Try.func129 (by kernel_rfl) rfl #[.pointer (some ⟨g, 0, none⟩), .int .i64 40] rfl ag_ ?_; (with_reducible refine (spec_l01Next.calls g s0_0 t188 t189 40 t190 t191 t192 w0 _ ?side1 ?side2 A4.out).mono ?_); (case side1 => exact r0_ HI0.out); (case side2 => exact r1_ HB.out HI0.out); rintro e w58 ⟨rfl, hi, hb, hk⟩; refine ⟨_, rfl, ?_⟩; replace HO184 := Aside0.mk (Kd.R_mono (Kd.R_keep (IsS215.apart (show IsS215 w0 _ g s0_0 t188 t189 from r0_ HI0.out) (rk_ HO184.out) (by decide)) hk (fun _ h => h.2)) (fun _ h => h.1)); replace HK := Aside0.mk (KeepBut.trans (r3_ HK.out) hk (.inl rfl)); replace HB := Aside0.mk (hb); replace HI0 := Aside0.mk (hi); (try clear hb); (try clear hb2); (try clear hk); (try clear hi)))
     go_ret
     exact ⟨_, by first | rfl | (simp [errW_none, errW_some] <;> rfl) | (simp [*, errW_none, errW_some] <;> rfl), rk_ HO184.out, r0_ HI0.out, r1_ HB.out HI0.out, r3_ HK.out⟩
def spec_l13Draw.f (k : Nat) (s0_0 : List Int) (s0_1 : Int) (s0_2 : Int) : Option ((List (S200)) × Int × (List (S160)) × Int × Int) := (spec_l13Good.f k s0_0 s0_1 s0_2).bind fun bt216 => ((spec_l01Next.f s0_0 bt216.2.2.2.1 bt216.2.2.2.2 40).bind fun bt225 => (if bt225.1 = 0 then ((spec_l12Draw.f k s0_0 bt225.2.1 bt225.2.2).bind fun bt228 => (some (bt228.1, bt216.2.1, bt216.2.2.1, bt228.2.1, bt228.2.2))) else (if bt225.1 = 1 then ((spec_l01Pick.f s0_0 bt225.2.1 bt225.2.2 (([(-1), 0, 20, 21] : List Int))).bind fun bt236 => (some (bt216.1, bt236.1, bt216.2.2.1, bt236.2.1, bt236.2.2))) else (if bt225.1 = 2 then ((spec_l01Next.f s0_0 bt225.2.1 bt225.2.2 10).bind fun bt239 => ((spec_l01Next.f s0_0 bt239.2.1 bt239.2.2 3).bind fun bt242 => ((spec_l01Next.f s0_0 bt242.2.1 bt242.2.2 4).bind fun bt245 => (if bt216.2.2.1.length < 5864062014805 then (some (bt216.1, bt216.2.1, (bt216.2.2.1 ++ [(⟨wrap64 (bt239.1 - 1), bt242.1, bt245.1⟩ : S160)]), bt245.2.1, bt245.2.2)) else (none))))) else (if bt225.1 = 3 then (if (bt216.2.2.1.length : Int) > 0 then (if 0 < (bt216.2.2.1.length : Int) then (if bt216.2.2.1.length < 5864062014805 then (some (bt216.1, bt216.2.1, (bt216.2.2.1 ++ [(⟨(rd_T160 bt216.2.2.1 0).f0, (rd_T160 bt216.2.2.1 0).f1, (rd_T160 bt216.2.2.1 0).f2⟩ : S160)]), bt225.2.1, bt225.2.2)) else (none)) else (none)) else (some (bt216.1, bt216.2.1, bt216.2.2.1, bt225.2.1, bt225.2.2))) else (some (bt216.1, bt216.2.1, bt216.2.2.1, bt225.2.1, bt225.2.2)))))))
set_option maxHeartbeats 8000000 in
set_option maxRecDepth 100000 in
theorem spec_l13Draw.calls (k : Nat) (g : Nat) (s0_0 : List Int) (s0_1 : Int) (s0_2 : Int) (r1 : List (S200)) (r2 : Int) (r3 : List (S160)) (r4 : Int) (r5 : Int) (w0 w : World) (hI : IsS215 w0 w g s0_0 s0_1 s0_2) (hB : Below w0.heap.size w0 w) (h : spec_l13Draw.f k s0_0 s0_1 s0_2 = some (r1, r2, r3, r4, r5)) :
  Calls Try.prog 122 #[.pointer (some ⟨g, 0, none⟩)] w fun e w' => ∃ v0_ v2_ : Value, e = .returned (.tuple #[v0_, .int .i64 r2, v2_]) ∧ Kd.R k200 200 w' w.heap.size (fun _ => True) v0_ r1 ∧ Kd.R k160 160 w' w.heap.size (fun _ => True) v2_ r3 ∧ IsS215 w0 w' g s0_0 r4 r5 ∧ Below w0.heap.size w0 w' ∧ KeepBut w w' g none := by
 have hu160 := Try.underlying160
 have HI0 := Aside0.mk hI
 have HK := Aside0.mk (KeepBut.refl w g none)
 have HL := Aside0.mk hB.size
 clear hI
 have HW0 := Aside0.mk hB.size
 have HB := Aside0.mk hB
 clear hB
 have H : ((spec_l13Good.f k s0_0 s0_1 s0_2).bind fun bt216 => ((spec_l01Next.f s0_0 bt216.2.2.2.1 bt216.2.2.2.2 40).bind fun bt225 => (if bt225.1 = 0 then ((spec_l12Draw.f k s0_0 bt225.2.1 bt225.2.2).bind fun bt228 => (some (bt228.1, bt216.2.1, bt216.2.2.1, bt228.2.1, bt228.2.2))) else (if bt225.1 = 1 then ((spec_l01Pick.f s0_0 bt225.2.1 bt225.2.2 (([(-1), 0, 20, 21] : List Int))).bind fun bt236 => (some (bt216.1, bt236.1, bt216.2.2.1, bt236.2.1, bt236.2.2))) else (if bt225.1 = 2 then ((spec_l01Next.f s0_0 bt225.2.1 bt225.2.2 10).bind fun bt239 => ((spec_l01Next.f s0_0 bt239.2.1 bt239.2.2 3).bind fun bt242 => ((spec_l01Next.f s0_0 bt242.2.1 bt242.2.2 4).bind fun bt245 => (if bt216.2.2.1.length < 5864062014805 then (some (bt216.1, bt216.2.1, (bt216.2.2.1 ++ [(⟨wrap64 (bt239.1 - 1), bt242.1, bt245.1⟩ : S160)]), bt245.2.1, bt245.2.2)) else (none))))) else (if bt225.1 = 3 then (if (bt216.2.2.1.length : Int) > 0 then (if 0 < (bt216.2.2.1.length : Int) then (if bt216.2.2.1.length < 5864062014805 then (some (bt216.1, bt216.2.1, (bt216.2.2.1 ++ [(⟨(rd_T160 bt216.2.2.1 0).f0, (rd_T160 bt216.2.2.1 0).f1, (rd_T160 bt216.2.2.1 0).f2⟩ : S160)]), bt225.2.1, bt225.2.2)) else (none)) else (none)) else (some (bt216.1, bt216.2.1, bt216.2.2.1, bt225.2.1, bt225.2.2))) else (some (bt216.1, bt216.2.1, bt216.2.2.1, bt225.2.1, bt225.2.2)))))))) = some (r1, r2, r3, r4, r5) := h
 clear h
 replace H := Option.bind_eq_some_iff.mp H
 obtain ⟨⟨t216, t219, t220, t223, t224⟩, A20, H⟩ := H
 replace H : ((spec_l01Next.f s0_0 t223 t224 40).bind fun bt225 => (if bt225.1 = 0 then ((spec_l12Draw.f k s0_0 bt225.2.1 bt225.2.2).bind fun bt228 => (some (bt228.1, t219, t220, bt228.2.1, bt228.2.2))) else (if bt225.1 = 1 then ((spec_l01Pick.f s0_0 bt225.2.1 bt225.2.2 (([(-1), 0, 20, 21] : List Int))).bind fun bt236 => (some (t216, bt236.1, t220, bt236.2.1, bt236.2.2))) else (if bt225.1 = 2 then ((spec_l01Next.f s0_0 bt225.2.1 bt225.2.2 10).bind fun bt239 => ((spec_l01Next.f s0_0 bt239.2.1 bt239.2.2 3).bind fun bt242 => ((spec_l01Next.f s0_0 bt242.2.1 bt242.2.2 4).bind fun bt245 => (if t220.length < 5864062014805 then (some (t216, t219, (t220 ++ [(⟨wrap64 (bt239.1 - 1), bt242.1, bt245.1⟩ : S160)]), bt245.2.1, bt245.2.2)) else (none))))) else (if bt225.1 = 3 then (if (t220.length : Int) > 0 then (if 0 < (t220.length : Int) then (if t220.length < 5864062014805 then (some (t216, t219, (t220 ++ [(⟨(rd_T160 t220 0).f0, (rd_T160 t220 0).f1, (rd_T160 t220 0).f2⟩ : S160)]), bt225.2.1, bt225.2.2)) else (none)) else (none)) else (some (t216, t219, t220, bt225.2.1, bt225.2.2))) else (some (t216, t219, t220, bt225.2.1, bt225.2.2))))))) = some (r1, r2, r3, r4, r5) := H
 have A2 := Aside0.mk A20
 clear A20
 replace H := Option.bind_eq_some_iff.mp H
 obtain ⟨⟨t225, t226, t227⟩, A30, H⟩ := H
 replace H : (if t225 = 0 then ((spec_l12Draw.f k s0_0 t226 t227).bind fun bt228 => (some (bt228.1, t219, t220, bt228.2.1, bt228.2.2))) else (if t225 = 1 then ((spec_l01Pick.f s0_0 t226 t227 (([(-1), 0, 20, 21] : List Int))).bind fun bt236 => (some (t216, bt236.1, t220, bt236.2.1, bt236.2.2))) else (if t225 = 2 then ((spec_l01Next.f s0_0 t226 t227 10).bind fun bt239 => ((spec_l01Next.f s0_0 bt239.2.1 bt239.2.2 3).bind fun bt242 => ((spec_l01Next.f s0_0 bt242.2.1 bt242.2.2 4).bind fun bt245 => (if t220.length < 5864062014805 then (some (t216, t219, (t220 ++ [(⟨wrap64 (bt239.1 - 1), bt242.1, bt245.1⟩ : S160)]), bt245.2.1, bt245.2.2)) else (none))))) else (if t225 = 3 then (if (t220.length : Int) > 0 then (if 0 < (t220.length : Int) then (if t220.length < 5864062014805 then (some (t216, t219, (t220 ++ [(⟨(rd_T160 t220 0).f0, (rd_T160 t220 0).f1, (rd_T160 t220 0).f2⟩ : S160)]), t226, t227)) else (none)) else (none)) else (some (t216, t219, t220, t226, t227))) else (some (t216, t219, t220, t226, t227)))))) = some (r1, r2, r3, r4, r5) := H
 have A3 := Aside0.mk A30
 clear A30
 by_cases c4 : t225 = 0
 ·rw [if_pos c4] at H
  have c4b0 : (t225 == 0) = true := beq_iff_eq.mpr c4
  have c4b1 : (t225 != 0) = false := bne_eq_false_iff_eq.mpr c4
  clear c4
  replace H := Option.bind_eq_some_iff.mp H
  obtain ⟨⟨t228, t231, t232⟩, A50, H⟩ := H
  replace H : (some (t228, t219, t220, t231, t232)) = some (r1, r2, r3, r4, r5) := H
  have A5 := Aside0.mk A50
  clear A50
  simp only [Option.some.injEq, Prod.mk.injEq] at H
  obtain ⟨rfl, rfl, rfl, rfl, rfl⟩ := H
  go_enter Try.func122, Try.ntmps122
  go_wp2_with (first | ((with_reducible refine gate_callee (f := 200) rfl ?_); refine goesL_ (some 10) rfl rfl Try.func200 (by kernel_rfl) rfl #[.pointer (some ⟨g, 0, none⟩)] rfl ag_ ?_; (with_reducible refine (spec_l13Good.calls k g s0_0 s0_1 s0_2 t216 t219 t220 t223 t224 w0 _ ?side1 ?side2 A2.out).mono ?_); (case side1 => exact r0_ HI0.out); (case side2 => exact r1_ HB.out HI0.out); rintro e w6 ⟨v217, v221, rfl, ho0, ho1, hi, hb, hk⟩; refine ⟨_, rfl, ?_⟩; have HO218 := Aside0.mk (Kd.R_lower ho0 (keep_size (w := w) (g := g) (row := none) (r3_ HK.out))); have HO222 := Aside0.mk (Kd.R_lower ho1 (keep_size (w := w) (g := g) (row := none) (r3_ HK.out))); replace HK := Aside0.mk (KeepBut.trans (r3_ HK.out) hk (.inl rfl)); replace HB := Aside0.mk (hb); replace HI0 := Aside0.mk (hi); (try clear hb); (try clear hb2); (try clear hk); (try clear hi); (try clear ho0); (try clear ho1)) | ((with_reducible refine gate_callee (f := 129) rfl ?_); refine goesL_ (some 15) rfl rfl Try.func129 (by kernel_rfl) rfl #[.pointer (some ⟨g, 0, none⟩), .int .i64 40] rfl ag_ ?_; (with_reducible refine (spec_l01Next.calls g s0_0 t223 t224 40 t225 t226 t227 w0 _ ?side1 ?side2 A3.out).mono ?_); (case side1 => exact r0_ HI0.out); (case side2 => exact r1_ HB.out HI0.out); rintro e w7 ⟨rfl, hi, hb, hk⟩; refine ⟨_, rfl, ?_⟩; replace HO218 := Aside0.mk (Kd.R_mono (Kd.R_keep (IsS215.apart (show IsS215 w0 _ g s0_0 t223 t224 from r0_ HI0.out) (rk_ HO218.out) (by decide)) hk (fun _ h => h.2)) (fun _ h => h.1)); replace HO222 := Aside0.mk (Kd.R_mono (Kd.R_keep (IsS215.apart (show IsS215 w0 _ g s0_0 t223 t224 from r0_ HI0.out) (rk_ HO222.out) (by decide)) hk (fun _ h => h.2)) (fun _ h => h.1)); replace HK := Aside0.mk (KeepBut.trans (r3_ HK.out) hk (.inl rfl)); replace HB := Aside0.mk (hb); replace HI0 := Aside0.mk (hi); (try clear hb); (try clear hb2); (try clear hk); (try clear hi)) | ((with_reducible refine gate_callee (f := 201) rfl ?_); refine goesL_ (some 19) rfl rfl Try.func201 (by kernel_rfl) rfl #[.pointer (some ⟨g, 0, none⟩)] rfl ag_ ?_; (with_reducible refine (spec_l12Draw.calls k g s0_0 t226 t227 t228 t231 t232 w0 _ ?side1 ?side2 A5.out).mono ?_); (case side1 => exact r0_ HI0.out); (case side2 => exact r1_ HB.out HI0.out); rintro e w8 ⟨v229, rfl, ho0, hi, hb, hk⟩; refine ⟨_, rfl, ?_⟩; replace HO222 := Aside0.mk (Kd.R_mono (Kd.R_keep (IsS215.apart (show IsS215 w0 _ g s0_0 t226 t227 from r0_ HI0.out) (rk_ HO222.out) (by decide)) hk (fun _ h => h.2)) (fun _ h => h.1)); have HO230 := Aside0.mk (Kd.R_lower (Kd.R_new' ho0 (Kd.R_lt (rk_ HO218.out))) (keep_size (w := w) (g := g) (row := none) (r3_ HK.out))); replace HO218 := Aside0.mk (Kd.R_mono (Kd.R_told (Kd.R_oldK (IsS215.apart (show IsS215 w0 _ g s0_0 t226 t227 from r0_ HI0.out) (rk_ HO218.out) (by decide)) hk) (Kd.R_base ho0)) (fun _ h_ => h_.1)); replace HK := Aside0.mk (KeepBut.trans (r3_ HK.out) hk (.inl rfl)); replace HB := Aside0.mk (hb); replace HI0 := Aside0.mk (hi); (try clear hb); (try clear hb2); (try clear hk); (try clear hi); (try clear ho0)))
  go_ret3
  exact ⟨_, _, by first | rfl | (simp [errW_none, errW_some] <;> rfl) | (simp [*, errW_none, errW_some] <;> rfl), rk_ (Kd.R_mono HO230.out (fun _ hk => trivial)), rk_ HO222.out, r0_ HI0.out, r1_ HB.out HI0.out, r3_ HK.out⟩
 ·rw [if_neg c4] at H
  have c4b0 : (t225 == 0) = false := beq_eq_false_iff_ne.mpr c4
  have c4b1 : (t225 != 0) = true := bne_iff_ne.mpr c4
  by_cases c9 : t225 = 1
  ·rw [if_pos c9] at H
   have c9b0 : (t225 == 1) = true := beq_iff_eq.mpr c9
   have c9b1 : (t225 != 1) = false := bne_eq_false_iff_eq.mpr c9
   clear c9
   obtain ⟨y233, hy233⟩ : ∃ y_ : List Int, y_ = (([(-1), 0, 20, 21] : List Int)) := ⟨_, rfl⟩
   replace H : ((spec_l01Pick.f s0_0 t226 t227 y233).bind fun bt236 => (some (t216, bt236.1, t220, bt236.2.1, bt236.2.2))) = some (r1, r2, r3, r4, r5) := by first | (rw [hy233]; with_reducible exact H) | (have H2_ := (Option.bind_some _ _).symm.trans H; rw [hy233]; with_reducible exact H2_) | (have H2_ := (Option.bind_some _ _).symm.trans H; with_reducible exact H2_) | with_reducible exact H | (rw [hy233]; exact H) | exact H
   have Ny233 := Aside0.mk hy233
   clear hy233
   replace H := Option.bind_eq_some_iff.mp H
   obtain ⟨⟨t236, t237, t238⟩, A100, H⟩ := H
   replace H : (some (t216, t236, t220, t237, t238)) = some (r1, r2, r3, r4, r5) := H
   have A10 := Aside0.mk A100
   clear A100
   simp only [Option.some.injEq, Prod.mk.injEq] at H
   obtain ⟨rfl, rfl, rfl, rfl, rfl⟩ := H
   go_enter Try.func122, Try.ntmps122
   go_wp2_with (first | ((with_reducible refine gate_callee (f := 200) rfl ?_); refine goesL_ (some 10) rfl rfl Try.func200 (by kernel_rfl) rfl #[.pointer (some ⟨g, 0, none⟩)] rfl ag_ ?_; (with_reducible refine (spec_l13Good.calls k g s0_0 s0_1 s0_2 t216 t219 t220 t223 t224 w0 _ ?side1 ?side2 A2.out).mono ?_); (case side1 => exact r0_ HI0.out); (case side2 => exact r1_ HB.out HI0.out); rintro e w11 ⟨v217, v221, rfl, ho0, ho1, hi, hb, hk⟩; refine ⟨_, rfl, ?_⟩; have HO218 := Aside0.mk (Kd.R_lower ho0 (keep_size (w := w) (g := g) (row := none) (r3_ HK.out))); have HO222 := Aside0.mk (Kd.R_lower ho1 (keep_size (w := w) (g := g) (row := none) (r3_ HK.out))); replace HK := Aside0.mk (KeepBut.trans (r3_ HK.out) hk (.inl rfl)); replace HB := Aside0.mk (hb); replace HI0 := Aside0.mk (hi); (try clear hb); (try clear hb2); (try clear hk); (try clear hi); (try clear ho0); (try clear ho1)) | ((with_reducible refine gate_callee (f := 129) rfl ?_); refine goesL_ (some 15) rfl rfl Try.func129 (by kernel_rfl) rfl #[.pointer (some ⟨g, 0, none⟩), .int .i64 40] rfl ag_ ?_; (with_reducible refine (spec_l01Next.calls g s0_0 t223 t224 40 t225 t226 t227 w0 _ ?side1 ?side2 A3.out).mono ?_); (case side1 => exact r0_ HI0.out); (case side2 => exact r1_ HB.out HI0.out); rintro e w12 ⟨rfl, hi, hb, hk⟩; refine ⟨_, rfl, ?_⟩; replace HO218 := Aside0.mk (Kd.R_mono (Kd.R_keep (IsS215.apart (show IsS215 w0 _ g s0_0 t223 t224 from r0_ HI0.out) (rk_ HO218.out) (by decide)) hk (fun _ h => h.2)) (fun _ h => h.1)); replace HO222 := Aside0.mk (Kd.R_mono (Kd.R_keep (IsS215.apart (show IsS215 w0 _ g s0_0 t223 t224 from r0_ HI0.out) (rk_ HO222.out) (by decide)) hk (fun _ h => h.2)) (fun _ h => h.1)); replace HK := Aside0.mk (KeepBut.trans (r3_ HK.out) hk (.inl rfl)); replace HB := Aside0.mk (hb); replace HI0 := Aside0.mk (hi); (try clear hb); (try clear hb2); (try clear hk); (try clear hi)) | ((with_reducible refine gate_dst (N := 23) rfl ?_); refine Kd.R_lit (Kd.int .i64) _ 2 ?hg (N := 23) ?hd (xs := ([(-1), 0, 20, 21] : List Int)) (inner := [.int .i64 (-1), .int .i64 0, .int .i64 20, .int .i64 21]) (ok := fun _ => True) (okp := fun _ => True) ?hr ?hp (fun _ hk => hk) trivial (Below.refl _ _) (Nat.le_refl _) (by simp) ?_; (case hd => rfl); (case hg => rfl); (case hr => first | (go_simp; done) | (go_simp; rfl)); (case hp => exact (Reps.one (show Kd.M (Kd.int .i64) _ _ _ (-1) [.int .i64 (-1)] from rfl) (Reps.one (show Kd.M (Kd.int .i64) _ _ _ 0 [.int .i64 0] from rfl) (Reps.one (show Kd.M (Kd.int .i64) _ _ _ 20 [.int .i64 20] from rfl) (Reps.one (show Kd.M (Kd.int .i64) _ _ _ 21 [.int .i64 21] from rfl) (Reps.none _ _)))))); intro v234 w13 ho14 hb hg_ hnew_; clear hg_ hnew_; (first | rw [← Ny233.out] at ho14 | (simp only [Int.reduceToNat] at ho14; rw [← Ny233.out] at ho14)); replace HO218 := Aside0.mk (Kd.R_below (rk_ HO218.out) hb); replace HO222 := Aside0.mk (Kd.R_below (rk_ HO222.out) hb); have HO235 := Aside0.mk (Kd.R_lower ho14 (keep_size (w := w) (g := g) (row := none) (r3_ HK.out))); replace HK := Aside0.mk (KeepBut.trans (r3_ HK.out) (KeepBut.of_below hb g none) (.inl rfl)); replace HB := Aside0.mk (below_step (r1_ HB.out HI0.out) hb); replace HI0 := Aside0.mk (IsS215.below (r0_ HI0.out) hb); clear hb ho14; obtain ⟨Ao15, co15, eo15⟩ := Kd.R_slice HO235.out; subst eo15) | ((with_reducible refine gate_callee (f := 145) rfl ?_); refine goesL_ (some 24) rfl rfl Try.func145 (by kernel_rfl) rfl #[.pointer (some ⟨g, 0, none⟩), .slice Ao15 y233.length co15] rfl ag_ ?_; (with_reducible refine (spec_l01Pick.calls g s0_0 t226 t227 _ _ y233 t236 t237 t238 w0 _ ?side1 ?side2 ?side3 ?side4 ?side5 A10.out).mono ?_); (case side1 => exact r0_ HI0.out); (case side2 => exact r1_ HB.out HI0.out); (case side3 => exact r7_ HO235.out); (case side4 => exact (Kd.R_reads' HO235.out).2.1); (case side5 => exact far_slice (IsS215.own_ne HI0.out HO235.out (by decide))); rintro e w16 ⟨rfl, hi, hb, hk⟩; refine ⟨_, rfl, ?_⟩; replace HO218 := Aside0.mk (Kd.R_mono (Kd.R_keep (IsS215.apart (show IsS215 w0 _ g s0_0 t226 t227 from r0_ HI0.out) (rk_ HO218.out) (by decide)) hk (fun _ h => h.2)) (fun _ h => h.1)); replace HO222 := Aside0.mk (Kd.R_mono (Kd.R_keep (IsS215.apart (show IsS215 w0 _ g s0_0 t226 t227 from r0_ HI0.out) (rk_ HO222.out) (by decide)) hk (fun _ h => h.2)) (fun _ h => h.1)); replace HO235 := Aside0.mk (Kd.R_mono (Kd.R_keep (IsS215.apart (show IsS215 w0 _ g s0_0 t226 t227 from r0_ HI0.out) (rk_ HO235.out) (by decide)) hk (fun _ h => h.2)) (fun _ h => h.1)); replace HK := Aside0.mk (KeepBut.trans (r3_ HK.out) hk (.inl rfl)); replace HB := Aside0.mk (hb); replace HI0 := Aside0.mk (hi); (try clear hb); (try clear hb2); (try clear hk); (try clear hi)))
   go_ret3
   exact ⟨_, _, by first | rfl | (simp [errW_none, errW_some] <;> rfl) | (simp [*, errW_none, errW_some] <;> rfl), rk_ HO218.out, rk_ HO222.out, r0_ HI0.out, r1_ HB.out HI0.out, r3_ HK.out⟩
  ·rw [if_neg c9] at H
   have c9b0 : (t225 == 1) = false := beq_eq_false_iff_ne.mpr c9
   have c9b1 : (t225 != 1) = true := bne_iff_ne.mpr c9
   by_cases c17 : t225 = 2
   ·rw [if_pos c17] at H
    have c17b0 : (t225 == 2) = true := beq_iff_eq.mpr c17
    have c17b1 : (t225 != 2) = false := bne_eq_false_iff_eq.mpr c17
    clear c17
    replace H := Option.bind_eq_some_iff.mp H
    obtain ⟨⟨t239, t240, t241⟩, A180, H⟩ := H
    replace H : ((spec_l01Next.f s0_0 t240 t241 3).bind fun bt242 => ((spec_l01Next.f s0_0 bt242.2.1 bt242.2.2 4).bind fun bt245 => (if t220.length < 5864062014805 then (some (t216, t219, (t220 ++ [(⟨wrap64 (t239 - 1), bt242.1, bt245.1⟩ : S160)]), bt245.2.1, bt245.2.2)) else (none)))) = some (r1, r2, r3, r4, r5) := H
    have A18 := Aside0.mk A180
    clear A180
    replace H := Option.bind_eq_some_iff.mp H
    obtain ⟨⟨t242, t243, t244⟩, A190, H⟩ := H
    replace H : ((spec_l01Next.f s0_0 t243 t244 4).bind fun bt245 => (if t220.length < 5864062014805 then (some (t216, t219, (t220 ++ [(⟨wrap64 (t239 - 1), t242, bt245.1⟩ : S160)]), bt245.2.1, bt245.2.2)) else (none))) = some (r1, r2, r3, r4, r5) := H
    have A19 := Aside0.mk A190
    clear A190
    replace H := Option.bind_eq_some_iff.mp H
    obtain ⟨⟨t245, t246, t247⟩, A200, H⟩ := H
    replace H : (if t220.length < 5864062014805 then (some (t216, t219, (t220 ++ [(⟨wrap64 (t239 - 1), t242, t245⟩ : S160)]), t246, t247)) else (none)) = some (r1, r2, r3, r4, r5) := H
    have A20 := Aside0.mk A200
    clear A200
    by_cases c21 : t220.length < 5864062014805
    case neg =>
     rw [if_neg c21] at H
     exact absurd H (by simp)
    rw [if_pos c21] at H
    have LMc21 := Aside0.mk c21
    clear c21
    obtain ⟨y248, hy248⟩ : ∃ y_ : List (S160), y_ = (t220 ++ [(⟨wrap64 (t239 - 1), t242, t245⟩ : S160)]) := ⟨_, rfl⟩
    replace H : (some (t216, t219, y248, t246, t247)) = some (r1, r2, r3, r4, r5) := by first | (rw [hy248]; with_reducible exact H) | (have H2_ := (Option.bind_some _ _).symm.trans H; rw [hy248]; with_reducible exact H2_) | (have H2_ := (Option.bind_some _ _).symm.trans H; with_reducible exact H2_) | with_reducible exact H | (rw [hy248]; exact H) | exact H
    have Ny248 := Aside0.mk hy248
    clear hy248
    simp only [Option.some.injEq, Prod.mk.injEq] at H
    obtain ⟨rfl, rfl, rfl, rfl, rfl⟩ := H
    go_enter Try.func122, Try.ntmps122
    go_wp2_with (first | ((with_reducible refine gate_callee (f := 200) rfl ?_); refine goesL_ (some 10) rfl rfl Try.func200 (by kernel_rfl) rfl #[.pointer (some ⟨g, 0, none⟩)] rfl ag_ ?_; (with_reducible refine (spec_l13Good.calls k g s0_0 s0_1 s0_2 t216 t219 t220 t223 t224 w0 _ ?side1 ?side2 A2.out).mono ?_); (case side1 => exact r0_ HI0.out); (case side2 => exact r1_ HB.out HI0.out); rintro e w22 ⟨v217, v221, rfl, ho0, ho1, hi, hb, hk⟩; refine ⟨_, rfl, ?_⟩; have HO218 := Aside0.mk (Kd.R_lower ho0 (keep_size (w := w) (g := g) (row := none) (r3_ HK.out))); have HO222 := Aside0.mk (Kd.R_lower ho1 (keep_size (w := w) (g := g) (row := none) (r3_ HK.out))); replace HK := Aside0.mk (KeepBut.trans (r3_ HK.out) hk (.inl rfl)); replace HB := Aside0.mk (hb); replace HI0 := Aside0.mk (hi); (try clear hb); (try clear hb2); (try clear hk); (try clear hi); (try clear ho0); (try clear ho1)) | ((with_reducible refine gate_callee (f := 129) rfl ?_); refine goesL_ (some 15) rfl rfl Try.func129 (by kernel_rfl) rfl #[.pointer (some ⟨g, 0, none⟩), .int .i64 40] rfl ag_ ?_; (with_reducible refine (spec_l01Next.calls g s0_0 t223 t224 40 t225 t226 t227 w0 _ ?side1 ?side2 A3.out).mono ?_); (case side1 => exact r0_ HI0.out); (case side2 => exact r1_ HB.out HI0.out); rintro e w23 ⟨rfl, hi, hb, hk⟩; refine ⟨_, rfl, ?_⟩; replace HO218 := Aside0.mk (Kd.R_mono (Kd.R_keep (IsS215.apart (show IsS215 w0 _ g s0_0 t223 t224 from r0_ HI0.out) (rk_ HO218.out) (by decide)) hk (fun _ h => h.2)) (fun _ h => h.1)); replace HO222 := Aside0.mk (Kd.R_mono (Kd.R_keep (IsS215.apart (show IsS215 w0 _ g s0_0 t223 t224 from r0_ HI0.out) (rk_ HO222.out) (by decide)) hk (fun _ h => h.2)) (fun _ h => h.1)); replace HK := Aside0.mk (KeepBut.trans (r3_ HK.out) hk (.inl rfl)); replace HB := Aside0.mk (hb); replace HI0 := Aside0.mk (hi); (try clear hb); (try clear hb2); (try clear hk); (try clear hi)) | ((with_reducible refine gate_callee (f := 129) rfl ?_); refine goesL_ (some 29) rfl rfl Try.func129 (by kernel_rfl) rfl #[.pointer (some ⟨g, 0, none⟩), .int .i64 10] rfl ag_ ?_; (with_reducible refine (spec_l01Next.calls g s0_0 t226 t227 10 t239 t240 t241 w0 _ ?side1 ?side2 A18.out).mono ?_); (case side1 => exact r0_ HI0.out); (case side2 => exact r1_ HB.out HI0.out); rintro e w24 ⟨rfl, hi, hb, hk⟩; refine ⟨_, rfl, ?_⟩; replace HO218 := Aside0.mk (Kd.R_mono (Kd.R_keep (IsS215.apart (show IsS215 w0 _ g s0_0 t226 t227 from r0_ HI0.out) (rk_ HO218.out) (by decide)) hk (fun _ h => h.2)) (fun _ h => h.1)); replace HO222 := Aside0.mk (Kd.R_mono (Kd.R_keep (IsS215.apart (show IsS215 w0 _ g s0_0 t226 t227 from r0_ HI0.out) (rk_ HO222.out) (by decide)) hk (fun _ h => h.2)) (fun _ h => h.1)); replace HK := Aside0.mk (KeepBut.trans (r3_ HK.out) hk (.inl rfl)); replace HB := Aside0.mk (hb); replace HI0 := Aside0.mk (hi); (try clear hb); (try clear hb2); (try clear hk); (try clear hi)) | ((with_reducible refine gate_callee (f := 129) rfl ?_); refine goesL_ (some 32) rfl rfl Try.func129 (by kernel_rfl) rfl #[.pointer (some ⟨g, 0, none⟩), .int .i64 3] rfl ag_ ?_; (with_reducible refine (spec_l01Next.calls g s0_0 t240 t241 3 t242 t243 t244 w0 _ ?side1 ?side2 A19.out).mono ?_); (case side1 => exact r0_ HI0.out); (case side2 => exact r1_ HB.out HI0.out); rintro e w25 ⟨rfl, hi, hb, hk⟩; refine ⟨_, rfl, ?_⟩; replace HO218 := Aside0.mk (Kd.R_mono (Kd.R_keep (IsS215.apart (show IsS215 w0 _ g s0_0 t240 t241 from r0_ HI0.out) (rk_ HO218.out) (by decide)) hk (fun _ h => h.2)) (fun _ h => h.1)); replace HO222 := Aside0.mk (Kd.R_mono (Kd.R_keep (IsS215.apart (show IsS215 w0 _ g s0_0 t240 t241 from r0_ HI0.out) (rk_ HO222.out) (by decide)) hk (fun _ h => h.2)) (fun _ h => h.1)); replace HK := Aside0.mk (KeepBut.trans (r3_ HK.out) hk (.inl rfl)); replace HB := Aside0.mk (hb); replace HI0 := Aside0.mk (hi); (try clear hb); (try clear hb2); (try clear hk); (try clear hi)) | ((with_reducible refine gate_callee (f := 129) rfl ?_); refine goesL_ (some 34) rfl rfl Try.func129 (by kernel_rfl) rfl #[.pointer (some ⟨g, 0, none⟩), .int .i64 4] rfl ag_ ?_; (with_reducible refine (spec_l01Next.calls g s0_0 t243 t244 4 t245 t246 t247 w0 _ ?side1 ?side2 A20.out).mono ?_); (case side1 => exact r0_ HI0.out); (case side2 => exact r1_ HB.out HI0.out); rintro e w26 ⟨rfl, hi, hb, hk⟩; refine ⟨_, rfl, ?_⟩; replace HO218 := Aside0.mk (Kd.R_mono (Kd.R_keep (IsS215.apart (show IsS215 w0 _ g s0_0 t243 t244 from r0_ HI0.out) (rk_ HO218.out) (by decide)) hk (fun _ h => h.2)) (fun _ h => h.1)); replace HO222 := Aside0.mk (Kd.R_mono (Kd.R_keep (IsS215.apart (show IsS215 w0 _ g s0_0 t243 t244 from r0_ HI0.out) (rk_ HO222.out) (by decide)) hk (fun _ h => h.2)) (fun _ h => h.1)); replace HK := Aside0.mk (KeepBut.trans (r3_ HK.out) hk (.inl rfl)); replace HB := Aside0.mk (hb); replace HI0 := Aside0.mk (hi); (try clear hb); (try clear hb2); (try clear hk); (try clear hi)) | ((with_reducible refine gate_builtin (b := .append) (xs := #[.tmp 27, .tmp 36]) rfl ?_); at_builtin; refine Kd.R_append k160 w.heap.size rfl (.tmp 27) (.tmp 36) 44 160 (.agg #[(.int .i64 0), (.int .i64 0), (.int .i64 0)]) 24 rfl Try.underlying44 info160 rfl (by decide) (by omega) v221 t220 (⟨wrap64 (t239 - 1), t242, t245⟩ : S160) [.int .i64 (wrap64 (t239 - 1)), .int .i64 t242, .int .i64 t245] (fun _ => True) (fun _ => False) rfl rfl ?aP (fun _ hk => hk.elim) ?aF ?aO (Below.refl _ _) ?aS ?aL ?_; (case aP => exact k160_mkM _ _ _ (⟨wrap64 (t239 - 1), t242, t245⟩ : S160)); (case aF => exact (fun _ _ => trivial)); (case aO => exact (rk_ HO222.out)); (case aS => exact (keep_size (w := w) (g := g) (row := none) (r3_ HK.out))); (case aL => have := LMc21.out; omega); intro v249 w27 ho hb hg hat; rw [← Ny248.out] at ho; have n0_ := Aside0.mk (IsS215.grown (r0_ HI0.out) hg (IsS215.own_ne HI0.out HO222.out (by decide))); have n1_ := Aside0.mk (Kd.R_over' (rk_ HO218.out) (Kd.R_typed (rk_ HO222.out)) (by decide) hg); have n2_ := Aside0.mk (below_weaken (r1_ HB.out HI0.out) HL.out hb); have n3_ := Aside0.mk (KeepBut.trans (r3_ HK.out) (KeepBut.of_grown hg g) (Kd.R_base2 HO222.out)); have n4_ := Aside0.mk (ho); clear HI0; clear HO218; clear HB; clear HK; clear HO222; have HI0 := n0_; have HO218 := n1_; have HB := n2_; have HK := n3_; have HO250 := n4_; clear n0_ n1_ n2_ n3_ n4_; clear ho hb hg hat))
    go_ret3
    exact ⟨_, _, by first | rfl | (simp [errW_none, errW_some] <;> rfl) | (simp [*, errW_none, errW_some] <;> rfl), rk_ HO218.out, rk_ HO250.out, r0_ HI0.out, r1_ HB.out HI0.out, r3_ HK.out⟩
   ·rw [if_neg c17] at H
    have c17b0 : (t225 == 2) = false := beq_eq_false_iff_ne.mpr c17
    have c17b1 : (t225 != 2) = true := bne_iff_ne.mpr c17
    by_cases c28 : t225 = 3
    ·rw [if_pos c28] at H
     have c28b0 : (t225 == 3) = true := beq_iff_eq.mpr c28
     have c28b1 : (t225 != 3) = false := bne_eq_false_iff_eq.mpr c28
     clear c28
     by_cases c29 : (t220.length : Int) > 0
     ·rw [if_pos c29] at H
      have c29b0 : decide (0 < (t220.length : Int)) = true := decide_eq_true c29
      have c29b1 : decide (0 < t220.length) = true := decide_eq_true (by omega)
      clear c29
      by_cases c30 : 0 < (t220.length : Int)
      case neg =>
       rw [if_neg c30] at H
       exact absurd H (by simp)
      rw [if_pos c30] at H
      have c30b0 : decide (0 < (t220.length : Int)) = true := decide_eq_true c30
      have c30b1 : decide (0 < t220.length) = true := decide_eq_true (by omega)
      clear c30
      by_cases c31 : t220.length < 5864062014805
      case neg =>
       rw [if_neg c31] at H
       exact absurd H (by simp)
      rw [if_pos c31] at H
      have LMc31 := Aside0.mk c31
      clear c31
      obtain ⟨y252, hy252⟩ : ∃ y_ : List (S160), y_ = (t220 ++ [(⟨(rd_T160 t220 0).f0, (rd_T160 t220 0).f1, (rd_T160 t220 0).f2⟩ : S160)]) := ⟨_, rfl⟩
      replace H : (some (t216, t219, y252, t226, t227)) = some (r1, r2, r3, r4, r5) := by first | (rw [hy252]; with_reducible exact H) | (have H2_ := (Option.bind_some _ _).symm.trans H; rw [hy252]; with_reducible exact H2_) | (have H2_ := (Option.bind_some _ _).symm.trans H; with_reducible exact H2_) | with_reducible exact H | (rw [hy252]; exact H) | exact H
      have Ny252 := Aside0.mk hy252
      clear hy252
      simp only [Option.some.injEq, Prod.mk.injEq] at H
      obtain ⟨rfl, rfl, rfl, rfl, rfl⟩ := H
      go_enter Try.func122, Try.ntmps122
      go_wp2_with (first | ((with_reducible refine gate_callee (f := 200) rfl ?_); refine goesL_ (some 10) rfl rfl Try.func200 (by kernel_rfl) rfl #[.pointer (some ⟨g, 0, none⟩)] rfl ag_ ?_; (with_reducible refine (spec_l13Good.calls k g s0_0 s0_1 s0_2 t216 t219 t220 t223 t224 w0 _ ?side1 ?side2 A2.out).mono ?_); (case side1 => exact r0_ HI0.out); (case side2 => exact r1_ HB.out HI0.out); rintro e w32 ⟨v217, v221, rfl, ho0, ho1, hi, hb, hk⟩; refine ⟨_, rfl, ?_⟩; have HO218 := Aside0.mk (Kd.R_lower ho0 (keep_size (w := w) (g := g) (row := none) (r3_ HK.out))); have HO222 := Aside0.mk (Kd.R_lower ho1 (keep_size (w := w) (g := g) (row := none) (r3_ HK.out))); replace HK := Aside0.mk (KeepBut.trans (r3_ HK.out) hk (.inl rfl)); replace HB := Aside0.mk (hb); replace HI0 := Aside0.mk (hi); (try clear hb); (try clear hb2); (try clear hk); (try clear hi); (try clear ho0); (try clear ho1)) | ((with_reducible refine gate_callee (f := 129) rfl ?_); refine goesL_ (some 15) rfl rfl Try.func129 (by kernel_rfl) rfl #[.pointer (some ⟨g, 0, none⟩), .int .i64 40] rfl ag_ ?_; (with_reducible refine (spec_l01Next.calls g s0_0 t223 t224 40 t225 t226 t227 w0 _ ?side1 ?side2 A3.out).mono ?_); (case side1 => exact r0_ HI0.out); (case side2 => exact r1_ HB.out HI0.out); rintro e w33 ⟨rfl, hi, hb, hk⟩; refine ⟨_, rfl, ?_⟩; replace HO218 := Aside0.mk (Kd.R_mono (Kd.R_keep (IsS215.apart (show IsS215 w0 _ g s0_0 t223 t224 from r0_ HI0.out) (rk_ HO218.out) (by decide)) hk (fun _ h => h.2)) (fun _ h => h.1)); replace HO222 := Aside0.mk (Kd.R_mono (Kd.R_keep (IsS215.apart (show IsS215 w0 _ g s0_0 t223 t224 from r0_ HI0.out) (rk_ HO222.out) (by decide)) hk (fun _ h => h.2)) (fun _ h => h.1)); replace HK := Aside0.mk (KeepBut.trans (r3_ HK.out) hk (.inl rfl)); replace HB := Aside0.mk (hb); replace HI0 := Aside0.mk (hi); (try clear hb); (try clear hb2); (try clear hk); (try clear hi); obtain ⟨Ao34, co34, eo34⟩ := Kd.R_slice HO222.out; subst eo34; have p251 : 0 ≤ (0 : Int) := (by omega); have q251 : 0 < (t220.length : Int) := od_; obtain ⟨ad251, e251, hx251_0, hx251_1, hx251_2⟩ := at_T160 (Kd.R_reads' HO222.out).2.2 0 p251 q251; cases e251; have qi251 : (0 < t220.length) = True := eq_true (by omega); (try rw [show ((0 : Int)).toNat = 0 from rfl] at hx251_0); (try rw [show 0 * 3 = 0 from rfl] at hx251_0); (try rw [Addr.add_zero'] at hx251_0); (try rw [show ((0 : Int)).toNat = 0 from rfl] at hx251_1); (try rw [show 0 * 3 = 0 from rfl] at hx251_1); (try rw [Addr.add_zero'] at hx251_1); (try rw [show ((0 : Int)).toNat = 0 from rfl] at hx251_2); (try rw [show 0 * 3 = 0 from rfl] at hx251_2); (try rw [Addr.add_zero'] at hx251_2); replace p251 := eq_true p251; replace q251 := eq_true q251) | ((with_reducible refine gate_builtin (b := .append) (xs := #[.tmp 43, .tmp 47]) rfl ?_); at_builtin; refine Kd.R_append k160 w.heap.size rfl (.tmp 43) (.tmp 47) 44 160 (.agg #[(.int .i64 0), (.int .i64 0), (.int .i64 0)]) 24 rfl Try.underlying44 info160 rfl (by decide) (by omega) (.slice (some ad251) t220.length co34) t220 (⟨(rd_T160 t220 0).f0, (rd_T160 t220 0).f1, (rd_T160 t220 0).f2⟩ : S160) [.int .i64 ((rd_T160 t220 0).f0), .int .i64 ((rd_T160 t220 0).f1), .int .i64 ((rd_T160 t220 0).f2)] (fun _ => True) (fun _ => False) rfl rfl ?aP (fun _ hk => hk.elim) ?aF ?aO (Below.refl _ _) ?aS ?aL ?_; (case aP => exact k160_mkM _ _ _ (⟨(rd_T160 t220 0).f0, (rd_T160 t220 0).f1, (rd_T160 t220 0).f2⟩ : S160)); (case aF => exact (fun _ _ => trivial)); (case aO => exact (rk_ HO222.out)); (case aS => exact (keep_size (w := w) (g := g) (row := none) (r3_ HK.out))); (case aL => have := LMc31.out; omega); intro v253 w35 ho hb hg hat; rw [← Ny252.out] at ho; have n0_ := Aside0.mk (IsS215.grown (r0_ HI0.out) hg (IsS215.own_ne HI0.out HO222.out (by decide))); have n1_ := Aside0.mk (Kd.R_over' (rk_ HO218.out) (Kd.R_typed (rk_ HO222.out)) (by decide) hg); have n2_ := Aside0.mk (below_weaken (r1_ HB.out HI0.out) HL.out hb); have n3_ := Aside0.mk (KeepBut.trans (r3_ HK.out) (KeepBut.of_grown hg g) (Kd.R_base2 HO222.out)); have n4_ := Aside0.mk (ho); clear HI0; clear HO218; clear HB; clear HK; clear HO222; have HI0 := n0_; have HO218 := n1_; have HB := n2_; have HK := n3_; have HO254 := n4_; clear n0_ n1_ n2_ n3_ n4_; clear ho hb hg hat))
      go_ret3
      exact ⟨_, _, by first | rfl | (simp [errW_none, errW_some] <;> rfl) | (simp [*, errW_none, errW_some] <;> rfl), rk_ HO218.out, rk_ HO254.out, r0_ HI0.out, r1_ HB.out HI0.out, r3_ HK.out⟩
     ·rw [if_neg c29] at H
      have c29b0 : decide (0 < (t220.length : Int)) = false := decide_eq_false c29
      have c29b1 : decide (0 < t220.length) = false := decide_eq_false (by omega)
      clear c29
      simp only [Option.some.injEq, Prod.mk.injEq] at H
      obtain ⟨rfl, rfl, rfl, rfl, rfl⟩ := H
      go_enter Try.func122, Try.ntmps122
      go_wp2_with (first | ((with_reducible refine gate_callee (f := 200) rfl ?_); refine goesL_ (some 10) rfl rfl Try.func200 (by kernel_rfl) rfl #[.pointer (some ⟨g, 0, none⟩)] rfl ag_ ?_; (with_reducible refine (spec_l13Good.calls k g s0_0 s0_1 s0_2 t216 t219 t220 t223 t224 w0 _ ?side1 ?side2 A2.out).mono ?_); (case side1 => exact r0_ HI0.out); (case side2 => exact r1_ HB.out HI0.out); rintro e w36 ⟨v217, v221, rfl, ho0, ho1, hi, hb, hk⟩; refine ⟨_, rfl, ?_⟩; have HO218 := Aside0.mk (Kd.R_lower ho0 (keep_size (w := w) (g := g) (row := none) (r3_ HK.out))); have HO222 := Aside0.mk (Kd.R_lower ho1 (keep_size (w := w) (g := g) (row := none) (r3_ HK.out))); replace HK := Aside0.mk (KeepBut.trans (r3_ HK.out) hk (.inl rfl)); replace HB := Aside0.mk (hb); replace HI0 := Aside0.mk (hi); (try clear hb); (try clear hb2); (try clear hk); (try clear hi); (try clear ho0); (try clear ho1)) | ((with_reducible refine gate_callee (f := 129) rfl ?_); refine goesL_ (some 15) rfl rfl Try.func129 (by kernel_rfl) rfl #[.pointer (some ⟨g, 0, none⟩), .int .i64 40] rfl ag_ ?_; (with_reducible refine (spec_l01Next.calls g s0_0 t223 t224 40 t225 t226 t227 w0 _ ?side1 ?side2 A3.out).mono ?_); (case side1 => exact r0_ HI0.out); (case side2 => exact r1_ HB.out HI0.out); rintro e w37 ⟨rfl, hi, hb, hk⟩; refine ⟨_, rfl, ?_⟩; replace HO218 := Aside0.mk (Kd.R_mono (Kd.R_keep (IsS215.apart (show IsS215 w0 _ g s0_0 t223 t224 from r0_ HI0.out) (rk_ HO218.out) (by decide)) hk (fun _ h => h.2)) (fun _ h => h.1)); replace HO222 := Aside0.mk (Kd.R_mono (Kd.R_keep (IsS215.apart (show IsS215 w0 _ g s0_0 t223 t224 from r0_ HI0.out) (rk_ HO222.out) (by decide)) hk (fun _ h => h.2)) (fun _ h => h.1)); replace HK := Aside0.mk (KeepBut.trans (r3_ HK.out) hk (.inl rfl)); replace HB := Aside0.mk (hb); replace HI0 := Aside0.mk (hi); (try clear hb); (try clear hb2); (try clear hk); (try clear hi); obtain ⟨Ao38, co38, eo38⟩ := Kd.R_slice HO222.out; subst eo38))
      go_ret3
      exact ⟨_, _, by first | rfl | (simp [errW_none, errW_some] <;> rfl) | (simp [*, errW_none, errW_some] <;> rfl), rk_ HO218.out, rk_ HO222.out, r0_ HI0.out, r1_ HB.out HI0.out, r3_ HK.out⟩
    ·rw [if_neg c28] at H
     have c28b0 : (t225 == 3) = false := beq_eq_false_iff_ne.mpr c28
     have c28b1 : (t225 != 3) = true := bne_iff_ne.mpr c28
     simp only [Option.some.injEq, Prod.mk.injEq] at H
     obtain ⟨rfl, rfl, rfl, rfl, rfl⟩ := H
     go_enter Try.func122, Try.ntmps122
     go_wp2_with (first | ((with_reducible refine gate_callee (f := 200) rfl ?_); refine goesL_ (some 10) rfl rfl Try.func200 (by kernel_rfl) rfl #[.pointer (some ⟨g, 0, none⟩)] rfl ag_ ?_; (with_reducible refine (spec_l13Good.calls k g s0_0 s0_1 s0_2 t216 t219 t220 t223 t224 w0 _ ?side1 ?side2 A2.out).mono ?_); (case side1 => exact r0_ HI0.out); (case side2 => exact r1_ HB.out HI0.out); rintro e w39 ⟨v217, v221, rfl, ho0, ho1, hi, hb, hk⟩; refine ⟨_, rfl, ?_⟩; have HO218 := Aside0.mk (Kd.R_lower ho0 (keep_size (w := w) (g := g) (row := none) (r3_ HK.out))); have HO222 := Aside0.mk (Kd.R_lower ho1 (keep_size (w := w) (g := g) (row := none) (r3_ HK.out))); replace HK := Aside0.mk (KeepBut.trans (r3_ HK.out) hk (.inl rfl)); replace HB := Aside0.mk (hb); replace HI0 := Aside0.mk (hi); (try clear hb); (try clear hb2); (try clear hk); (try clear hi); (try clear ho0); (try clear ho1)) | ((with_reducible refine gate_callee (f := 129) rfl ?_); refine goesL_ (some 15) rfl rfl Try.func129 (by kernel_rfl) rfl #[.pointer (some ⟨g, 0, none⟩), .int .i64 40] rfl ag_ ?_; (with_reducible refine (spec_l01Next.calls g s0_0 t223 t224 40 t225 t226 t227 w0 _ ?side1 ?side2 A3.out).mono ?_); (case side1 => exact r0_ HI0.out); (case side2 => exact r1_ HB.out HI0.out); rintro e w40 ⟨rfl, hi, hb, hk⟩; refine ⟨_, rfl, ?_⟩; replace HO218 := Aside0.mk (Kd.R_mono (Kd.R_keep (IsS215.apart (show IsS215 w0 _ g s0_0 t223 t224 from r0_ HI0.out) (rk_ HO218.out) (by decide)) hk (fun _ h => h.2)) (fun _ h => h.1)); replace HO222 := Aside0.mk (Kd.R_mono (Kd.R_keep (IsS215.apart (show IsS215 w0 _ g s0_0 t223 t224 from r0_ HI0.out) (rk_ HO222.out) (by decide)) hk (fun _ h => h.2)) (fun _ h => h.1)); replace HK := Aside0.mk (KeepBut.trans (r3_ HK.out) hk (.inl rfl)); replace HB := Aside0.mk (hb); replace HI0 := Aside0.mk (hi); (try clear hb); (try clear hb2); (try clear hk); (try clear hi)))
     go_ret3
     exact ⟨_, _, by first | rfl | (simp [errW_none, errW_some] <;> rfl) | (simp [*, errW_none, errW_some] <;> rfl), rk_ HO218.out, rk_ HO222.out, r0_ HI0.out, r1_ HB.out HI0.out, r3_ HK.out⟩
def spec_l01From.l0 : Nat → List Int → Int → List Int → Int → Int → Option (List Int × Int × Int)
 | 0, _, _, _, _, _ => none
 | k + 1, x0, x4, x256000, x256001, x256002 => if x4 < (x0.length : Int) then (if x4 < 64 then (if 0 ≤ x4 then (spec_l01From.l0 k x0 (wrap64 (x4 + 1)) x256000 x256001 (Int.tmod (wrap64 ((wrap64 (x256002 * 83)) + (wrap64 (rd x0 x4)))) 2147483647)) else (none)) else (some (x256000, x256001, x256002))) else (some (x256000, x256001, x256002))
def spec_l01From.f (k : Nat) (l0 : List Int) : Option (List Int × Int × Int) := spec_l01From.l0 k l0 0 l0 0 61043
def spec_l01From.T5 : Bool × List (List Nat × List Nat) := (true, [([], []), ([], []), ([1], [1]), ([2], [2]), ([3], [3]), ([4], [4]), ([], []), ([], []), ([6, 7], [6, 7]), ([8], [8]), ([9], [9]), ([5, 10], [5, 10]), ([11], [11]), ([0, 0, 1, 2, 3, 4, 5, 6, 7, 8, 9, 10, 11, 12], [0]), ([13, 0, 1, 2, 3, 4, 5, 6, 7, 8, 9, 10, 11, 12], [13]), ([14, 12, 0, 1, 2, 3, 4, 5, 6, 7, 8, 9, 10, 11, 12], [12, 14])])
def spec_l01From.B5 : List Nat := [0, 0, 2, 6, 14, 30, 0, 0, 192, 448, 960, 2046, 4094, 8191, 16383, 32767]
theorem spec_l01From.tab5 : rtab .any (opsOf Try.f123 5) = spec_l01From.T5 := by kernel_rfl
theorem spec_l01From.bits5 : waitsOk spec_l01From.T5.2 spec_l01From.B5 = true := by kernel_rfl
set_option maxHeartbeats 8000000 in
set_option maxRecDepth 100000 in
theorem spec_l01From.calls (k : Nat) (A0 : Option Addr) (c0 : Nat) (l0 : List Int) (r1 : List Int) (r2 : Int) (r3 : Int) (w0 w : World) (hB : Below w0.heap.size w0 w) (hr0 : Kd.C (Kd.int .u8) w0 A0 l0.length l0) (hc0 : l0.length ≤ c0) (h : spec_l01From.f k l0 = some (r1, r2, r3)) :
  Calls Try.prog 123 #[.slice A0 l0.length c0] w fun e w' => ∃ g_ : Nat, e = .returned (.pointer (some ⟨g_, 0, none⟩)) ∧ IsS215 w0 w' g_ r1 r2 r3 ∧ Below w0.heap.size w0 w' ∧ Below w.heap.size w w' := by
 have hu215 := Try.underlying215
 have HR0 := Aside0.mk hr0
 have HC0 := Aside0.mk hc0
 clear hr0 hc0
 have HBW := Aside0.mk (Below.refl w.heap.size w)
 have HW0 := Aside0.mk hB.size
 have HB := Aside0.mk hB
 clear hB
 have H : (spec_l01From.l0 k l0 0 l0 0 61043) = some (r1, r2, r3) := h
 clear h
 have H' := Aside0.mk H
 clear H
 go_enter Try.func123, Try.ntmps123
 go_wp2_with (first | ((with_reducible refine gate_dst (N := 7) rfl ?_); refine box_event ?hg (N := 7) ?hd (cs := #[.slice A0 l0.length c0, .int .i64 0, .int .i64 61043]) (t := 215) ?hr ?_; (case hd => rfl); (case hg => rfl); (case hr => first | (go_simp; done) | (go_simp; rfl)); intro gb255 hg w2 hbox hb; replace HB := Aside0.mk (below_step (bl_ HB.out) hb); have BK255 := Aside0.mk (hbox); have GW255 := Aside0.mk ((by rw [hg]; exact (below_size (r11_ HBW.out)) : w.heap.size ≤ gb255)); have GE255 := Aside0.mk ((Nat.le_trans HW0.out (by rw [hg]; exact (below_size (r11_ HBW.out)) : w.heap.size ≤ gb255) : w0.heap.size ≤ gb255)); replace HBW := Aside0.mk (below_step HBW.out hb); clear hb hbox hg))
 go_loopg [4] k (fun kq v4 w' => ∃ (x4_1 : Int) (x256002_1 : Int), v4 = .int .i64 x4_1 ∧ Aside0 (spec_l01From.l0 kq l0 x4_1 l0 0 x256002_1 = some (r1, r2, r3)) ∧ Aside0 (kq ≤ k) ∧ Aside0 (w'.heap[gb255]? = some (.cells #[(.slice A0 l0.length c0), .int .i64 0, .int .i64 x256002_1] 215 (0, 0))) ∧ Aside0 (Below w0.heap.size w0 w') ∧ Aside0 (Below w.heap.size w w'))
 case atStart => exact ⟨(0), (61043), (by first | rfl | (simp; done) | (simp [*]; done)), H', ⟨Nat.le_refl _⟩, ⟨r2_ BK255.out⟩, ⟨r4_ HB.out GE255.out⟩, ⟨r4_ HBW.out GW255.out⟩⟩
 case round =>
  clear H'
  try clear c1
  try clear p2
  obtain ⟨x4_1, x256002_1, rfl, HA, HK1, BK255, HB, HBW⟩ := hrel
  cases gk with
  | zero => exact absurd HA.out (by simp [spec_l01From.l0])
  | succ k1 =>
   have H := HA.out
   clear HA
   simp only [spec_l01From.l0] at H
   by_cases c3 : x4_1 < (l0.length : Int)
   ·rw [if_pos c3] at H
    have c3b0 : decide (x4_1 < (l0.length : Int)) = true := decide_eq_true c3
    clear c3
    by_cases c4 : x4_1 < 64
    ·rw [if_pos c4] at H
     have c4b0 : decide (x4_1 < 64) = true := decide_eq_true c4
     clear c4
     by_cases c5 : 0 ≤ x4_1
     case neg =>
      rw [if_neg c5] at H
      exact absurd H (by simp)
     rw [if_pos c5] at H
     have c5b0 : decide (0 ≤ x4_1) = true := decide_eq_true c5
     clear c5
     have H' := Aside0.mk H
     clear H
     try go_wp2
     have n0_ := Aside0.mk (blk_drew BK255.out)
     have nw_ := Aside0.mk (below_drew1 HBW.out)
     clear HBW
     have HBW := nw_
     clear nw_
     have n1_ := Aside0.mk (below_drew1 HB.out)
     clear BK255
     clear HB
     have BK255 := n0_
     have HB := n1_
     clear n0_ n1_
     have p256 : 0 ≤ (x4_1 : Int) := od_
     have q256 : x4_1 < (l0.length : Int) := od_
     obtain ⟨ad256, e256, hx256_0⟩ := Kd.at_int HR0.out x4_1 p256 q256
     have hw256_0 := hx256_0
     cases e256
     replace hx256_0 := pw_cell_below HB.out hx256_0
     replace p256 := eq_true p256
     replace q256 := eq_true q256
     refine start_ (n := 16) (S := fun w' => w'.cell? ⟨gb255, 0, none⟩ = some (.slice (some ad256) l0.length c0) ∧ w'.cell? ⟨gb255, 1, none⟩ = some (.int .i64 0) ∧ w'.cell? ⟨gb255, 2, none⟩ = some (.int .i64 x256002_1) ∧ w'.cell? (ad256.add (x4_1).toNat) = some (.int .u8 (rd l0 x4_1))) (ds := [15]) #[f_,f_,f_,f_,f_,f_,f_,f_,f_,f_,f_,f_,f_,f_,f_,f_] (by kernel_rfl) rfl rfl ⟨(blk_cell BK255.out 0).trans rfl, (blk_cell BK255.out 1).trans rfl, (blk_cell BK255.out 2).trans rfl, ((HB.out.cell (World.block_lt_of_cell? w0 _ hw256_0)).trans hw256_0)⟩ (fun hHeld => ?_); refine with_tabW spec_l01From.tab5 spec_l01From.bits5 (fun HT_ HW_ => ?_)
     generalize wr.drew = w6 at BK255 HB HBW hx256_0 hHeld ⊢
     refine pu_ 0 18 #[t_,f_,f_,f_,f_,f_,f_,f_,f_,f_,f_,f_,f_,f_,f_,f_] HT_.out ?_
     refine pu_ 1 19 #[t_,t_,f_,f_,f_,f_,f_,f_,f_,f_,f_,f_,f_,f_,f_,f_] HT_.out ?_
     refine pu_ 2 20 #[t_,t_,t_,f_,f_,f_,f_,f_,f_,f_,f_,f_,f_,f_,f_,f_] HT_.out ?_
     refine pu_ 3 21 #[t_,t_,t_,t_,f_,f_,f_,f_,f_,f_,f_,f_,f_,f_,f_,f_] HT_.out ?_
     refine pu_ 6 24 #[t_,t_,t_,t_,f_,f_,t_,f_,f_,f_,f_,f_,f_,f_,f_,f_] HT_.out ?_
     refine pu_ 7 25 #[t_,t_,t_,t_,f_,f_,t_,t_,f_,f_,f_,f_,f_,f_,f_,f_] HT_.out ?_
     refine pu_ 8 26 #[t_,t_,t_,t_,f_,f_,t_,t_,t_,f_,f_,f_,f_,f_,f_,f_] HT_.out ?_
     refine take_ (i := 4) (N := some 22) (v := ?_) (a' := ?_) #[t_,t_,t_,t_,t_,f_,t_,t_,t_,f_,f_,f_,f_,f_,f_,f_] rfl rfl (take_ofW HT_.out HW_.out (by kernel_rfl)) (fun _ _ _ h => h) (Or.inl ⟨by rfl, ?_⟩) hHeld ?_ ?_
     rotate_left
     ·rintro w' ⟨s0, s1, s2, s3⟩
      go_simp
      with_reducible rfl
     rotate_left
     ·simp only [pz_]
      rfl
     refine pu_ 5 23 #[t_,t_,t_,t_,t_,t_,t_,t_,t_,f_,f_,f_,f_,f_,f_,f_] HT_.out ?_
     refine take_ (i := 9) (N := some 27) (v := ?_) (a' := ?_) #[t_,t_,t_,t_,t_,t_,t_,t_,t_,t_,f_,f_,f_,f_,f_,f_] rfl rfl (take_ofW HT_.out HW_.out (by kernel_rfl)) (fun _ _ _ h => h) (Or.inl ⟨by rfl, ?_⟩) hHeld ?_ ?_
     rotate_left
     ·rintro w' ⟨s0, s1, s2, s3⟩
      go_simp
      with_reducible rfl
     rotate_left
     ·simp only [pz_]
      rfl
     refine pu_ 10 28 #[t_,t_,t_,t_,t_,t_,t_,t_,t_,t_,t_,f_,f_,f_,f_,f_] HT_.out ?_
     refine pu_ 11 29 #[t_,t_,t_,t_,t_,t_,t_,t_,t_,t_,t_,t_,f_,f_,f_,f_] HT_.out ?_
     refine pu_ 12 30 #[t_,t_,t_,t_,t_,t_,t_,t_,t_,t_,t_,t_,t_,f_,f_,f_] HT_.out ?_
     refine pu_ 13 31 #[t_,t_,t_,t_,t_,t_,t_,t_,t_,t_,t_,t_,t_,t_,f_,f_] HT_.out ?_
     refine pu_ 14 32 #[t_,t_,t_,t_,t_,t_,t_,t_,t_,t_,t_,t_,t_,t_,t_,f_] HT_.out ?_
     refine last_ (i := 15) (N := none) #[t_,t_,t_,t_,t_,t_,t_,t_,t_,t_,t_,t_,t_,t_,t_,t_] rfl rfl (one_of HT_.out (by kernel_rfl)) (by decide) (fun K hK => ?_)
     have hs7 : w6.cell? ⟨gb255, 2, none⟩ = some (.int .i64 x256002_1) := (blk_cell BK255.out 2).trans rfl
     have hfs7 := blk_frozen BK255.out 2
     refine skip_ (w1 := ?_) (by rfl) rfl ?_ ?_
     rotate_left
     ·go_simp
      rfl
     refine hK.out _ _ ?_
     clear hK K
     refine done_ (done_of HT_.out (by kernel_rfl)) ?_
     try go_wp2
     go_roundg k1
     case measure => have := HK1.out; omega
     case rel => exact ⟨(wrap64 (x4_1 + 1)), (Int.tmod (wrap64 ((wrap64 (x256002_1 * 83)) + (wrap64 (rd l0 x4_1)))) 2147483647), (by first | rfl | (simp; done) | (simp [*]; done)), H', ⟨by have := HK1.out; omega⟩, ⟨by (with_reducible repeat (first | refine blk_drewN ?_ _ | refine blk_drew ?_ | refine blk_alloc ?_ _)); refine blk_put (cs := #[.slice (some ad256) l0.length c0, .int .i64 0, .int .i64 x256002_1]) ?_ 2 _ rfl; (with_reducible repeat (first | refine blk_drewN ?_ _ | refine blk_drew ?_ | refine blk_alloc ?_ _)); exact BK255.out⟩, ⟨r4_ HB.out GE255.out⟩, ⟨r4_ HBW.out GW255.out⟩⟩
    ·rw [if_neg c4] at H
     have c4b0 : decide (x4_1 < 64) = false := decide_eq_false c4
     clear c4
     simp only [Option.some.injEq, Prod.mk.injEq] at H
     obtain ⟨rfl, rfl, rfl⟩ := H
     go_wp2
     go_ret
     exact ⟨_, rfl, (show IsS215 w0 _ gb255 l0 0 x256002_1 from ⟨_, _, r2_ BK255.out, GE255.out, HR0.out⟩), r4_ HB.out GE255.out, r4_ HBW.out GW255.out⟩
   ·rw [if_neg c3] at H
    have c3b0 : decide (x4_1 < (l0.length : Int)) = false := decide_eq_false c3
    clear c3
    simp only [Option.some.injEq, Prod.mk.injEq] at H
    obtain ⟨rfl, rfl, rfl⟩ := H
    go_wp2
    go_ret
    exact ⟨_, rfl, (show IsS215 w0 _ gb255 l0 0 x256002_1 from ⟨_, _, r2_ BK255.out, GE255.out, HR0.out⟩), r4_ HB.out GE255.out, r4_ HBW.out GW255.out⟩
def spec_DrawWireAll.f (k : Nat) (l0 : List Int) : Option ((List (S200)) × Int × (List (S160))) := (spec_l01From.f k l0).bind fun bt257 => ((spec_l13Draw.f k bt257.1 bt257.2.1 bt257.2.2).bind fun bt261 => (some (bt261.1, bt261.2.1, bt261.2.2.1)))
set_option maxHeartbeats 8000000 in
set_option maxRecDepth 100000 in
theorem spec_DrawWireAll.calls (k : Nat) (A0 : Option Addr) (c0 : Nat) (l0 : List Int) (r1 : List (S200)) (r2 : Int) (r3 : List (S160)) (w : World) (hr0 : Kd.C (Kd.int .u8) w A0 l0.length l0) (hc0 : l0.length ≤ c0) (h : spec_DrawWireAll.f k l0 = some (r1, r2, r3)) :
    Calls Try.prog 30 #[.slice A0 l0.length c0] w fun e w' => ∃ v0_ v2_ : Value, e = .returned (.tuple #[v0_, .int .i64 r2, v2_]) ∧ Kd.R k200 200 w' w.heap.size (fun _ => True) v0_ r1 ∧ Kd.R k160 160 w' w.heap.size (fun _ => True) v2_ r3 ∧ Below w.heap.size w w' := by
  have HR0 := Aside0.mk hr0
  have HC0 := Aside0.mk hc0
  clear hr0 hc0
  have HB := Aside0.mk (Below.refl w.heap.size w)
  have H : ((spec_l01From.f k l0).bind fun bt257 => ((spec_l13Draw.f k bt257.1 bt257.2.1 bt257.2.2).bind fun bt261 => (some (bt261.1, bt261.2.1, bt261.2.2.1)))) = some (r1, r2, r3) := h
  clear h
  replace H := Option.bind_eq_some_iff.mp H
  obtain ⟨⟨t257, t258, t259⟩, A20, H⟩ := H
  replace H : ((spec_l13Draw.f k t257 t258 t259).bind fun bt261 => (some (bt261.1, bt261.2.1, bt261.2.2.1))) = some (r1, r2, r3) := H
  have A2 := Aside0.mk A20
  clear A20
  replace H := Option.bind_eq_some_iff.mp H
  obtain ⟨⟨t261, t264, t265, t268, t269⟩, A30, H⟩ := H
  replace H : (some (t261, t264, t265)) = some (r1, r2, r3) := H
  have A3 := Aside0.mk A30
  clear A30
  simp only [Option.some.injEq, Prod.mk.injEq] at H
  obtain ⟨rfl, rfl, rfl⟩ := H
  go_enter Try.func30, Try.ntmps30
  go_wp2_with (first | ((with_reducible refine gate_callee (f := 123) rfl ?_); refine goesL_ (some 6) rfl rfl Try.func123 (by kernel_rfl) rfl #[.slice A0 l0.length c0] rfl ag_ ?_; (with_reducible refine (spec_l01From.calls k _ _ l0 t257 t258 t259 w _ ?side1 ?side2 ?side3 A2.out).mono ?_); (case side1 => exact r11_ HB.out); (case side2 => exact HR0.out); (case side3 => exact HC0.out); rintro e w4 ⟨g260, rfl, hi, hb, hb2⟩; refine ⟨_, rfl, ?_⟩; replace HB := Aside0.mk (hb); have HI260 := Aside0.mk (hi); (try clear hb); (try clear hb2); (try clear hk); (try clear hi)) | ((with_reducible refine gate_callee (f := 122) rfl ?_); refine goesL_ (some 7) rfl rfl Try.func122 (by kernel_rfl) rfl #[.pointer (some ⟨g260, 0, none⟩)] rfl ag_ ?_; (with_reducible refine (spec_l13Draw.calls k g260 t257 t258 t259 t261 t264 t265 t268 t269 w _ ?side1 ?side2 A3.out).mono ?_); (case side1 => exact r0_ HI260.out); (case side2 => exact r1_ HB.out HI260.out); rintro e w5 ⟨v262, v266, rfl, ho0, ho1, hi, hb, hk⟩; refine ⟨_, rfl, ?_⟩; have HO263 := Aside0.mk (Kd.R_lower ho0 (below_size (r1_ HB.out HI260.out))); have HO267 := Aside0.mk (Kd.R_lower ho1 (below_size (r1_ HB.out HI260.out))); replace HB := Aside0.mk (hb); replace HI260 := Aside0.mk (hi); (try clear hb); (try clear hb2); (try clear hk); (try clear hi); (try clear ho0); (try clear ho1)))
  go_ret3
  exact ⟨_, _, by first | rfl | (simp [errW_none, errW_some] <;> rfl) | (simp [*, errW_none, errW_some] <;> rfl), rk_ HO263.out, rk_ HO267.out, r1_ HB.out HI260.out⟩
def impl_within.f (a0 : Int) (a1 : Int) (a2 : Int) : Option (Bool) := if a1 ≤ a0 then (some (decide (a0 ≤ a2))) else (some false)
set_option maxHeartbeats 8000000 in
set_option maxRecDepth 100000 in
theorem impl_within.calls (a0 : Int) (a1 : Int) (a2 : Int) (r : Bool) (w : World) (h : impl_within.f a0 a1 a2 = some r) :
    Calls Try.prog 130 #[.int .i64 a0, .int .i64 a1, .int .i64 a2] w fun e w' => e = .returned (.bool r) ∧ Drawn0 w w' := by
  have H : (if a1 ≤ a0 then (some (decide (a0 ≤ a2))) else (some false)) = some r := h
  clear h
  by_cases c4 : a1 ≤ a0
  · rw [if_pos c4] at H
    have c4b0 : decide (a1 ≤ a0) = true := decide_eq_true c4
    clear c4
    obtain rfl := Option.some.inj H
    go_enter Try.func130, Try.ntmps130
    go_wp2
    go_ret
    exact ⟨by first | rfl | (simp; done) | (simp [*]; done), by repeat (first | exact Drawn0.refl _ | apply Drawn0.step)⟩
  · rw [if_neg c4] at H
    have c4b0 : decide (a1 ≤ a0) = false := decide_eq_false c4
    clear c4
    obtain rfl := Option.some.inj H
    go_enter Try.func130, Try.ntmps130
    go_wp2
    go_ret
    exact ⟨by first | rfl | (simp; done) | (simp [*]; done), by repeat (first | exact Drawn0.refl _ | apply Drawn0.step)⟩
def impl_isIndex.f (a0 : Int) (a1 : Int) : Option (Bool) := (impl_within.f a0 0 (wrap64 (a1 - 1))).bind fun t270 => (some t270)
set_option maxHeartbeats 8000000 in
set_option maxRecDepth 100000 in
theorem impl_isIndex.calls (a0 : Int) (a1 : Int) (r : Bool) (w : World) (h : impl_isIndex.f a0 a1 = some r) :
    Calls Try.prog 139 #[.int .i64 a0, .int .i64 a1] w fun e w' => e = .returned (.bool r) ∧ Drawn0 w w' := by
  have H : ((impl_within.f a0 0 (wrap64 (a1 - 1))).bind fun t270 => (some t270)) = some r := h
  clear h
  replace H := Option.bind_eq_some_iff.mp H
  obtain ⟨t270, A30, H⟩ := H
  replace H : (some t270) = some r := H
  have A3 := Aside0.mk A30
  clear A30
  obtain rfl := Option.some.inj H
  go_enter Try.func139, Try.ntmps139
  go_wp2_with (first | ((with_reducible refine gate_callee (f := 130) rfl ?_); refine goesL_ (some 8) rfl rfl Try.func130 (by kernel_rfl) rfl #[.int .i64 a0, .int .i64 0, .int .i64 (wrap64 (a1 - 1))] rfl ag_ ?_; (with_reducible refine (impl_within.calls a0 0 (wrap64 (a1 - 1)) t270 _ A3.out).mono ?_); rintro e w' ⟨rfl, ⟨nd, rfl⟩⟩; refine ⟨_, rfl, ?_⟩))
  go_ret
  exact ⟨by first | rfl | (simp; done) | (simp [*]; done), by repeat (first | exact Drawn0.refl _ | apply Drawn0.step)⟩
def impl_isPin.f (l0 : List (S200)) (a1 : Int) (a2 : Int) : Option (Bool) := (impl_isIndex.f a1 (l0.length : Int)).bind fun t271 => (if t271 = true then (if 0 ≤ a1 then (if a1 < (l0.length : Int) then ((impl_within.f a2 0 (wrap64 (((rd_T200 l0 a1).f1) - 1))).bind fun t273 => (some t273)) else (none)) else (none)) else (some false))
set_option maxHeartbeats 8000000 in
set_option maxRecDepth 100000 in
theorem impl_isPin.calls (A0 : Option Addr) (c0 : Nat) (l0 : List (S200)) (a1 : Int) (a2 : Int) (r : Bool) (w : World) (hr0 : Kd.C k200 w A0 l0.length l0) (hc0 : l0.length ≤ c0) (h : impl_isPin.f l0 a1 a2 = some r) :
    Calls Try.prog 131 #[.slice A0 l0.length c0, .int .i64 a1, .int .i64 a2] w fun e w' => e = .returned (.bool r) ∧ Drawn0 w w' := by
  have HR0 := Aside0.mk hr0
  have HC0 := Aside0.mk hc0
  clear hr0 hc0
  have H : ((impl_isIndex.f a1 (l0.length : Int)).bind fun t271 => (if t271 = true then (if 0 ≤ a1 then (if a1 < (l0.length : Int) then ((impl_within.f a2 0 (wrap64 (((rd_T200 l0 a1).f1) - 1))).bind fun t273 => (some t273)) else (none)) else (none)) else (some false))) = some r := h
  clear h
  replace H := Option.bind_eq_some_iff.mp H
  obtain ⟨t271, A40, H⟩ := H
  replace H : (if t271 = true then (if 0 ≤ a1 then (if a1 < (l0.length : Int) then ((impl_within.f a2 0 (wrap64 (((rd_T200 l0 a1).f1) - 1))).bind fun t273 => (some t273)) else (none)) else (none)) else (some false)) = some r := H
  have A4 := Aside0.mk A40
  clear A40
  by_cases c5 : t271 = true
  · subst c5
    replace H : (if 0 ≤ a1 then (if a1 < (l0.length : Int) then ((impl_within.f a2 0 (wrap64 (((rd_T200 l0 a1).f1) - 1))).bind fun t273 => (some t273)) else (none)) else (none)) = some r := by rw [if_pos rfl] at H; exact H
    by_cases c6 : 0 ≤ a1
    · rw [if_pos c6] at H
      have c6b0 : decide (0 ≤ a1) = true := decide_eq_true c6
      clear c6
      by_cases c7 : a1 < (l0.length : Int)
      · rw [if_pos c7] at H
        have c7b0 : decide (a1 < (l0.length : Int)) = true := decide_eq_true c7
        clear c7
        replace H := Option.bind_eq_some_iff.mp H
        obtain ⟨t273, A80, H⟩ := H
        replace H : (some t273) = some r := H
        have A8 := Aside0.mk A80
        clear A80
        obtain rfl := Option.some.inj H
        go_enter Try.func131, Try.ntmps131
        go_wp2_with (first | ((with_reducible refine gate_callee (f := 139) rfl ?_); refine goesL_ (some 10) rfl rfl Try.func139 (by kernel_rfl) rfl #[.int .i64 a1, .int .i64 (l0.length : Int)] rfl ag_ ?_; (with_reducible refine (impl_isIndex.calls a1 (l0.length : Int) true _ A4.out).mono ?_); rintro e w' ⟨rfl, ⟨nd, rfl⟩⟩; refine ⟨_, rfl, ?_⟩; have p272 : 0 ≤ (a1 : Int) := od_; have q272 : a1 < (l0.length : Int) := od_; obtain ⟨ad272, e272, hx272_0, hx272_1⟩ := at_T200 HR0.out a1 p272 q272; cases e272; replace p272 := eq_true p272; replace q272 := eq_true q272) | (go_at_call 130; (with_reducible refine (impl_within.calls a2 0 (wrap64 (((rd_T200 l0 a1).f1) - 1)) t273 _ A8.out).mono ?_); rintro e w' ⟨rfl, ⟨nd, rfl⟩⟩))
        go_ret
        exact ⟨by first | rfl | (simp; done) | (simp [*]; done), by repeat (first | exact Drawn0.refl _ | apply Drawn0.step)⟩
      · rw [if_neg c7] at H
        exact absurd H (by simp)
    · rw [if_neg c6] at H
      exact absurd H (by simp)
  · replace c5 := Bool.eq_false_iff.mpr c5
    subst c5
    replace H : (some false) = some r := by rw [if_neg (show ¬ (false = true) by decide)] at H; exact H
    obtain rfl := Option.some.inj H
    go_enter Try.func131, Try.ntmps131
    go_wp2_with (first | ((with_reducible refine gate_callee (f := 139) rfl ?_); refine goesL_ (some 10) rfl rfl Try.func139 (by kernel_rfl) rfl #[.int .i64 a1, .int .i64 (l0.length : Int)] rfl ag_ ?_; (with_reducible refine (impl_isIndex.calls a1 (l0.length : Int) false _ A4.out).mono ?_); rintro e w' ⟨rfl, ⟨nd, rfl⟩⟩; refine ⟨_, rfl, ?_⟩))
    go_ret
    exact ⟨by first | rfl | (simp; done) | (simp [*]; done), by repeat (first | exact Drawn0.refl _ | apply Drawn0.step)⟩
end Go.Proofs.Ytedcdhnbceaaeaa.PFnWired
