/- QFnWiresg of the law FnWires: taken over, declaration by declaration, as far as the law leans on it (the words and the printed functions are the kit's own print). No condition but what each says. -/
import Derived.Test.YtalcbcelalbhiaaZFnWiresav
import Derived.Test.YtalcbcelalbhiaaZFnWiresaw
import Derived.Test.YtalcbcelalbhiaaZFnWiresbb
import Derived.Test.YtalcbcelalbhiaaZFnWiresbc
namespace Go.Proofs.Ytalcbcelalbhiaa.PFnWires
open Go.RowKit Go.Proofs.YtalcbcelalbhiaaW.PrintWords Go.Proofs.YtalcbcelalbhiaaW.PrintLast Go.Proofs.YtalcbcelalbhiaaW.PrintMore
attribute [local go_sem] max2_int min2_int max_two min_two max_three min_three max_four min_four   -- for this text's walks alone
set_option linter.unusedVariables false
set_option linter.unusedSimpArgs false
open Bool renaming true → t_, false → f_
def spec_l12Draw.l0 : Nat → List (S98) → List Int → Int → Int → Option ((List (S98)) × Int × Int)
 | 0, _, _, _, _ => none
 | k + 1, x3, x1000, x1001, x1002 => (spec_l01Next.f x1000 x1001 x1002 2).bind fun bt345 => (if (x3.length : Int) < (wrap64 (12 + bt345.1)) then (if x3.length < 8796093022208 then (spec_l12Draw.l0 k (x3 ++ [(⟨0, 1⟩ : S98)]) x1000 bt345.2.1 bt345.2.2) else (none)) else (some (x3, bt345.2.1, bt345.2.2)))
def spec_l12Draw.f (k : Nat) (s0_0 : List Int) (s0_1 : Int) (s0_2 : Int) : Option ((List (S98)) × Int × Int) := (spec_l12Good.f k s0_0 s0_1 s0_2).bind fun bt320 => ((spec_l01Next.f s0_0 bt320.2.1 bt320.2.2 (bt320.1.length : Int)).bind fun bt325 => ((spec_l01Next.f s0_0 bt325.2.1 bt325.2.2 40).bind fun bt328 => (if bt328.1 = 0 then ((spec_l01Pick.f s0_0 bt328.2.1 bt328.2.2 (([bt325.1, wrap64 (bt325.1 - 1), (-1), (-2)] : List Int))).bind fun bt334 => (if 0 ≤ bt325.1 then (if bt325.1 < (bt320.1.length : Int) then (some ((bt320.1.set (bt325.1 : Int).toNat (⟨bt334.1, (rd_T98 bt320.1 bt325.1).f1⟩ : S98)), bt334.2.1, bt334.2.2)) else (none)) else (none))) else (if bt328.1 = 1 then ((spec_l01Pick.f s0_0 bt328.2.1 bt328.2.2 (([(-1), 32, 33] : List Int))).bind fun bt341 => (if 0 ≤ bt325.1 then (if bt325.1 < (bt320.1.length : Int) then (some ((bt320.1.set (bt325.1 : Int).toNat (⟨(rd_T98 bt320.1 bt325.1).f0, bt341.1⟩ : S98)), bt341.2.1, bt341.2.2)) else (none)) else (none))) else (if bt328.1 = 2 then (spec_l12Draw.l0 k bt320.1 s0_0 bt328.2.1 bt328.2.2) else (if bt328.1 = 3 then (if 0 ≤ (bt320.1.length : Int) then (some ((bt320.1.take (0 : Int).toNat), bt328.2.1, bt328.2.2)) else (none)) else (some (bt320.1, bt328.2.1, bt328.2.2))))))))
theorem spec_l12Draw.mono_l : ∀ k, (∀ y0 y1 y2 y3, LeO (spec_l12Draw.l0 k y0 y1 y2 y3) (spec_l12Draw.l0 (k + 1) y0 y1 y2 y3))
 | 0 => fun _ _ _ _ r h => by simp [spec_l12Draw.l0] at h
 | k + 1 => by
  have ih0 := spec_l12Draw.mono_l k
  ·intro y0 y1 y2 y3
   unfold spec_l12Draw.l0
   repeat' first
   | (with_reducible exact ih0 _ _ _ _)
   | (with_reducible exact spec_l12Good.mono _ _ _ _)
   | (with_reducible exact LeO.refl _)
   | (with_reducible exact LeO.none _)
   | (with_reducible refine LeO.ite ?_ ?_)
   | (with_reducible refine LeO.bind ?_ (fun _ => ?_))
   | exact ih0 _ _ _ _
   | exact spec_l12Good.mono _ _ _ _
   | exact LeO.none _
   | refine LeO.ite ?_ ?_
   | refine LeO.bind ?_ (fun _ => ?_)
theorem spec_l12Draw.mono : ∀ a0 a1 a2 k, LeO (spec_l12Draw.f k a0 a1 a2) (spec_l12Draw.f (k + 1) a0 a1 a2) := by
 intro a0 a1 a2 k
 have ih0 := spec_l12Draw.mono_l k
 unfold spec_l12Draw.f
 repeat' first
   | (with_reducible exact ih0 _ _ _ _)
   | (with_reducible exact spec_l12Good.mono _ _ _ _)
   | (with_reducible exact LeO.refl _)
   | (with_reducible exact LeO.none _)
   | (with_reducible refine LeO.ite ?_ ?_)
   | (with_reducible refine LeO.bind ?_ (fun _ => ?_))
   | exact ih0 _ _ _ _
   | exact spec_l12Good.mono _ _ _ _
   | exact LeO.none _
   | refine LeO.ite ?_ ?_
   | refine LeO.bind ?_ (fun _ => ?_)
set_option maxHeartbeats 8000000 in
set_option maxRecDepth 100000 in
theorem spec_l12Draw.calls (k : Nat) (g : Nat) (s0_0 : List Int) (s0_1 : Int) (s0_2 : Int) (r1 : List (S98)) (r2 : Int) (r3 : Int) (w0 w : World) (hI : IsS167 w0 w g s0_0 s0_1 s0_2) (hB : Below w0.heap.size w0 w) (h : spec_l12Draw.f k s0_0 s0_1 s0_2 = some (r1, r2, r3)) :
  Calls Try.prog 154 #[.pointer (some ⟨g, 0, none⟩)] w fun e w' => ∃ v0_ : Value, e = .returned (v0_) ∧ Kd.R k98 98 w' w.heap.size (fun _ => True) v0_ r1 ∧ IsS167 w0 w' g s0_0 r2 r3 ∧ Below w0.heap.size w0 w' ∧ KeepBut w w' g none := by
 have hu98 := Try.underlying98
 have HI0 := Aside0.mk hI
 have HK := Aside0.mk (KeepBut.refl w g none)
 have HL := Aside0.mk hB.size
 clear hI
 have HW0 := Aside0.mk hB.size
 have HB := Aside0.mk hB
 clear hB
 have H : ((spec_l12Good.f k s0_0 s0_1 s0_2).bind fun bt320 => ((spec_l01Next.f s0_0 bt320.2.1 bt320.2.2 (bt320.1.length : Int)).bind fun bt325 => ((spec_l01Next.f s0_0 bt325.2.1 bt325.2.2 40).bind fun bt328 => (if bt328.1 = 0 then ((spec_l01Pick.f s0_0 bt328.2.1 bt328.2.2 (([bt325.1, wrap64 (bt325.1 - 1), (-1), (-2)] : List Int))).bind fun bt334 => (if 0 ≤ bt325.1 then (if bt325.1 < (bt320.1.length : Int) then (some ((bt320.1.set (bt325.1 : Int).toNat (⟨bt334.1, (rd_T98 bt320.1 bt325.1).f1⟩ : S98)), bt334.2.1, bt334.2.2)) else (none)) else (none))) else (if bt328.1 = 1 then ((spec_l01Pick.f s0_0 bt328.2.1 bt328.2.2 (([(-1), 32, 33] : List Int))).bind fun bt341 => (if 0 ≤ bt325.1 then (if bt325.1 < (bt320.1.length : Int) then (some ((bt320.1.set (bt325.1 : Int).toNat (⟨(rd_T98 bt320.1 bt325.1).f0, bt341.1⟩ : S98)), bt341.2.1, bt341.2.2)) else (none)) else (none))) else (if bt328.1 = 2 then (spec_l12Draw.l0 k bt320.1 s0_0 bt328.2.1 bt328.2.2) else (if bt328.1 = 3 then (if 0 ≤ (bt320.1.length : Int) then (some ((bt320.1.take (0 : Int).toNat), bt328.2.1, bt328.2.2)) else (none)) else (some (bt320.1, bt328.2.1, bt328.2.2))))))))) = some (r1, r2, r3) := h
 clear h
 replace H := Option.bind_eq_some_iff.mp H
 obtain ⟨⟨t320, t323, t324⟩, A20, H⟩ := H
 replace H : ((spec_l01Next.f s0_0 t323 t324 (t320.length : Int)).bind fun bt325 => ((spec_l01Next.f s0_0 bt325.2.1 bt325.2.2 40).bind fun bt328 => (if bt328.1 = 0 then ((spec_l01Pick.f s0_0 bt328.2.1 bt328.2.2 (([bt325.1, wrap64 (bt325.1 - 1), (-1), (-2)] : List Int))).bind fun bt334 => (if 0 ≤ bt325.1 then (if bt325.1 < (t320.length : Int) then (some ((t320.set (bt325.1 : Int).toNat (⟨bt334.1, (rd_T98 t320 bt325.1).f1⟩ : S98)), bt334.2.1, bt334.2.2)) else (none)) else (none))) else (if bt328.1 = 1 then ((spec_l01Pick.f s0_0 bt328.2.1 bt328.2.2 (([(-1), 32, 33] : List Int))).bind fun bt341 => (if 0 ≤ bt325.1 then (if bt325.1 < (t320.length : Int) then (some ((t320.set (bt325.1 : Int).toNat (⟨(rd_T98 t320 bt325.1).f0, bt341.1⟩ : S98)), bt341.2.1, bt341.2.2)) else (none)) else (none))) else (if bt328.1 = 2 then (spec_l12Draw.l0 k t320 s0_0 bt328.2.1 bt328.2.2) else (if bt328.1 = 3 then (if 0 ≤ (t320.length : Int) then (some ((t320.take (0 : Int).toNat), bt328.2.1, bt328.2.2)) else (none)) else (some (t320, bt328.2.1, bt328.2.2)))))))) = some (r1, r2, r3) := H
 have A2 := Aside0.mk A20
 clear A20
 replace H := Option.bind_eq_some_iff.mp H
 obtain ⟨⟨t325, t326, t327⟩, A30, H⟩ := H
 replace H : ((spec_l01Next.f s0_0 t326 t327 40).bind fun bt328 => (if bt328.1 = 0 then ((spec_l01Pick.f s0_0 bt328.2.1 bt328.2.2 (([t325, wrap64 (t325 - 1), (-1), (-2)] : List Int))).bind fun bt334 => (if 0 ≤ t325 then (if t325 < (t320.length : Int) then (some ((t320.set (t325 : Int).toNat (⟨bt334.1, (rd_T98 t320 t325).f1⟩ : S98)), bt334.2.1, bt334.2.2)) else (none)) else (none))) else (if bt328.1 = 1 then ((spec_l01Pick.f s0_0 bt328.2.1 bt328.2.2 (([(-1), 32, 33] : List Int))).bind fun bt341 => (if 0 ≤ t325 then (if t325 < (t320.length : Int) then (some ((t320.set (t325 : Int).toNat (⟨(rd_T98 t320 t325).f0, bt341.1⟩ : S98)), bt341.2.1, bt341.2.2)) else (none)) else (none))) else (if bt328.1 = 2 then (spec_l12Draw.l0 k t320 s0_0 bt328.2.1 bt328.2.2) else (if bt328.1 = 3 then (if 0 ≤ (t320.length : Int) then (some ((t320.take (0 : Int).toNat), bt328.2.1, bt328.2.2)) else (none)) else (some (t320, bt328.2.1, bt328.2.2))))))) = some (r1, r2, r3) := H
 have A3 := Aside0.mk A30
 clear A30
 replace H := Option.bind_eq_some_iff.mp H
 obtain ⟨⟨t328, t329, t330⟩, A40, H⟩ := H
 replace H : (if t328 = 0 then ((spec_l01Pick.f s0_0 t329 t330 (([t325, wrap64 (t325 - 1), (-1), (-2)] : List Int))).bind fun bt334 => (if 0 ≤ t325 then (if t325 < (t320.length : Int) then (some ((t320.set (t325 : Int).toNat (⟨bt334.1, (rd_T98 t320 t325).f1⟩ : S98)), bt334.2.1, bt334.2.2)) else (none)) else (none))) else (if t328 = 1 then ((spec_l01Pick.f s0_0 t329 t330 (([(-1), 32, 33] : List Int))).bind fun bt341 => (if 0 ≤ t325 then (if t325 < (t320.length : Int) then (some ((t320.set (t325 : Int).toNat (⟨(rd_T98 t320 t325).f0, bt341.1⟩ : S98)), bt341.2.1, bt341.2.2)) else (none)) else (none))) else (if t328 = 2 then (spec_l12Draw.l0 k t320 s0_0 t329 t330) else (if t328 = 3 then (if 0 ≤ (t320.length : Int) then (some ((t320.take (0 : Int).toNat), t329, t330)) else (none)) else (some (t320, t329, t330)))))) = some (r1, r2, r3) := H
 have A4 := Aside0.mk A40
 clear A40
 by_cases c5 : t328 = 0
 ·rw [if_pos c5] at H
  have c5b0 : (t328 == 0) = true := beq_iff_eq.mpr c5
  have c5b1 : (t328 != 0) = false := bne_eq_false_iff_eq.mpr c5
  clear c5
  obtain ⟨y331, hy331⟩ : ∃ y_ : List Int, y_ = (([t325, wrap64 (t325 - 1), (-1), (-2)] : List Int)) := ⟨_, rfl⟩
  replace H : ((spec_l01Pick.f s0_0 t329 t330 y331).bind fun bt334 => (if 0 ≤ t325 then (if t325 < (t320.length : Int) then (some ((t320.set (t325 : Int).toNat (⟨bt334.1, (rd_T98 t320 t325).f1⟩ : S98)), bt334.2.1, bt334.2.2)) else (none)) else (none))) = some (r1, r2, r3) := by first | (rw [hy331]; with_reducible exact H) | (have H2_ := (Option.bind_some _ _).symm.trans H; rw [hy331]; with_reducible exact H2_) | (have H2_ := (Option.bind_some _ _).symm.trans H; with_reducible exact H2_) | with_reducible exact H | (rw [hy331]; exact H) | exact H
  have Ny331 := Aside0.mk hy331
  clear hy331
  replace H := Option.bind_eq_some_iff.mp H
  obtain ⟨⟨t334, t335, t336⟩, A60, H⟩ := H
  replace H : (if 0 ≤ t325 then (if t325 < (t320.length : Int) then (some ((t320.set (t325 : Int).toNat (⟨t334, (rd_T98 t320 t325).f1⟩ : S98)), t335, t336)) else (none)) else (none)) = some (r1, r2, r3) := H
  have A6 := Aside0.mk A60
  clear A60
  by_cases c7 : 0 ≤ t325
  case neg =>
   rw [if_neg c7] at H
   exact absurd H (by simp)
  rw [if_pos c7] at H
  have c7b0 : decide (0 ≤ t325) = true := decide_eq_true c7
  clear c7
  by_cases c8 : t325 < (t320.length : Int)
  case neg =>
   rw [if_neg c8] at H
   exact absurd H (by simp)
  rw [if_pos c8] at H
  have c8b0 : decide (t325 < (t320.length : Int)) = true := decide_eq_true c8
  clear c8
  obtain ⟨y337, hy337⟩ : ∃ y_ : List (S98), y_ = (t320.set (t325 : Int).toNat (⟨t334, (rd_T98 t320 t325).f1⟩ : S98)) := ⟨_, rfl⟩
  replace H : (some (y337, t335, t336)) = some (r1, r2, r3) := by first | (rw [hy337]; with_reducible exact H) | (have H2_ := (Option.bind_some _ _).symm.trans H; rw [hy337]; with_reducible exact H2_) | (have H2_ := (Option.bind_some _ _).symm.trans H; with_reducible exact H2_) | with_reducible exact H | (rw [hy337]; exact H) | exact H
  have Ny337 := Aside0.mk hy337
  clear hy337
  simp only [Option.some.injEq, Prod.mk.injEq] at H
  obtain ⟨rfl, rfl, rfl⟩ := H
  go_enter Try.func154, Try.ntmps154
  go_wp2_with (first | ((with_reducible refine gate_callee (f := 165) rfl ?_); refine goesL_ (some 6) rfl rfl Try.func165 (by kernel_rfl) rfl #[.pointer (some ⟨g, 0, none⟩)] rfl ag_ ?_; (with_reducible refine (spec_l12Good.calls k g s0_0 s0_1 s0_2 t320 t323 t324 w0 _ ?side1 ?side2 A2.out).mono ?_); (case side1 => exact r0_ HI0.out); (case side2 => exact r3_ HB.out HI0.out); rintro e w10 ⟨v321, rfl, ho0, hi, hb, hk⟩; refine ⟨_, rfl, ?_⟩; have n0_ := Aside0.mk (Kd.R_lower ho0 (keep_size (w := w) (g := g) (row := none) (r2_ HK.out))); have n1_ := Aside0.mk (KeepBut.trans (r2_ HK.out) hk (.inl rfl)); have n2_ := Aside0.mk (hb); have n3_ := Aside0.mk (hi); clear HK; clear HB; clear HI0; have HO322 := n0_; have HK := n1_; have HB := n2_; have HI0 := n3_; clear n0_ n1_ n2_ n3_; (try clear hb); (try clear hb2); (try clear hk); (try clear hi); (try clear ho0); obtain ⟨Ao11, co11, eo11⟩ := Kd.R_slice HO322.out; subst eo11) | ((with_reducible refine gate_callee (f := 119) rfl ?_); refine goesL_ (some 10) rfl rfl Try.func119 (by kernel_rfl) rfl #[.pointer (some ⟨g, 0, none⟩), .int .i64 (t320.length : Int)] rfl ag_ ?_; (with_reducible refine (spec_l01Next.calls g s0_0 t323 t324 (t320.length : Int) t325 t326 t327 w0 _ ?side1 ?side2 A3.out).mono ?_); (case side1 => exact r0_ HI0.out); (case side2 => exact r3_ HB.out HI0.out); rintro e w12 ⟨rfl, hi, hb, hk⟩; refine ⟨_, rfl, ?_⟩; have n0_ := Aside0.mk (Kd.R_mono (Kd.R_keep (IsS167.apart (show IsS167 w0 _ g s0_0 t323 t324 from r0_ HI0.out) (rk_ HO322.out) (by decide)) hk (fun _ h => h.2)) (fun _ h => h.1)); have n1_ := Aside0.mk (KeepBut.trans (r2_ HK.out) hk (.inl rfl)); have n2_ := Aside0.mk (hb); have n3_ := Aside0.mk (hi); clear HO322; clear HK; clear HB; clear HI0; have HO322 := n0_; have HK := n1_; have HB := n2_; have HI0 := n3_; clear n0_ n1_ n2_ n3_; (try clear hb); (try clear hb2); (try clear hk); (try clear hi)) | ((with_reducible refine gate_callee (f := 119) rfl ?_); refine goesL_ (some 12) rfl rfl Try.func119 (by kernel_rfl) rfl #[.pointer (some ⟨g, 0, none⟩), .int .i64 40] rfl ag_ ?_; (with_reducible refine (spec_l01Next.calls g s0_0 t326 t327 40 t328 t329 t330 w0 _ ?side1 ?side2 A4.out).mono ?_); (case side1 => exact r0_ HI0.out); (case side2 => exact r3_ HB.out HI0.out); rintro e w13 ⟨rfl, hi, hb, hk⟩; refine ⟨_, rfl, ?_⟩; have n0_ := Aside0.mk (Kd.R_mono (Kd.R_keep (IsS167.apart (show IsS167 w0 _ g s0_0 t326 t327 from r0_ HI0.out) (rk_ HO322.out) (by decide)) hk (fun _ h => h.2)) (fun _ h => h.1)); have n1_ := Aside0.mk (KeepBut.trans (r2_ HK.out) hk (.inl rfl)); have n2_ := Aside0.mk (hb); have n3_ := Aside0.mk (hi); clear HO322; clear HK; clear HB; clear HI0; have HO322 := n0_; have HK := n1_; have HB := n2_; have HI0 := n3_; clear n0_ n1_ n2_ n3_; (try clear hb); (try clear hb2); (try clear hk); (try clear hi)) | ((with_reducible refine gate_dst (N := 21) rfl ?_); refine Kd.R_lit (Kd.int .i64) _ 2 ?hg (N := 21) ?hd (xs := ([t325, wrap64 (t325 - 1), (-1), (-2)] : List Int)) (inner := [.int .i64 t325, .int .i64 (wrap64 (t325 - 1)), .int .i64 (-1), .int .i64 (-2)]) (ok := fun _ => True) (okp := fun _ => True) ?hr ?hp (fun _ hk => hk) trivial (Below.refl _ _) (Nat.le_refl _) (by simp) ?_; (case hd => rfl); (case hg => rfl); (case hr => first | (go_simp; done) | (go_simp; rfl)); (case hp => exact (Reps.one (show Kd.M (Kd.int .i64) _ _ _ t325 [.int .i64 t325] from rfl) (Reps.one (show Kd.M (Kd.int .i64) _ _ _ (wrap64 (t325 - 1)) [.int .i64 (wrap64 (t325 - 1))] from rfl) (Reps.one (show Kd.M (Kd.int .i64) _ _ _ (-1) [.int .i64 (-1)] from rfl) (Reps.one (show Kd.M (Kd.int .i64) _ _ _ (-2) [.int .i64 (-2)] from rfl) (Reps.none _ _)))))); intro v332 w14 ho15 hb hg_ hnew_; clear hg_ hnew_; (first | rw [← Ny331.out] at ho15 | (simp only [Int.reduceToNat] at ho15; rw [← Ny331.out] at ho15)); have n0_ := Aside0.mk (Kd.R_below (rk_ HO322.out) hb); have n1_ := Aside0.mk (Kd.R_lower ho15 (keep_size (w := w) (g := g) (row := none) (r2_ HK.out))); have n2_ := Aside0.mk (IsS167.below (r0_ HI0.out) hb); have n3_ := Aside0.mk (KeepBut.trans (r2_ HK.out) (KeepBut.of_below hb g none) (.inl rfl)); have n4_ := Aside0.mk (below_step (r3_ HB.out HI0.out) hb); clear HO322; clear HI0; clear HK; clear HB; have HO322 := n0_; have HO333 := n1_; have HI0 := n2_; have HK := n3_; have HB := n4_; clear n0_ n1_ n2_ n3_ n4_; clear hb ho15; obtain ⟨Ao16, co16, eo16⟩ := Kd.R_slice HO333.out; subst eo16) | ((with_reducible refine gate_callee (f := 150) rfl ?_); refine goesL_ (some 22) rfl rfl Try.func150 (by kernel_rfl) rfl #[.pointer (some ⟨g, 0, none⟩), .slice Ao16 y331.length co16] rfl ag_ ?_; (with_reducible refine (spec_l01Pick.calls g s0_0 t329 t330 _ _ y331 t334 t335 t336 w0 _ ?side1 ?side2 ?side3 ?side4 ?side5 A6.out).mono ?_); (case side1 => exact r0_ HI0.out); (case side2 => exact r3_ HB.out HI0.out); (case side3 => exact r8_ HO333.out); (case side4 => exact (Kd.R_reads' HO333.out).2.1); (case side5 => exact far_slice (IsS167.own_ne HI0.out HO333.out (by decide))); rintro e w17 ⟨rfl, hi, hb, hk⟩; refine ⟨_, rfl, ?_⟩; have n0_ := Aside0.mk (Kd.R_mono (Kd.R_keep (IsS167.apart (show IsS167 w0 _ g s0_0 t329 t330 from r0_ HI0.out) (rk_ HO322.out) (by decide)) hk (fun _ h => h.2)) (fun _ h => h.1)); have n1_ := Aside0.mk (Kd.R_mono (Kd.R_keep (IsS167.apart (show IsS167 w0 _ g s0_0 t329 t330 from r0_ HI0.out) (rk_ HO333.out) (by decide)) hk (fun _ h => h.2)) (fun _ h => h.1)); have n2_ := Aside0.mk (KeepBut.trans (r2_ HK.out) hk (.inl rfl)); have n3_ := Aside0.mk (hb); have n4_ := Aside0.mk (hi); clear HO322; clear HO333; clear HK; clear HB; clear HI0; have HO322 := n0_; have HO333 := n1_; have HK := n2_; have HB := n3_; have HI0 := n4_; clear n0_ n1_ n2_ n3_ n4_; (try clear hb); (try clear hb2); (try clear hk); (try clear hi); have p9 : 0 ≤ (t325 : Int) := od_; have q9 : (t325 : Int) < ((t320.length : Int) : Int) := od_; obtain ⟨go9, co9, eo9, gb9, gl9, cl9, HG9⟩ := Kd.R_form HO322.out (by omega); (first | cases eo9 | (injection eo9 with ea_ en_ ec_; (first | subst ea_ | (injection ea_ with ea_; subst ea_)); subst ec_; clear en_)); have GB9 := Aside0.mk gb9; have GG9 := Aside0.mk HG9; clear gb9 gl9 HG9; obtain ⟨ce9, hcl9, hM9, hcc9, hfr9⟩ := Kd.R_elem HO322.out z98 (t325 : Int) p9 q9; obtain rfl := k98_openM hM9; have hx9_0 : w17.cell? ⟨go9, (t325 : Int).toNat * 2, none⟩ = some (.int .i64 ((rd_T98 t320 t325).f0)) := hcc9 0 _ rfl; have hx9_1 : w17.cell? ⟨go9, (t325 : Int).toNat * 2 + 1, none⟩ = some (.int .i64 ((rd_T98 t320 t325).f1)) := hcc9 1 _ rfl; have hf9_0 : w17.frozen? ⟨go9, (t325 : Int).toNat * 2, none⟩ = false := hfr9 0; have hf9_1 : w17.frozen? ⟨go9, (t325 : Int).toNat * 2 + 1, none⟩ = false := hfr9 1; clear hcl9 hcc9 hfr9 hM9; replace p9 := eq_true p9; replace q9 := eq_true q9; have HX18 := Aside0.mk (show Kd.R k98 98 w17 w.heap.size (fun _ => True) (.slice (some ⟨go9, 0, none⟩) t320.length co11) t320 from (rk_ HO322.out)); obtain ⟨ce18, hcl18, hM18, hcc18, hfr18⟩ := Kd.R_elem HX18.out z98 (t325 : Int) od_ (by have h_ : (t325 : Int) < ((t320.length : Int) : Int) := od_; first | exact h_ | (have e_ := (Kd.R_reads' HO322.out).1; omega) | simpa using h_); obtain rfl := k98_openM hM18; have HP18 := Kd.R_seg HX18.out (t325 : Int) od_ (by have h_ : (t325 : Int) < ((t320.length : Int) : Int) := od_; first | exact h_ | (have e_ := (Kd.R_reads' HO322.out).1; omega) | simpa using h_) (seg := [.int .i64 t334]) (j := 0) hcl18 hcc18 (show 1 ≤ 2 from by decide) (x' := (⟨t334, (rd_T98 t320 t325).f1⟩ : S98)) (k98_mkM _ _ _ (⟨t334, (rd_T98 t320 t325).f1⟩ : S98) ) (fun _ hk => hk); have hx18_0 := hcc18 0 _ rfl; (try simp only [show (k98).sz = 2 from rfl, Nat.mul_one, Nat.add_zero] at hx18_0); have hf18_0 := hfr18 0; (try simp only [show (k98).sz = 2 from rfl, Nat.mul_one, Nat.add_zero] at hf18_0); clear hcl18 hcc18 hfr18 hM18) | ((with_reducible refine gate_store (t := 2) (p := 24) rfl ?_); refine store_event (t := 2) (p := 24) (v := ?vo_w19) (w1 := (w17.setCell ⟨go9, (t325 : Int).toNat * 2, none⟩ (.int .i64 t334))) ?hg ?ho ?hn ?hr ?_; (case ho => rfl); (case hg => rfl); (case hn => rfl); (case hr => first | (go_simp; done) | (go_simp; rfl)); intro w19 hw; have hg : w17.grownBy w19 (some go9) := (by rw [hw]; exact HP18.2); have hp_ : Kd.R k98 98 w19 w.heap.size (fun _ => True) (.slice (some ⟨go9, 0, none⟩) t320.length co11) y337 := (by rw [hw, Ny337.out]; exact HP18.1); clear HP18; have n0_ := Aside0.mk (IsS167.grown (r0_ HI0.out) hg (IsS167.own_ne HI0.out HO322.out (by decide))); have n1_ := Aside0.mk (hp_); have n2_ := Aside0.mk (Kd.R_over' (v := (.slice (some ⟨go9, 0, none⟩) t320.length co11)) (rk_ HO333.out) (Kd.R_typed HO322.out) (by decide) hg); have n3_ := Aside0.mk ((by rw [hw]; exact below_set (HB.out) (Nat.le_trans HL.out GB9.out) : Below w0.heap.size w0 w19)); have n4_ := Aside0.mk (KeepBut.trans (r2_ HK.out) (KeepBut.of_grown hg g) (Kd.R_base2 HO322.out)); clear HI0; clear HO322; clear HO333; clear HB; clear HK; have HI0 := n0_; have HO322 := n1_; have HO333 := n2_; have HB := n3_; have HK := n4_; clear n0_ n1_ n2_ n3_ n4_; clear hg hw hp_))
  go_ret
  exact ⟨_, by first | rfl | (simp [errW_none, errW_some] <;> rfl) | (simp [*, errW_none, errW_some] <;> rfl), rk_ HO322.out, r0_ HI0.out, r3_ HB.out HI0.out, r2_ HK.out⟩
 ·rw [if_neg c5] at H
  have c5b0 : (t328 == 0) = false := beq_eq_false_iff_ne.mpr c5
  have c5b1 : (t328 != 0) = true := bne_iff_ne.mpr c5
  by_cases c20 : t328 = 1
  ·rw [if_pos c20] at H
   have c20b0 : (t328 == 1) = true := beq_iff_eq.mpr c20
   have c20b1 : (t328 != 1) = false := bne_eq_false_iff_eq.mpr c20
   clear c20
   obtain ⟨y338, hy338⟩ : ∃ y_ : List Int, y_ = (([(-1), 32, 33] : List Int)) := ⟨_, rfl⟩
   replace H : ((spec_l01Pick.f s0_0 t329 t330 y338).bind fun bt341 => (if 0 ≤ t325 then (if t325 < (t320.length : Int) then (some ((t320.set (t325 : Int).toNat (⟨(rd_T98 t320 t325).f0, bt341.1⟩ : S98)), bt341.2.1, bt341.2.2)) else (none)) else (none))) = some (r1, r2, r3) := by first | (rw [hy338]; with_reducible exact H) | (have H2_ := (Option.bind_some _ _).symm.trans H; rw [hy338]; with_reducible exact H2_) | (have H2_ := (Option.bind_some _ _).symm.trans H; with_reducible exact H2_) | with_reducible exact H | (rw [hy338]; exact H) | exact H
   have Ny338 := Aside0.mk hy338
   clear hy338
   replace H := Option.bind_eq_some_iff.mp H
   obtain ⟨⟨t341, t342, t343⟩, A210, H⟩ := H
   replace H : (if 0 ≤ t325 then (if t325 < (t320.length : Int) then (some ((t320.set (t325 : Int).toNat (⟨(rd_T98 t320 t325).f0, t341⟩ : S98)), t342, t343)) else (none)) else (none)) = some (r1, r2, r3) := H
   have A21 := Aside0.mk A210
   clear A210
   by_cases c22 : 0 ≤ t325
   case neg =>
    rw [if_neg c22] at H
    exact absurd H (by simp)
   rw [if_pos c22] at H
   have c22b0 : decide (0 ≤ t325) = true := decide_eq_true c22
   clear c22
   by_cases c23 : t325 < (t320.length : Int)
   case neg =>
    rw [if_neg c23] at H
    exact absurd H (by simp)
   rw [if_pos c23] at H
   have c23b0 : decide (t325 < (t320.length : Int)) = true := decide_eq_true c23
   clear c23
   obtain ⟨y344, hy344⟩ : ∃ y_ : List (S98), y_ = (t320.set (t325 : Int).toNat (⟨(rd_T98 t320 t325).f0, t341⟩ : S98)) := ⟨_, rfl⟩
   replace H : (some (y344, t342, t343)) = some (r1, r2, r3) := by first | (rw [hy344]; with_reducible exact H) | (have H2_ := (Option.bind_some _ _).symm.trans H; rw [hy344]; with_reducible exact H2_) | (have H2_ := (Option.bind_some _ _).symm.trans H; with_reducible exact H2_) | with_reducible exact H | (rw [hy344]; exact H) | exact H
   have Ny344 := Aside0.mk hy344
   clear hy344
   simp only [Option.some.injEq, Prod.mk.injEq] at H
   obtain ⟨rfl, rfl, rfl⟩ := H
   go_enter Try.func154, Try.ntmps154
   go_wp2_with (first | ((with_reducible refine gate_callee (f := 165) rfl ?_); refine goesL_ (some 6) rfl rfl Try.func165 (by kernel_rfl) rfl #[.pointer (some ⟨g, 0, none⟩)] rfl ag_ ?_; (with_reducible refine (spec_l12Good.calls k g s0_0 s0_1 s0_2 t320 t323 t324 w0 _ ?side1 ?side2 A2.out).mono ?_); (case side1 => exact r0_ HI0.out); (case side2 => exact r3_ HB.out HI0.out); rintro e w25 ⟨v321, rfl, ho0, hi, hb, hk⟩; refine ⟨_, rfl, ?_⟩; have n0_ := Aside0.mk (Kd.R_lower ho0 (keep_size (w := w) (g := g) (row := none) (r2_ HK.out))); have n1_ := Aside0.mk (KeepBut.trans (r2_ HK.out) hk (.inl rfl)); have n2_ := Aside0.mk (hb); have n3_ := Aside0.mk (hi); clear HK; clear HB; clear HI0; have HO322 := n0_; have HK := n1_; have HB := n2_; have HI0 := n3_; clear n0_ n1_ n2_ n3_; (try clear hb); (try clear hb2); (try clear hk); (try clear hi); (try clear ho0); obtain ⟨Ao26, co26, eo26⟩ := Kd.R_slice HO322.out; subst eo26) | ((with_reducible refine gate_callee (f := 119) rfl ?_); refine goesL_ (some 10) rfl rfl Try.func119 (by kernel_rfl) rfl #[.pointer (some ⟨g, 0, none⟩), .int .i64 (t320.length : Int)] rfl ag_ ?_; (with_reducible refine (spec_l01Next.calls g s0_0 t323 t324 (t320.length : Int) t325 t326 t327 w0 _ ?side1 ?side2 A3.out).mono ?_); (case side1 => exact r0_ HI0.out); (case side2 => exact r3_ HB.out HI0.out); rintro e w27 ⟨rfl, hi, hb, hk⟩; refine ⟨_, rfl, ?_⟩; have n0_ := Aside0.mk (Kd.R_mono (Kd.R_keep (IsS167.apart (show IsS167 w0 _ g s0_0 t323 t324 from r0_ HI0.out) (rk_ HO322.out) (by decide)) hk (fun _ h => h.2)) (fun _ h => h.1)); have n1_ := Aside0.mk (KeepBut.trans (r2_ HK.out) hk (.inl rfl)); have n2_ := Aside0.mk (hb); have n3_ := Aside0.mk (hi); clear HO322; clear HK; clear HB; clear HI0; have HO322 := n0_; have HK := n1_; have HB := n2_; have HI0 := n3_; clear n0_ n1_ n2_ n3_; (try clear hb); (try clear hb2); (try clear hk); (try clear hi)) | ((with_reducible refine gate_callee (f := 119) rfl ?_); refine goesL_ (some 12) rfl rfl Try.func119 (by kernel_rfl) rfl #[.pointer (some ⟨g, 0, none⟩), .int .i64 40] rfl ag_ ?_; (with_reducible refine (spec_l01Next.calls g s0_0 t326 t327 40 t328 t329 t330 w0 _ ?side1 ?side2 A4.out).mono ?_); (case side1 => exact r0_ HI0.out); (case side2 => exact r3_ HB.out HI0.out); rintro e w28 ⟨rfl, hi, hb, hk⟩; refine ⟨_, rfl, ?_⟩; have n0_ := Aside0.mk (Kd.R_mono (Kd.R_keep (IsS167.apart (show IsS167 w0 _ g s0_0 t326 t327 from r0_ HI0.out) (rk_ HO322.out) (by decide)) hk (fun _ h => h.2)) (fun _ h => h.1)); have n1_ := Aside0.mk (KeepBut.trans (r2_ HK.out) hk (.inl rfl)); have n2_ := Aside0.mk (hb); have n3_ := Aside0.mk (hi); clear HO322; clear HK; clear HB; clear HI0; have HO322 := n0_; have HK := n1_; have HB := n2_; have HI0 := n3_; clear n0_ n1_ n2_ n3_; (try clear hb); (try clear hb2); (try clear hk); (try clear hi)) | ((with_reducible refine gate_dst (N := 30) rfl ?_); refine Kd.R_lit (Kd.int .i64) _ 2 ?hg (N := 30) ?hd (xs := ([(-1), 32, 33] : List Int)) (inner := [.int .i64 (-1), .int .i64 32, .int .i64 33]) (ok := fun _ => True) (okp := fun _ => True) ?hr ?hp (fun _ hk => hk) trivial (Below.refl _ _) (Nat.le_refl _) (by simp) ?_; (case hd => rfl); (case hg => rfl); (case hr => first | (go_simp; done) | (go_simp; rfl)); (case hp => exact (Reps.one (show Kd.M (Kd.int .i64) _ _ _ (-1) [.int .i64 (-1)] from rfl) (Reps.one (show Kd.M (Kd.int .i64) _ _ _ 32 [.int .i64 32] from rfl) (Reps.one (show Kd.M (Kd.int .i64) _ _ _ 33 [.int .i64 33] from rfl) (Reps.none _ _))))); intro v339 w29 ho30 hb hg_ hnew_; clear hg_ hnew_; (first | rw [← Ny338.out] at ho30 | (simp only [Int.reduceToNat] at ho30; rw [← Ny338.out] at ho30)); have n0_ := Aside0.mk (Kd.R_below (rk_ HO322.out) hb); have n1_ := Aside0.mk (Kd.R_lower ho30 (keep_size (w := w) (g := g) (row := none) (r2_ HK.out))); have n2_ := Aside0.mk (IsS167.below (r0_ HI0.out) hb); have n3_ := Aside0.mk (KeepBut.trans (r2_ HK.out) (KeepBut.of_below hb g none) (.inl rfl)); have n4_ := Aside0.mk (below_step (r3_ HB.out HI0.out) hb); clear HO322; clear HI0; clear HK; clear HB; have HO322 := n0_; have HO340 := n1_; have HI0 := n2_; have HK := n3_; have HB := n4_; clear n0_ n1_ n2_ n3_ n4_; clear hb ho30; obtain ⟨Ao31, co31, eo31⟩ := Kd.R_slice HO340.out; subst eo31) | ((with_reducible refine gate_callee (f := 150) rfl ?_); refine goesL_ (some 31) rfl rfl Try.func150 (by kernel_rfl) rfl #[.pointer (some ⟨g, 0, none⟩), .slice Ao31 y338.length co31] rfl ag_ ?_; (with_reducible refine (spec_l01Pick.calls g s0_0 t329 t330 _ _ y338 t341 t342 t343 w0 _ ?side1 ?side2 ?side3 ?side4 ?side5 A21.out).mono ?_); (case side1 => exact r0_ HI0.out); (case side2 => exact r3_ HB.out HI0.out); (case side3 => exact r8_ HO340.out); (case side4 => exact (Kd.R_reads' HO340.out).2.1); (case side5 => exact far_slice (IsS167.own_ne HI0.out HO340.out (by decide))); rintro e w32 ⟨rfl, hi, hb, hk⟩; refine ⟨_, rfl, ?_⟩; have n0_ := Aside0.mk (Kd.R_mono (Kd.R_keep (IsS167.apart (show IsS167 w0 _ g s0_0 t329 t330 from r0_ HI0.out) (rk_ HO322.out) (by decide)) hk (fun _ h => h.2)) (fun _ h => h.1)); have n1_ := Aside0.mk (Kd.R_mono (Kd.R_keep (IsS167.apart (show IsS167 w0 _ g s0_0 t329 t330 from r0_ HI0.out) (rk_ HO340.out) (by decide)) hk (fun _ h => h.2)) (fun _ h => h.1)); have n2_ := Aside0.mk (KeepBut.trans (r2_ HK.out) hk (.inl rfl)); have n3_ := Aside0.mk (hb); have n4_ := Aside0.mk (hi); clear HO322; clear HO340; clear HK; clear HB; clear HI0; have HO322 := n0_; have HO340 := n1_; have HK := n2_; have HB := n3_; have HI0 := n4_; clear n0_ n1_ n2_ n3_ n4_; (try clear hb); (try clear hb2); (try clear hk); (try clear hi); have p24 : 0 ≤ (t325 : Int) := od_; have q24 : (t325 : Int) < ((t320.length : Int) : Int) := od_; obtain ⟨go24, co24, eo24, gb24, gl24, cl24, HG24⟩ := Kd.R_form HO322.out (by omega); (first | cases eo24 | (injection eo24 with ea_ en_ ec_; (first | subst ea_ | (injection ea_ with ea_; subst ea_)); subst ec_; clear en_)); have GB24 := Aside0.mk gb24; have GG24 := Aside0.mk HG24; clear gb24 gl24 HG24; obtain ⟨ce24, hcl24, hM24, hcc24, hfr24⟩ := Kd.R_elem HO322.out z98 (t325 : Int) p24 q24; obtain rfl := k98_openM hM24; have hx24_0 : w32.cell? ⟨go24, (t325 : Int).toNat * 2, none⟩ = some (.int .i64 ((rd_T98 t320 t325).f0)) := hcc24 0 _ rfl; have hx24_1 : w32.cell? ⟨go24, (t325 : Int).toNat * 2 + 1, none⟩ = some (.int .i64 ((rd_T98 t320 t325).f1)) := hcc24 1 _ rfl; have hf24_0 : w32.frozen? ⟨go24, (t325 : Int).toNat * 2, none⟩ = false := hfr24 0; have hf24_1 : w32.frozen? ⟨go24, (t325 : Int).toNat * 2 + 1, none⟩ = false := hfr24 1; clear hcl24 hcc24 hfr24 hM24; replace p24 := eq_true p24; replace q24 := eq_true q24; have HX33 := Aside0.mk (show Kd.R k98 98 w32 w.heap.size (fun _ => True) (.slice (some ⟨go24, 0, none⟩) t320.length co26) t320 from (rk_ HO322.out)); obtain ⟨ce33, hcl33, hM33, hcc33, hfr33⟩ := Kd.R_elem HX33.out z98 (t325 : Int) od_ (by have h_ : (t325 : Int) < ((t320.length : Int) : Int) := od_; first | exact h_ | (have e_ := (Kd.R_reads' HO322.out).1; omega) | simpa using h_); obtain rfl := k98_openM hM33; have HP33 := Kd.R_seg HX33.out (t325 : Int) od_ (by have h_ : (t325 : Int) < ((t320.length : Int) : Int) := od_; first | exact h_ | (have e_ := (Kd.R_reads' HO322.out).1; omega) | simpa using h_) (seg := [.int .i64 t341]) (j := 1) hcl33 hcc33 (show 2 ≤ 2 from by decide) (x' := (⟨(rd_T98 t320 t325).f0, t341⟩ : S98)) (k98_mkM _ _ _ (⟨(rd_T98 t320 t325).f0, t341⟩ : S98) ) (fun _ hk => hk); have hx33_1 := hcc33 1 _ rfl; (try simp only [show (k98).sz = 2 from rfl, Nat.mul_one, Nat.add_zero] at hx33_1); have hf33_1 := hfr33 1; (try simp only [show (k98).sz = 2 from rfl, Nat.mul_one, Nat.add_zero] at hf33_1); clear hcl33 hcc33 hfr33 hM33) | ((with_reducible refine gate_store (t := 2) (p := 33) rfl ?_); refine store_event (t := 2) (p := 33) (v := ?vo_w34) (w1 := (w32.setCell ⟨go24, (t325 : Int).toNat * 2 + 1, none⟩ (.int .i64 t341))) ?hg ?ho ?hn ?hr ?_; (case ho => rfl); (case hg => rfl); (case hn => rfl); (case hr => first | (go_simp; done) | (go_simp; rfl)); intro w34 hw; have hg : w32.grownBy w34 (some go24) := (by rw [hw]; exact HP33.2); have hp_ : Kd.R k98 98 w34 w.heap.size (fun _ => True) (.slice (some ⟨go24, 0, none⟩) t320.length co26) y344 := (by rw [hw, Ny344.out]; exact HP33.1); clear HP33; have n0_ := Aside0.mk (IsS167.grown (r0_ HI0.out) hg (IsS167.own_ne HI0.out HO322.out (by decide))); have n1_ := Aside0.mk (hp_); have n2_ := Aside0.mk (Kd.R_over' (v := (.slice (some ⟨go24, 0, none⟩) t320.length co26)) (rk_ HO340.out) (Kd.R_typed HO322.out) (by decide) hg); have n3_ := Aside0.mk ((by rw [hw]; exact below_set (HB.out) (Nat.le_trans HL.out GB24.out) : Below w0.heap.size w0 w34)); have n4_ := Aside0.mk (KeepBut.trans (r2_ HK.out) (KeepBut.of_grown hg g) (Kd.R_base2 HO322.out)); clear HI0; clear HO322; clear HO340; clear HB; clear HK; have HI0 := n0_; have HO322 := n1_; have HO340 := n2_; have HB := n3_; have HK := n4_; clear n0_ n1_ n2_ n3_ n4_; clear hg hw hp_))
   go_ret
   exact ⟨_, by first | rfl | (simp [errW_none, errW_some] <;> rfl) | (simp [*, errW_none, errW_some] <;> rfl), rk_ HO322.out, r0_ HI0.out, r3_ HB.out HI0.out, r2_ HK.out⟩
  ·rw [if_neg c20] at H
   have c20b0 : (t328 == 1) = false := beq_eq_false_iff_ne.mpr c20
   have c20b1 : (t328 != 1) = true := bne_iff_ne.mpr c20
   by_cases c35 : t328 = 2
   ·rw [if_pos c35] at H
    have c35b0 : (t328 == 2) = true := beq_iff_eq.mpr c35
    have c35b1 : (t328 != 2) = false := bne_eq_false_iff_eq.mpr c35
    clear c35
    have H' := Aside0.mk H
    clear H
    go_enter Try.func154, Try.ntmps154
    go_wp2_with (first | ((with_reducible refine gate_callee (f := 165) rfl ?_); refine goesL_ (some 6) rfl rfl Try.func165 (by kernel_rfl) rfl #[.pointer (some ⟨g, 0, none⟩)] rfl ag_ ?_; (with_reducible refine (spec_l12Good.calls k g s0_0 s0_1 s0_2 t320 t323 t324 w0 _ ?side1 ?side2 A2.out).mono ?_); (case side1 => exact r0_ HI0.out); (case side2 => exact r3_ HB.out HI0.out); rintro e w36 ⟨v321, rfl, ho0, hi, hb, hk⟩; refine ⟨_, rfl, ?_⟩; have n0_ := Aside0.mk (Kd.R_lower ho0 (keep_size (w := w) (g := g) (row := none) (r2_ HK.out))); have n1_ := Aside0.mk (KeepBut.trans (r2_ HK.out) hk (.inl rfl)); have n2_ := Aside0.mk (hb); have n3_ := Aside0.mk (hi); clear HK; clear HB; clear HI0; have HO322 := n0_; have HK := n1_; have HB := n2_; have HI0 := n3_; clear n0_ n1_ n2_ n3_; (try clear hb); (try clear hb2); (try clear hk); (try clear hi); (try clear ho0); obtain ⟨Ao37, co37, eo37⟩ := Kd.R_slice HO322.out; subst eo37) | ((with_reducible refine gate_callee (f := 119) rfl ?_); refine goesL_ (some 10) rfl rfl Try.func119 (by kernel_rfl) rfl #[.pointer (some ⟨g, 0, none⟩), .int .i64 (t320.length : Int)] rfl ag_ ?_; (with_reducible refine (spec_l01Next.calls g s0_0 t323 t324 (t320.length : Int) t325 t326 t327 w0 _ ?side1 ?side2 A3.out).mono ?_); (case side1 => exact r0_ HI0.out); (case side2 => exact r3_ HB.out HI0.out); rintro e w38 ⟨rfl, hi, hb, hk⟩; refine ⟨_, rfl, ?_⟩; have n0_ := Aside0.mk (Kd.R_mono (Kd.R_keep (IsS167.apart (show IsS167 w0 _ g s0_0 t323 t324 from r0_ HI0.out) (rk_ HO322.out) (by decide)) hk (fun _ h => h.2)) (fun _ h => h.1)); have n1_ := Aside0.mk (KeepBut.trans (r2_ HK.out) hk (.inl rfl)); have n2_ := Aside0.mk (hb); have n3_ := Aside0.mk (hi); clear HO322; clear HK; clear HB; clear HI0; have HO322 := n0_; have HK := n1_; have HB := n2_; have HI0 := n3_; clear n0_ n1_ n2_ n3_; (try clear hb); (try clear hb2); (try clear hk); (try clear hi)) | ((with_reducible refine gate_callee (f := 119) rfl ?_); refine goesL_ (some 12) rfl rfl Try.func119 (by kernel_rfl) rfl #[.pointer (some ⟨g, 0, none⟩), .int .i64 40] rfl ag_ ?_; (with_reducible refine (spec_l01Next.calls g s0_0 t326 t327 40 t328 t329 t330 w0 _ ?side1 ?side2 A4.out).mono ?_); (case side1 => exact r0_ HI0.out); (case side2 => exact r3_ HB.out HI0.out); rintro e w39 ⟨rfl, hi, hb, hk⟩; refine ⟨_, rfl, ?_⟩; have n0_ := Aside0.mk (Kd.R_mono (Kd.R_keep (IsS167.apart (show IsS167 w0 _ g s0_0 t326 t327 from r0_ HI0.out) (rk_ HO322.out) (by decide)) hk (fun _ h => h.2)) (fun _ h => h.1)); have n1_ := Aside0.mk (KeepBut.trans (r2_ HK.out) hk (.inl rfl)); have n2_ := Aside0.mk (hb); have n3_ := Aside0.mk (hi); clear HO322; clear HK; clear HB; clear HI0; have HO322 := n0_; have HK := n1_; have HB := n2_; have HI0 := n3_; clear n0_ n1_ n2_ n3_; (try clear hb); (try clear hb2); (try clear hk); (try clear hi)))
    go_loopg [3] k (fun kq v3 w' => ∃ (x3_1 : List (S98)) (x1001_1 : Int) (x1002_1 : Int), Aside0 (spec_l12Draw.l0 kq x3_1 s0_0 x1001_1 x1002_1 = some (r1, r2, r3)) ∧ Aside0 (kq ≤ k) ∧ Aside0 (Kd.R k98 98 w' w.heap.size (fun _ => True) v3 x3_1) ∧ Aside0 (IsS167 w0 w' g s0_0 x1001_1 x1002_1) ∧ Aside0 (KeepBut w w' g none) ∧ Aside0 (Below w0.heap.size w0 w'))
    case atStart => exact ⟨(t320), (t329), (t330), H', ⟨Nat.le_refl _⟩, ⟨rk_ HO322.out⟩, ⟨r0_ HI0.out⟩, ⟨r2_ HK.out⟩, ⟨r3_ HB.out HI0.out⟩⟩
    case round =>
     clear H'
     try clear c1
     try clear hx1
     try clear hf1
     try clear c2
     try clear p2
     try clear q2
     try clear hx2
     try clear hf2
     try clear c3
     try clear hx3
     try clear hf3
     try clear c5
     try clear c5b0
     try clear c5b1
     try clear p6
     try clear c7
     try clear c7b0
     try clear c8
     try clear c8b0
     try clear c9
     try clear p9
     try clear q9
     try clear hx9
     try clear hf9
     try clear c11
     try clear c15
     try clear c16
     try clear c18
     try clear hx18
     try clear hf18
     try clear c20
     try clear c20b0
     try clear c20b1
     try clear c22
     try clear c22b0
     try clear c23
     try clear c23b0
     try clear c24
     try clear p24
     try clear q24
     try clear hx24
     try clear hf24
     try clear c33
     try clear hx33
     try clear hf33
     try clear c35
     try clear c35b0
     try clear c35b1
     try clear hx18_0
     try clear hx24_0
     try clear hx24_1
     try clear hx33_1
     try clear hx9_0
     try clear hx9_1
     try clear p24
     try clear p9
     try clear q24
     try clear q9
     obtain ⟨x3_1, x1001_1, x1002_1, HA, HK1, HO_3, HI0, HK, HB⟩ := hrel
     cases gk with
     | zero => exact absurd HA.out (by simp [spec_l12Draw.l0])
     | succ k1 =>
      have H := HA.out
      clear HA
      simp only [spec_l12Draw.l0] at H
      replace H := Option.bind_eq_some_iff.mp H
      obtain ⟨⟨t345, t346, t347⟩, A400, H⟩ := H
      replace H : (if (x3_1.length : Int) < (wrap64 (12 + t345)) then (if x3_1.length < 8796093022208 then (spec_l12Draw.l0 k1 (x3_1 ++ [(⟨0, 1⟩ : S98)]) s0_0 t346 t347) else (none)) else (some (x3_1, t346, t347))) = some (r1, r2, r3) := H
      have A40 := Aside0.mk A400
      clear A400
      by_cases c41 : (x3_1.length : Int) < (wrap64 (12 + t345))
      ·rw [if_pos c41] at H
       have c41b0 : decide ((x3_1.length : Int) < (wrap64 (12 + t345))) = true := decide_eq_true c41
       clear c41
       by_cases c42 : x3_1.length < 8796093022208
       case neg =>
        rw [if_neg c42] at H
        exact absurd H (by simp)
       rw [if_pos c42] at H
       have LMc42 := Aside0.mk c42
       clear c42
       obtain ⟨y348, hy348⟩ : ∃ y_ : List (S98), y_ = (x3_1 ++ [(⟨0, 1⟩ : S98)]) := ⟨_, rfl⟩
       replace H : (spec_l12Draw.l0 k1 y348 s0_0 t346 t347) = some (r1, r2, r3) := by first | (rw [hy348]; with_reducible exact H) | (have H2_ := (Option.bind_some _ _).symm.trans H; rw [hy348]; with_reducible exact H2_) | (have H2_ := (Option.bind_some _ _).symm.trans H; with_reducible exact H2_) | with_reducible exact H | (rw [hy348]; exact H) | exact H
       have Ny348 := Aside0.mk hy348
       clear hy348
       have H' := Aside0.mk H
       clear H
       obtain ⟨Ao43, co43, eo43⟩ := Kd.R_slice HO_3.out
       subst eo43
       go_wp2_with (first | ((with_reducible refine gate_callee (f := 119) rfl ?_); refine goesL_ (some 39) rfl rfl Try.func119 (by kernel_rfl) rfl #[.pointer (some ⟨g, 0, none⟩), .int .i64 2] rfl ag_ ?_; (with_reducible refine (spec_l01Next.calls g s0_0 x1001_1 x1002_1 2 t345 t346 t347 w0 _ ?side1 ?side2 A40.out).mono ?_); (case side1 => exact r0_ HI0.out); (case side2 => exact r3_ HB.out HI0.out); rintro e w44 ⟨rfl, hi, hb, hk⟩; refine ⟨_, rfl, ?_⟩; have n0_ := Aside0.mk (Kd.R_mono (Kd.R_keep (IsS167.apart (show IsS167 w0 _ g s0_0 x1001_1 x1002_1 from r0_ HI0.out) (rk_ HO_3.out) (by decide)) hk (fun _ h => h.2)) (fun _ h => h.1)); have n1_ := Aside0.mk (KeepBut.trans (r2_ HK.out) hk (.inl rfl)); have n2_ := Aside0.mk (hb); have n3_ := Aside0.mk (hi); clear HO_3; clear HK; clear HB; clear HI0; have HO_3 := n0_; have HK := n1_; have HB := n2_; have HI0 := n3_; clear n0_ n1_ n2_ n3_; (try clear hb); (try clear hb2); (try clear hk); (try clear hi)) | ((with_reducible refine gate_builtin (b := .append) (xs := #[.tmp 42, .tmp 44]) rfl ?_); at_builtin; refine Kd.R_append k98 w.heap.size rfl (.tmp 42) (.tmp 44) 29 98 (.agg #[(.int .i64 0), (.int .i64 0)]) 16 rfl Try.underlying29 info98 rfl (by decide) (by omega) (.slice Ao43 x3_1.length co43) x3_1 (⟨0, 1⟩ : S98) [.int .i64 0, .int .i64 1] (fun _ => True) (fun _ => False) rfl rfl ?aP (fun _ hk => hk.elim) ?aF ?aO (Below.refl _ _) ?aS ?aL ?_; (case aP => exact k98_mkM _ _ _ (⟨0, 1⟩ : S98)); (case aF => exact (fun _ _ => trivial)); (case aO => exact (rk_ HO_3.out)); (case aS => exact (keep_size (w := w) (g := g) (row := none) (r2_ HK.out))); (case aL => have := LMc42.out; omega); intro v349 w45 ho hb hg hat; rw [← Ny348.out] at ho; have n0_ := Aside0.mk (IsS167.grown (r0_ HI0.out) hg (IsS167.own_ne HI0.out HO_3.out (by decide))); have n1_ := Aside0.mk (below_weaken (r3_ HB.out HI0.out) HL.out hb); have n2_ := Aside0.mk (KeepBut.trans (r2_ HK.out) (KeepBut.of_grown hg g) (Kd.R_base2 HO_3.out)); have n3_ := Aside0.mk (ho); clear HI0; clear HB; clear HK; clear HO_3; have HI0 := n0_; have HB := n1_; have HK := n2_; have HO350 := n3_; clear n0_ n1_ n2_ n3_; clear ho hb hg hat))
       go_roundg k1
       case measure => have := HK1.out; omega
       case rel => exact ⟨(y348), (t346), (t347), H', ⟨by have := HK1.out; omega⟩, ⟨rk_ HO350.out⟩, ⟨r0_ HI0.out⟩, ⟨r2_ HK.out⟩, ⟨r3_ HB.out HI0.out⟩⟩
      ·rw [if_neg c41] at H
       have c41b0 : decide ((x3_1.length : Int) < (wrap64 (12 + t345))) = false := decide_eq_false c41
       clear c41
       simp only [Option.some.injEq, Prod.mk.injEq] at H
       obtain ⟨rfl, rfl, rfl⟩ := H
       obtain ⟨Ao46, co46, eo46⟩ := Kd.R_slice HO_3.out
       subst eo46
       go_wp2_with (first | ((with_reducible refine gate_callee (f := 119) rfl ?_); refine goesL_ (some 39) rfl rfl Try.func119 (by kernel_rfl) rfl #[.pointer (some ⟨g, 0, none⟩), .int .i64 2] rfl ag_ ?_; (with_reducible refine (spec_l01Next.calls g s0_0 x1001_1 x1002_1 2 t345 t346 t347 w0 _ ?side1 ?side2 A40.out).mono ?_); (case side1 => exact r0_ HI0.out); (case side2 => exact r3_ HB.out HI0.out); rintro e w47 ⟨rfl, hi, hb, hk⟩; refine ⟨_, rfl, ?_⟩; have n0_ := Aside0.mk (Kd.R_mono (Kd.R_keep (IsS167.apart (show IsS167 w0 _ g s0_0 x1001_1 x1002_1 from r0_ HI0.out) (rk_ HO_3.out) (by decide)) hk (fun _ h => h.2)) (fun _ h => h.1)); have n1_ := Aside0.mk (KeepBut.trans (r2_ HK.out) hk (.inl rfl)); have n2_ := Aside0.mk (hb); have n3_ := Aside0.mk (hi); clear HO_3; clear HK; clear HB; clear HI0; have HO_3 := n0_; have HK := n1_; have HB := n2_; have HI0 := n3_; clear n0_ n1_ n2_ n3_; (try clear hb); (try clear hb2); (try clear hk); (try clear hi)))
       go_ret
       exact ⟨_, by first | rfl | (simp [errW_none, errW_some] <;> rfl) | (simp [*, errW_none, errW_some] <;> rfl), rk_ HO_3.out, r0_ HI0.out, r3_ HB.out HI0.out, r2_ HK.out⟩
   ·rw [if_neg c35] at H
    have c35b0 : (t328 == 2) = false := beq_eq_false_iff_ne.mpr c35
    have c35b1 : (t328 != 2) = true := bne_iff_ne.mpr c35
    by_cases c48 : t328 = 3
    ·rw [if_pos c48] at H
     have c48b0 : (t328 == 3) = true := beq_iff_eq.mpr c48
     have c48b1 : (t328 != 3) = false := bne_eq_false_iff_eq.mpr c48
     clear c48
     by_cases c49 : 0 ≤ (t320.length : Int)
     case neg =>
      rw [if_neg c49] at H
      exact absurd H (by simp)
     rw [if_pos c49] at H
     have c49b0 := eq_true c49
     have c49b1 : decide (0 ≤ (t320.length : Int)) = true := decide_eq_true c49
     clear c49
     obtain ⟨y351, hy351⟩ : ∃ y_ : List (S98), y_ = (t320.take (0 : Int).toNat) := ⟨_, rfl⟩
     replace H : (some (y351, t329, t330)) = some (r1, r2, r3) := by first | (rw [hy351]; with_reducible exact H) | (have H2_ := (Option.bind_some _ _).symm.trans H; rw [hy351]; with_reducible exact H2_) | (have H2_ := (Option.bind_some _ _).symm.trans H; with_reducible exact H2_) | with_reducible exact H | (rw [hy351]; exact H) | exact H
     have Ny351 := Aside0.mk hy351
     clear hy351
     simp only [Option.some.injEq, Prod.mk.injEq] at H
     obtain ⟨rfl, rfl, rfl⟩ := H
     go_enter Try.func154, Try.ntmps154
     go_wp2_with (first | ((with_reducible refine gate_callee (f := 165) rfl ?_); refine goesL_ (some 6) rfl rfl Try.func165 (by kernel_rfl) rfl #[.pointer (some ⟨g, 0, none⟩)] rfl ag_ ?_; (with_reducible refine (spec_l12Good.calls k g s0_0 s0_1 s0_2 t320 t323 t324 w0 _ ?side1 ?side2 A2.out).mono ?_); (case side1 => exact r0_ HI0.out); (case side2 => exact r3_ HB.out HI0.out); rintro e w50 ⟨v321, rfl, ho0, hi, hb, hk⟩; refine ⟨_, rfl, ?_⟩; have n0_ := Aside0.mk (Kd.R_lower ho0 (keep_size (w := w) (g := g) (row := none) (r2_ HK.out))); have n1_ := Aside0.mk (KeepBut.trans (r2_ HK.out) hk (.inl rfl)); have n2_ := Aside0.mk (hb); have n3_ := Aside0.mk (hi); clear HK; clear HB; clear HI0; have HO322 := n0_; have HK := n1_; have HB := n2_; have HI0 := n3_; clear n0_ n1_ n2_ n3_; (try clear hb); (try clear hb2); (try clear hk); (try clear hi); (try clear ho0); obtain ⟨Ao51, co51, eo51⟩ := Kd.R_slice HO322.out; subst eo51) | ((with_reducible refine gate_callee (f := 119) rfl ?_); refine goesL_ (some 10) rfl rfl Try.func119 (by kernel_rfl) rfl #[.pointer (some ⟨g, 0, none⟩), .int .i64 (t320.length : Int)] rfl ag_ ?_; (with_reducible refine (spec_l01Next.calls g s0_0 t323 t324 (t320.length : Int) t325 t326 t327 w0 _ ?side1 ?side2 A3.out).mono ?_); (case side1 => exact r0_ HI0.out); (case side2 => exact r3_ HB.out HI0.out); rintro e w52 ⟨rfl, hi, hb, hk⟩; refine ⟨_, rfl, ?_⟩; have n0_ := Aside0.mk (Kd.R_mono (Kd.R_keep (IsS167.apart (show IsS167 w0 _ g s0_0 t323 t324 from r0_ HI0.out) (rk_ HO322.out) (by decide)) hk (fun _ h => h.2)) (fun _ h => h.1)); have n1_ := Aside0.mk (KeepBut.trans (r2_ HK.out) hk (.inl rfl)); have n2_ := Aside0.mk (hb); have n3_ := Aside0.mk (hi); clear HO322; clear HK; clear HB; clear HI0; have HO322 := n0_; have HK := n1_; have HB := n2_; have HI0 := n3_; clear n0_ n1_ n2_ n3_; (try clear hb); (try clear hb2); (try clear hk); (try clear hi)) | ((with_reducible refine gate_callee (f := 119) rfl ?_); refine goesL_ (some 12) rfl rfl Try.func119 (by kernel_rfl) rfl #[.pointer (some ⟨g, 0, none⟩), .int .i64 40] rfl ag_ ?_; (with_reducible refine (spec_l01Next.calls g s0_0 t326 t327 40 t328 t329 t330 w0 _ ?side1 ?side2 A4.out).mono ?_); (case side1 => exact r0_ HI0.out); (case side2 => exact r3_ HB.out HI0.out); rintro e w53 ⟨rfl, hi, hb, hk⟩; refine ⟨_, rfl, ?_⟩; have n0_ := Aside0.mk (Kd.R_mono (Kd.R_keep (IsS167.apart (show IsS167 w0 _ g s0_0 t326 t327 from r0_ HI0.out) (rk_ HO322.out) (by decide)) hk (fun _ h => h.2)) (fun _ h => h.1)); have n1_ := Aside0.mk (KeepBut.trans (r2_ HK.out) hk (.inl rfl)); have n2_ := Aside0.mk (hb); have n3_ := Aside0.mk (hi); clear HO322; clear HK; clear HB; clear HI0; have HO322 := n0_; have HK := n1_; have HB := n2_; have HI0 := n3_; clear n0_ n1_ n2_ n3_; (try clear hb); (try clear hb2); (try clear hk); (try clear hi); have q54 : (0 : Int) ≤ ((t320.length : Int) : Int) := od_; obtain ⟨i054, hi054, _, hsz54, _⟩ := info_parts info98; have hcut54 := cut_to (P := Try.prog) 29 98 .i64 Try.underlying29 hi054 Ao51 t320.length co51 0 (by omega) q54 (Kd.R_reads' HO322.out).2.1; have hr54 := Kd.R_take (m := (0 : Int).toNat) HO322.out (by omega); have hy54 : y351.length = (0 : Int).toNat := (by rw [Ny351.out, List.length_take]; omega); rw [← Ny351.out] at hr54; rw [← hy54] at hr54 hcut54; clear hy54 hi054 hsz54 HO322; have HO353 := Aside0.mk hr54; clear hr54; replace q54 := eq_true q54))
     go_ret
     exact ⟨_, by first | rfl | (simp [errW_none, errW_some] <;> rfl) | (simp [*, errW_none, errW_some] <;> rfl), rk_ HO353.out, r0_ HI0.out, r3_ HB.out HI0.out, r2_ HK.out⟩
    ·rw [if_neg c48] at H
     have c48b0 : (t328 == 3) = false := beq_eq_false_iff_ne.mpr c48
     have c48b1 : (t328 != 3) = true := bne_iff_ne.mpr c48
     simp only [Option.some.injEq, Prod.mk.injEq] at H
     obtain ⟨rfl, rfl, rfl⟩ := H
     go_enter Try.func154, Try.ntmps154
     go_wp2_with (first | ((with_reducible refine gate_callee (f := 165) rfl ?_); refine goesL_ (some 6) rfl rfl Try.func165 (by kernel_rfl) rfl #[.pointer (some ⟨g, 0, none⟩)] rfl ag_ ?_; (with_reducible refine (spec_l12Good.calls k g s0_0 s0_1 s0_2 t320 t323 t324 w0 _ ?side1 ?side2 A2.out).mono ?_); (case side1 => exact r0_ HI0.out); (case side2 => exact r3_ HB.out HI0.out); rintro e w55 ⟨v321, rfl, ho0, hi, hb, hk⟩; refine ⟨_, rfl, ?_⟩; have n0_ := Aside0.mk (Kd.R_lower ho0 (keep_size (w := w) (g := g) (row := none) (r2_ HK.out))); have n1_ := Aside0.mk (KeepBut.trans (r2_ HK.out) hk (.inl rfl)); have n2_ := Aside0.mk (hb); have n3_ := Aside0.mk (hi); clear HK; clear HB; clear HI0; have HO322 := n0_; have HK := n1_; have HB := n2_; have HI0 := n3_; clear n0_ n1_ n2_ n3_; (try clear hb); (try clear hb2); (try clear hk); (try clear hi); (try clear ho0); obtain ⟨Ao56, co56, eo56⟩ := Kd.R_slice HO322.out; subst eo56) | ((with_reducible refine gate_callee (f := 119) rfl ?_); refine goesL_ (some 10) rfl rfl Try.func119 (by kernel_rfl) rfl #[.pointer (some ⟨g, 0, none⟩), .int .i64 (t320.length : Int)] rfl ag_ ?_; (with_reducible refine (spec_l01Next.calls g s0_0 t323 t324 (t320.length : Int) t325 t326 t327 w0 _ ?side1 ?side2 A3.out).mono ?_); (case side1 => exact r0_ HI0.out); (case side2 => exact r3_ HB.out HI0.out); rintro e w57 ⟨rfl, hi, hb, hk⟩; refine ⟨_, rfl, ?_⟩; have n0_ := Aside0.mk (Kd.R_mono (Kd.R_keep (IsS167.apart (show IsS167 w0 _ g s0_0 t323 t324 from r0_ HI0.out) (rk_ HO322.out) (by decide)) hk (fun _ h => h.2)) (fun _ h => h.1)); have n1_ := Aside0.mk (KeepBut.trans (r2_ HK.out) hk (.inl rfl)); have n2_ := Aside0.mk (hb); have n3_ := Aside0.mk (hi); clear HO322; clear HK; clear HB; clear HI0; have HO322 := n0_; have HK := n1_; have HB := n2_; have HI0 := n3_; clear n0_ n1_ n2_ n3_; (try clear hb); (try clear hb2); (try clear hk); (try clear hi)) | ((with_reducible refine gate_callee (f := 119) rfl ?_); refine goesL_ (some 12) rfl rfl Try.func119 (by kernel_rfl) rfl #[.pointer (some ⟨g, 0, none⟩), .int .i64 40] rfl ag_ ?_; (with_reducible refine (spec_l01Next.calls g s0_0 t326 t327 40 t328 t329 t330 w0 _ ?side1 ?side2 A4.out).mono ?_); (case side1 => exact r0_ HI0.out); (case side2 => exact r3_ HB.out HI0.out); rintro e w58 ⟨rfl, hi, hb, hk⟩; refine ⟨_, rfl, ?_⟩; have n0_ := Aside0.mk (Kd.R_mono (Kd.R_keep (IsS167.apart (show IsS167 w0 _ g s0_0 t326 t327 from r0_ HI0.out) (rk_ HO322.out) (by decide)) hk (fun _ h => h.2)) (fun _ h => h.1)); have n1_ := Aside0.mk (KeepBut.trans (r2_ HK.out) hk (.inl rfl)); have n2_ := Aside0.mk (hb); have n3_ := Aside0.mk (hi); clear HO322; clear HK; clear HB; clear HI0; have HO322 := n0_; have HK := n1_; have HB := n2_; have HI0 := n3_; clear n0_ n1_ n2_ n3_; (try clear hb); (try clear hb2); (try clear hk); (try clear hi)))
     go_ret
     exact ⟨_, by first | rfl | (simp [errW_none, errW_some] <;> rfl) | (simp [*, errW_none, errW_some] <;> rfl), rk_ HO322.out, r0_ HI0.out, r3_ HB.out HI0.out, r2_ HK.out⟩
def spec_l13Draw.f (k : Nat) (s0_0 : List Int) (s0_1 : Int) (s0_2 : Int) : Option ((List (S98)) × Int × (List (S103)) × Int × Int) := (spec_l13Good.f k s0_0 s0_1 s0_2).bind fun bt354 => ((spec_l01Next.f s0_0 bt354.2.2.2.1 bt354.2.2.2.2 40).bind fun bt363 => (if bt363.1 = 0 then ((spec_l12Draw.f k s0_0 bt363.2.1 bt363.2.2).bind fun bt366 => (some (bt366.1, bt354.2.1, bt354.2.2.1, bt366.2.1, bt366.2.2))) else (if bt363.1 = 1 then ((spec_l01Pick.f s0_0 bt363.2.1 bt363.2.2 (([(-1), 0, 20, 21] : List Int))).bind fun bt374 => (some (bt354.1, bt374.1, bt354.2.2.1, bt374.2.1, bt374.2.2))) else (if bt363.1 = 2 then ((spec_l01Next.f s0_0 bt363.2.1 bt363.2.2 10).bind fun bt377 => ((spec_l01Next.f s0_0 bt377.2.1 bt377.2.2 3).bind fun bt380 => ((spec_l01Next.f s0_0 bt380.2.1 bt380.2.2 4).bind fun bt383 => (if bt354.2.2.1.length < 5864062014805 then (some (bt354.1, bt354.2.1, (bt354.2.2.1 ++ [(⟨wrap64 (bt377.1 - 1), bt380.1, bt383.1⟩ : S103)]), bt383.2.1, bt383.2.2)) else (none))))) else (if bt363.1 = 3 then (if (bt354.2.2.1.length : Int) > 0 then (if 0 < (bt354.2.2.1.length : Int) then (if bt354.2.2.1.length < 5864062014805 then (some (bt354.1, bt354.2.1, (bt354.2.2.1 ++ [(⟨(rd_T103 bt354.2.2.1 0).f0, (rd_T103 bt354.2.2.1 0).f1, (rd_T103 bt354.2.2.1 0).f2⟩ : S103)]), bt363.2.1, bt363.2.2)) else (none)) else (none)) else (some (bt354.1, bt354.2.1, bt354.2.2.1, bt363.2.1, bt363.2.2))) else (some (bt354.1, bt354.2.1, bt354.2.2.1, bt363.2.1, bt363.2.2)))))))
theorem spec_l13Draw.mono : ∀ a0 a1 a2 k, LeO (spec_l13Draw.f k a0 a1 a2) (spec_l13Draw.f (k + 1) a0 a1 a2) := by
 intro a0 a1 a2 k
 unfold spec_l13Draw.f
 repeat' first
   | (with_reducible exact spec_l12Draw.mono _ _ _ _)
   | (with_reducible exact spec_l13Good.mono _ _ _ _)
   | (with_reducible exact LeO.refl _)
   | (with_reducible exact LeO.none _)
   | (with_reducible refine LeO.ite ?_ ?_)
   | (with_reducible refine LeO.bind ?_ (fun _ => ?_))
   | exact spec_l12Draw.mono _ _ _ _
   | exact spec_l13Good.mono _ _ _ _
   | exact LeO.none _
   | refine LeO.ite ?_ ?_
   | refine LeO.bind ?_ (fun _ => ?_)
set_option maxHeartbeats 8000000 in
set_option maxRecDepth 100000 in
theorem spec_l13Draw.calls (k : Nat) (g : Nat) (s0_0 : List Int) (s0_1 : Int) (s0_2 : Int) (r1 : List (S98)) (r2 : Int) (r3 : List (S103)) (r4 : Int) (r5 : Int) (w0 w : World) (hI : IsS167 w0 w g s0_0 s0_1 s0_2) (hB : Below w0.heap.size w0 w) (h : spec_l13Draw.f k s0_0 s0_1 s0_2 = some (r1, r2, r3, r4, r5)) :
  Calls Try.prog 126 #[.pointer (some ⟨g, 0, none⟩)] w fun e w' => ∃ v0_ v2_ : Value, e = .returned (.tuple #[v0_, .int .i64 r2, v2_]) ∧ Kd.R k98 98 w' w.heap.size (fun _ => True) v0_ r1 ∧ Kd.R k103 103 w' w.heap.size (fun _ => True) v2_ r3 ∧ IsS167 w0 w' g s0_0 r4 r5 ∧ Below w0.heap.size w0 w' ∧ KeepBut w w' g none := by
 have hu103 := Try.underlying103
 have HI0 := Aside0.mk hI
 have HK := Aside0.mk (KeepBut.refl w g none)
 have HL := Aside0.mk hB.size
 clear hI
 have HW0 := Aside0.mk hB.size
 have HB := Aside0.mk hB
 clear hB
 have H : ((spec_l13Good.f k s0_0 s0_1 s0_2).bind fun bt354 => ((spec_l01Next.f s0_0 bt354.2.2.2.1 bt354.2.2.2.2 40).bind fun bt363 => (if bt363.1 = 0 then ((spec_l12Draw.f k s0_0 bt363.2.1 bt363.2.2).bind fun bt366 => (some (bt366.1, bt354.2.1, bt354.2.2.1, bt366.2.1, bt366.2.2))) else (if bt363.1 = 1 then ((spec_l01Pick.f s0_0 bt363.2.1 bt363.2.2 (([(-1), 0, 20, 21] : List Int))).bind fun bt374 => (some (bt354.1, bt374.1, bt354.2.2.1, bt374.2.1, bt374.2.2))) else (if bt363.1 = 2 then ((spec_l01Next.f s0_0 bt363.2.1 bt363.2.2 10).bind fun bt377 => ((spec_l01Next.f s0_0 bt377.2.1 bt377.2.2 3).bind fun bt380 => ((spec_l01Next.f s0_0 bt380.2.1 bt380.2.2 4).bind fun bt383 => (if bt354.2.2.1.length < 5864062014805 then (some (bt354.1, bt354.2.1, (bt354.2.2.1 ++ [(⟨wrap64 (bt377.1 - 1), bt380.1, bt383.1⟩ : S103)]), bt383.2.1, bt383.2.2)) else (none))))) else (if bt363.1 = 3 then (if (bt354.2.2.1.length : Int) > 0 then (if 0 < (bt354.2.2.1.length : Int) then (if bt354.2.2.1.length < 5864062014805 then (some (bt354.1, bt354.2.1, (bt354.2.2.1 ++ [(⟨(rd_T103 bt354.2.2.1 0).f0, (rd_T103 bt354.2.2.1 0).f1, (rd_T103 bt354.2.2.1 0).f2⟩ : S103)]), bt363.2.1, bt363.2.2)) else (none)) else (none)) else (some (bt354.1, bt354.2.1, bt354.2.2.1, bt363.2.1, bt363.2.2))) else (some (bt354.1, bt354.2.1, bt354.2.2.1, bt363.2.1, bt363.2.2)))))))) = some (r1, r2, r3, r4, r5) := h
 clear h
 replace H := Option.bind_eq_some_iff.mp H
 obtain ⟨⟨t354, t357, t358, t361, t362⟩, A20, H⟩ := H
 replace H : ((spec_l01Next.f s0_0 t361 t362 40).bind fun bt363 => (if bt363.1 = 0 then ((spec_l12Draw.f k s0_0 bt363.2.1 bt363.2.2).bind fun bt366 => (some (bt366.1, t357, t358, bt366.2.1, bt366.2.2))) else (if bt363.1 = 1 then ((spec_l01Pick.f s0_0 bt363.2.1 bt363.2.2 (([(-1), 0, 20, 21] : List Int))).bind fun bt374 => (some (t354, bt374.1, t358, bt374.2.1, bt374.2.2))) else (if bt363.1 = 2 then ((spec_l01Next.f s0_0 bt363.2.1 bt363.2.2 10).bind fun bt377 => ((spec_l01Next.f s0_0 bt377.2.1 bt377.2.2 3).bind fun bt380 => ((spec_l01Next.f s0_0 bt380.2.1 bt380.2.2 4).bind fun bt383 => (if t358.length < 5864062014805 then (some (t354, t357, (t358 ++ [(⟨wrap64 (bt377.1 - 1), bt380.1, bt383.1⟩ : S103)]), bt383.2.1, bt383.2.2)) else (none))))) else (if bt363.1 = 3 then (if (t358.length : Int) > 0 then (if 0 < (t358.length : Int) then (if t358.length < 5864062014805 then (some (t354, t357, (t358 ++ [(⟨(rd_T103 t358 0).f0, (rd_T103 t358 0).f1, (rd_T103 t358 0).f2⟩ : S103)]), bt363.2.1, bt363.2.2)) else (none)) else (none)) else (some (t354, t357, t358, bt363.2.1, bt363.2.2))) else (some (t354, t357, t358, bt363.2.1, bt363.2.2))))))) = some (r1, r2, r3, r4, r5) := H
 have A2 := Aside0.mk A20
 clear A20
 replace H := Option.bind_eq_some_iff.mp H
 obtain ⟨⟨t363, t364, t365⟩, A30, H⟩ := H
 replace H : (if t363 = 0 then ((spec_l12Draw.f k s0_0 t364 t365).bind fun bt366 => (some (bt366.1, t357, t358, bt366.2.1, bt366.2.2))) else (if t363 = 1 then ((spec_l01Pick.f s0_0 t364 t365 (([(-1), 0, 20, 21] : List Int))).bind fun bt374 => (some (t354, bt374.1, t358, bt374.2.1, bt374.2.2))) else (if t363 = 2 then ((spec_l01Next.f s0_0 t364 t365 10).bind fun bt377 => ((spec_l01Next.f s0_0 bt377.2.1 bt377.2.2 3).bind fun bt380 => ((spec_l01Next.f s0_0 bt380.2.1 bt380.2.2 4).bind fun bt383 => (if t358.length < 5864062014805 then (some (t354, t357, (t358 ++ [(⟨wrap64 (bt377.1 - 1), bt380.1, bt383.1⟩ : S103)]), bt383.2.1, bt383.2.2)) else (none))))) else (if t363 = 3 then (if (t358.length : Int) > 0 then (if 0 < (t358.length : Int) then (if t358.length < 5864062014805 then (some (t354, t357, (t358 ++ [(⟨(rd_T103 t358 0).f0, (rd_T103 t358 0).f1, (rd_T103 t358 0).f2⟩ : S103)]), t364, t365)) else (none)) else (none)) else (some (t354, t357, t358, t364, t365))) else (some (t354, t357, t358, t364, t365)))))) = some (r1, r2, r3, r4, r5) := H
 have A3 := Aside0.mk A30
 clear A30
 by_cases c4 : t363 = 0
 ·rw [if_pos c4] at H
  have c4b0 : (t363 == 0) = true := beq_iff_eq.mpr c4
  have c4b1 : (t363 != 0) = false := bne_eq_false_iff_eq.mpr c4
  clear c4
  replace H := Option.bind_eq_some_iff.mp H
  obtain ⟨⟨t366, t369, t370⟩, A50, H⟩ := H
  replace H : (some (t366, t357, t358, t369, t370)) = some (r1, r2, r3, r4, r5) := H
  have A5 := Aside0.mk A50
  clear A50
  simp only [Option.some.injEq, Prod.mk.injEq] at H
  obtain ⟨rfl, rfl, rfl, rfl, rfl⟩ := H
  go_enter Try.func126, Try.ntmps126
  go_wp2_with (first | ((with_reducible refine gate_callee (f := 153) rfl ?_); refine goesL_ (some 10) rfl rfl Try.func153 (by kernel_rfl) rfl #[.pointer (some ⟨g, 0, none⟩)] rfl ag_ ?_; (with_reducible refine (spec_l13Good.calls k g s0_0 s0_1 s0_2 t354 t357 t358 t361 t362 w0 _ ?side1 ?side2 A2.out).mono ?_); (case side1 => exact r0_ HI0.out); (case side2 => exact r3_ HB.out HI0.out); rintro e w6 ⟨v355, v359, rfl, ho0, ho1, hi, hb, hk⟩; refine ⟨_, rfl, ?_⟩; have n0_ := Aside0.mk (Kd.R_lower ho0 (keep_size (w := w) (g := g) (row := none) (r2_ HK.out))); have n1_ := Aside0.mk (Kd.R_lower ho1 (keep_size (w := w) (g := g) (row := none) (r2_ HK.out))); have n2_ := Aside0.mk (KeepBut.trans (r2_ HK.out) hk (.inl rfl)); have n3_ := Aside0.mk (hb); have n4_ := Aside0.mk (hi); clear HK; clear HB; clear HI0; have HO356 := n0_; have HO360 := n1_; have HK := n2_; have HB := n3_; have HI0 := n4_; clear n0_ n1_ n2_ n3_ n4_; (try clear hb); (try clear hb2); (try clear hk); (try clear hi); (try clear ho0); (try clear ho1)) | ((with_reducible refine gate_callee (f := 119) rfl ?_); refine goesL_ (some 15) rfl rfl Try.func119 (by kernel_rfl) rfl #[.pointer (some ⟨g, 0, none⟩), .int .i64 40] rfl ag_ ?_; (with_reducible refine (spec_l01Next.calls g s0_0 t361 t362 40 t363 t364 t365 w0 _ ?side1 ?side2 A3.out).mono ?_); (case side1 => exact r0_ HI0.out); (case side2 => exact r3_ HB.out HI0.out); rintro e w7 ⟨rfl, hi, hb, hk⟩; refine ⟨_, rfl, ?_⟩; have n0_ := Aside0.mk (Kd.R_mono (Kd.R_keep (IsS167.apart (show IsS167 w0 _ g s0_0 t361 t362 from r0_ HI0.out) (rk_ HO356.out) (by decide)) hk (fun _ h => h.2)) (fun _ h => h.1)); have n1_ := Aside0.mk (Kd.R_mono (Kd.R_keep (IsS167.apart (show IsS167 w0 _ g s0_0 t361 t362 from r0_ HI0.out) (rk_ HO360.out) (by decide)) hk (fun _ h => h.2)) (fun _ h => h.1)); have n2_ := Aside0.mk (KeepBut.trans (r2_ HK.out) hk (.inl rfl)); have n3_ := Aside0.mk (hb); have n4_ := Aside0.mk (hi); clear HO356; clear HO360; clear HK; clear HB; clear HI0; have HO356 := n0_; have HO360 := n1_; have HK := n2_; have HB := n3_; have HI0 := n4_; clear n0_ n1_ n2_ n3_ n4_; (try clear hb); (try clear hb2); (try clear hk); (try clear hi)) | ((with_reducible refine gate_callee (f := 154) rfl ?_); refine goesL_ (some 19) rfl rfl Try.func154 (by kernel_rfl) rfl #[.pointer (some ⟨g, 0, none⟩)] rfl ag_ ?_; (with_reducible refine (spec_l12Draw.calls k g s0_0 t364 t365 t366 t369 t370 w0 _ ?side1 ?side2 A5.out).mono ?_); (case side1 => exact r0_ HI0.out); (case side2 => exact r3_ HB.out HI0.out); rintro e w8 ⟨v367, rfl, ho0, hi, hb, hk⟩; refine ⟨_, rfl, ?_⟩; have n0_ := Aside0.mk (Kd.R_mono (Kd.R_told (Kd.R_oldK (IsS167.apart (show IsS167 w0 _ g s0_0 t364 t365 from r0_ HI0.out) (rk_ HO356.out) (by decide)) hk) (Kd.R_base ho0)) (fun _ h_ => h_.1)); have n1_ := Aside0.mk (Kd.R_mono (Kd.R_keep (IsS167.apart (show IsS167 w0 _ g s0_0 t364 t365 from r0_ HI0.out) (rk_ HO360.out) (by decide)) hk (fun _ h => h.2)) (fun _ h => h.1)); have n2_ := Aside0.mk (Kd.R_lower (Kd.R_new' ho0 (Kd.R_lt (rk_ HO356.out))) (keep_size (w := w) (g := g) (row := none) (r2_ HK.out))); have n3_ := Aside0.mk (KeepBut.trans (r2_ HK.out) hk (.inl rfl)); have n4_ := Aside0.mk (hb); have n5_ := Aside0.mk (hi); clear HO356; clear HO360; clear HK; clear HB; clear HI0; have HO356 := n0_; have HO360 := n1_; have HO368 := n2_; have HK := n3_; have HB := n4_; have HI0 := n5_; clear n0_ n1_ n2_ n3_ n4_ n5_; (try clear hb); (try clear hb2); (try clear hk); (try clear hi); (try clear ho0)))
  go_ret3
  exact ⟨_, _, by first | rfl | (simp [errW_none, errW_some] <;> rfl) | (simp [*, errW_none, errW_some] <;> rfl), rk_ (Kd.R_mono HO368.out (fun _ hk => trivial)), rk_ HO360.out, r0_ HI0.out, r3_ HB.out HI0.out, r2_ HK.out⟩
 ·rw [if_neg c4] at H
  have c4b0 : (t363 == 0) = false := beq_eq_false_iff_ne.mpr c4
  have c4b1 : (t363 != 0) = true := bne_iff_ne.mpr c4
  by_cases c9 : t363 = 1
  ·rw [if_pos c9] at H
   have c9b0 : (t363 == 1) = true := beq_iff_eq.mpr c9
   have c9b1 : (t363 != 1) = false := bne_eq_false_iff_eq.mpr c9
   clear c9
   obtain ⟨y371, hy371⟩ : ∃ y_ : List Int, y_ = (([(-1), 0, 20, 21] : List Int)) := ⟨_, rfl⟩
   replace H : ((spec_l01Pick.f s0_0 t364 t365 y371).bind fun bt374 => (some (t354, bt374.1, t358, bt374.2.1, bt374.2.2))) = some (r1, r2, r3, r4, r5) := by first | (rw [hy371]; with_reducible exact H) | (have H2_ := (Option.bind_some _ _).symm.trans H; rw [hy371]; with_reducible exact H2_) | (have H2_ := (Option.bind_some _ _).symm.trans H; with_reducible exact H2_) | with_reducible exact H | (rw [hy371]; exact H) | exact H
   have Ny371 := Aside0.mk hy371
   clear hy371
   replace H := Option.bind_eq_some_iff.mp H
   obtain ⟨⟨t374, t375, t376⟩, A100, H⟩ := H
   replace H : (some (t354, t374, t358, t375, t376)) = some (r1, r2, r3, r4, r5) := H
   have A10 := Aside0.mk A100
   clear A100
   simp only [Option.some.injEq, Prod.mk.injEq] at H
   obtain ⟨rfl, rfl, rfl, rfl, rfl⟩ := H
   go_enter Try.func126, Try.ntmps126
   go_wp2_with (first | ((with_reducible refine gate_callee (f := 153) rfl ?_); refine goesL_ (some 10) rfl rfl Try.func153 (by kernel_rfl) rfl #[.pointer (some ⟨g, 0, none⟩)] rfl ag_ ?_; (with_reducible refine (spec_l13Good.calls k g s0_0 s0_1 s0_2 t354 t357 t358 t361 t362 w0 _ ?side1 ?side2 A2.out).mono ?_); (case side1 => exact r0_ HI0.out); (case side2 => exact r3_ HB.out HI0.out); rintro e w11 ⟨v355, v359, rfl, ho0, ho1, hi, hb, hk⟩; refine ⟨_, rfl, ?_⟩; have n0_ := Aside0.mk (Kd.R_lower ho0 (keep_size (w := w) (g := g) (row := none) (r2_ HK.out))); have n1_ := Aside0.mk (Kd.R_lower ho1 (keep_size (w := w) (g := g) (row := none) (r2_ HK.out))); have n2_ := Aside0.mk (KeepBut.trans (r2_ HK.out) hk (.inl rfl)); have n3_ := Aside0.mk (hb); have n4_ := Aside0.mk (hi); clear HK; clear HB; clear HI0; have HO356 := n0_; have HO360 := n1_; have HK := n2_; have HB := n3_; have HI0 := n4_; clear n0_ n1_ n2_ n3_ n4_; (try clear hb); (try clear hb2); (try clear hk); (try clear hi); (try clear ho0); (try clear ho1)) | ((with_reducible refine gate_callee (f := 119) rfl ?_); refine goesL_ (some 15) rfl rfl Try.func119 (by kernel_rfl) rfl #[.pointer (some ⟨g, 0, none⟩), .int .i64 40] rfl ag_ ?_; (with_reducible refine (spec_l01Next.calls g s0_0 t361 t362 40 t363 t364 t365 w0 _ ?side1 ?side2 A3.out).mono ?_); (case side1 => exact r0_ HI0.out); (case side2 => exact r3_ HB.out HI0.out); rintro e w12 ⟨rfl, hi, hb, hk⟩; refine ⟨_, rfl, ?_⟩; have n0_ := Aside0.mk (Kd.R_mono (Kd.R_keep (IsS167.apart (show IsS167 w0 _ g s0_0 t361 t362 from r0_ HI0.out) (rk_ HO356.out) (by decide)) hk (fun _ h => h.2)) (fun _ h => h.1)); have n1_ := Aside0.mk (Kd.R_mono (Kd.R_keep (IsS167.apart (show IsS167 w0 _ g s0_0 t361 t362 from r0_ HI0.out) (rk_ HO360.out) (by decide)) hk (fun _ h => h.2)) (fun _ h => h.1)); have n2_ := Aside0.mk (KeepBut.trans (r2_ HK.out) hk (.inl rfl)); have n3_ := Aside0.mk (hb); have n4_ := Aside0.mk (hi); clear HO356; clear HO360; clear HK; clear HB; clear HI0; have HO356 := n0_; have HO360 := n1_; have HK := n2_; have HB := n3_; have HI0 := n4_; clear n0_ n1_ n2_ n3_ n4_; (try clear hb); (try clear hb2); (try clear hk); (try clear hi)) | ((with_reducible refine gate_dst (N := 23) rfl ?_); refine Kd.R_lit (Kd.int .i64) _ 2 ?hg (N := 23) ?hd (xs := ([(-1), 0, 20, 21] : List Int)) (inner := [.int .i64 (-1), .int .i64 0, .int .i64 20, .int .i64 21]) (ok := fun _ => True) (okp := fun _ => True) ?hr ?hp (fun _ hk => hk) trivial (Below.refl _ _) (Nat.le_refl _) (by simp) ?_; (case hd => rfl); (case hg => rfl); (case hr => first | (go_simp; done) | (go_simp; rfl)); (case hp => exact (Reps.one (show Kd.M (Kd.int .i64) _ _ _ (-1) [.int .i64 (-1)] from rfl) (Reps.one (show Kd.M (Kd.int .i64) _ _ _ 0 [.int .i64 0] from rfl) (Reps.one (show Kd.M (Kd.int .i64) _ _ _ 20 [.int .i64 20] from rfl) (Reps.one (show Kd.M (Kd.int .i64) _ _ _ 21 [.int .i64 21] from rfl) (Reps.none _ _)))))); intro v372 w13 ho14 hb hg_ hnew_; clear hg_ hnew_; (first | rw [← Ny371.out] at ho14 | (simp only [Int.reduceToNat] at ho14; rw [← Ny371.out] at ho14)); have n0_ := Aside0.mk (Kd.R_below (rk_ HO356.out) hb); have n1_ := Aside0.mk (Kd.R_below (rk_ HO360.out) hb); have n2_ := Aside0.mk (Kd.R_lower ho14 (keep_size (w := w) (g := g) (row := none) (r2_ HK.out))); have n3_ := Aside0.mk (IsS167.below (r0_ HI0.out) hb); have n4_ := Aside0.mk (KeepBut.trans (r2_ HK.out) (KeepBut.of_below hb g none) (.inl rfl)); have n5_ := Aside0.mk (below_step (r3_ HB.out HI0.out) hb); clear HO356; clear HO360; clear HI0; clear HK; clear HB; have HO356 := n0_; have HO360 := n1_; have HO373 := n2_; have HI0 := n3_; have HK := n4_; have HB := n5_; clear n0_ n1_ n2_ n3_ n4_ n5_; clear hb ho14; obtain ⟨Ao15, co15, eo15⟩ := Kd.R_slice HO373.out; subst eo15) | ((with_reducible refine gate_callee (f := 150) rfl ?_); refine goesL_ (some 24) rfl rfl Try.func150 (by kernel_rfl) rfl #[.pointer (some ⟨g, 0, none⟩), .slice Ao15 y371.length co15] rfl ag_ ?_; (with_reducible refine (spec_l01Pick.calls g s0_0 t364 t365 _ _ y371 t374 t375 t376 w0 _ ?side1 ?side2 ?side3 ?side4 ?side5 A10.out).mono ?_); (case side1 => exact r0_ HI0.out); (case side2 => exact r3_ HB.out HI0.out); (case side3 => exact r8_ HO373.out); (case side4 => exact (Kd.R_reads' HO373.out).2.1); (case side5 => exact far_slice (IsS167.own_ne HI0.out HO373.out (by decide))); rintro e w16 ⟨rfl, hi, hb, hk⟩; refine ⟨_, rfl, ?_⟩; have n0_ := Aside0.mk (Kd.R_mono (Kd.R_keep (IsS167.apart (show IsS167 w0 _ g s0_0 t364 t365 from r0_ HI0.out) (rk_ HO356.out) (by decide)) hk (fun _ h => h.2)) (fun _ h => h.1)); have n1_ := Aside0.mk (Kd.R_mono (Kd.R_keep (IsS167.apart (show IsS167 w0 _ g s0_0 t364 t365 from r0_ HI0.out) (rk_ HO360.out) (by decide)) hk (fun _ h => h.2)) (fun _ h => h.1)); have n2_ := Aside0.mk (Kd.R_mono (Kd.R_keep (IsS167.apart (show IsS167 w0 _ g s0_0 t364 t365 from r0_ HI0.out) (rk_ HO373.out) (by decide)) hk (fun _ h => h.2)) (fun _ h => h.1)); have n3_ := Aside0.mk (KeepBut.trans (r2_ HK.out) hk (.inl rfl)); have n4_ := Aside0.mk (hb); have n5_ := Aside0.mk (hi); clear HO356; clear HO360; clear HO373; clear HK; clear HB; clear HI0; have HO356 := n0_; have HO360 := n1_; have HO373 := n2_; have HK := n3_; have HB := n4_; have HI0 := n5_; clear n0_ n1_ n2_ n3_ n4_ n5_; (try clear hb); (try clear hb2); (try clear hk); (try clear hi)))
   go_ret3
   exact ⟨_, _, by first | rfl | (simp [errW_none, errW_some] <;> rfl) | (simp [*, errW_none, errW_some] <;> rfl), rk_ HO356.out, rk_ HO360.out, r0_ HI0.out, r3_ HB.out HI0.out, r2_ HK.out⟩
  ·rw [if_neg c9] at H
   have c9b0 : (t363 == 1) = false := beq_eq_false_iff_ne.mpr c9
   have c9b1 : (t363 != 1) = true := bne_iff_ne.mpr c9
   by_cases c17 : t363 = 2
   ·rw [if_pos c17] at H
    have c17b0 : (t363 == 2) = true := beq_iff_eq.mpr c17
    have c17b1 : (t363 != 2) = false := bne_eq_false_iff_eq.mpr c17
    clear c17
    replace H := Option.bind_eq_some_iff.mp H
    obtain ⟨⟨t377, t378, t379⟩, A180, H⟩ := H
    replace H : ((spec_l01Next.f s0_0 t378 t379 3).bind fun bt380 => ((spec_l01Next.f s0_0 bt380.2.1 bt380.2.2 4).bind fun bt383 => (if t358.length < 5864062014805 then (some (t354, t357, (t358 ++ [(⟨wrap64 (t377 - 1), bt380.1, bt383.1⟩ : S103)]), bt383.2.1, bt383.2.2)) else (none)))) = some (r1, r2, r3, r4, r5) := H
    have A18 := Aside0.mk A180
    clear A180
    replace H := Option.bind_eq_some_iff.mp H
    obtain ⟨⟨t380, t381, t382⟩, A190, H⟩ := H
    replace H : ((spec_l01Next.f s0_0 t381 t382 4).bind fun bt383 => (if t358.length < 5864062014805 then (some (t354, t357, (t358 ++ [(⟨wrap64 (t377 - 1), t380, bt383.1⟩ : S103)]), bt383.2.1, bt383.2.2)) else (none))) = some (r1, r2, r3, r4, r5) := H
    have A19 := Aside0.mk A190
    clear A190
    replace H := Option.bind_eq_some_iff.mp H
    obtain ⟨⟨t383, t384, t385⟩, A200, H⟩ := H
    replace H : (if t358.length < 5864062014805 then (some (t354, t357, (t358 ++ [(⟨wrap64 (t377 - 1), t380, t383⟩ : S103)]), t384, t385)) else (none)) = some (r1, r2, r3, r4, r5) := H
    have A20 := Aside0.mk A200
    clear A200
    by_cases c21 : t358.length < 5864062014805
    case neg =>
     rw [if_neg c21] at H
     exact absurd H (by simp)
    rw [if_pos c21] at H
    have LMc21 := Aside0.mk c21
    clear c21
    obtain ⟨y386, hy386⟩ : ∃ y_ : List (S103), y_ = (t358 ++ [(⟨wrap64 (t377 - 1), t380, t383⟩ : S103)]) := ⟨_, rfl⟩
    replace H : (some (t354, t357, y386, t384, t385)) = some (r1, r2, r3, r4, r5) := by first | (rw [hy386]; with_reducible exact H) | (have H2_ := (Option.bind_some _ _).symm.trans H; rw [hy386]; with_reducible exact H2_) | (have H2_ := (Option.bind_some _ _).symm.trans H; with_reducible exact H2_) | with_reducible exact H | (rw [hy386]; exact H) | exact H
    have Ny386 := Aside0.mk hy386
    clear hy386
    simp only [Option.some.injEq, Prod.mk.injEq] at H
    obtain ⟨rfl, rfl, rfl, rfl, rfl⟩ := H
    go_enter Try.func126, Try.ntmps126
    go_wp2_with (first | ((with_reducible refine gate_callee (f := 153) rfl ?_); refine goesL_ (some 10) rfl rfl Try.func153 (by kernel_rfl) rfl #[.pointer (some ⟨g, 0, none⟩)] rfl ag_ ?_; (with_reducible refine (spec_l13Good.calls k g s0_0 s0_1 s0_2 t354 t357 t358 t361 t362 w0 _ ?side1 ?side2 A2.out).mono ?_); (case side1 => exact r0_ HI0.out); (case side2 => exact r3_ HB.out HI0.out); rintro e w22 ⟨v355, v359, rfl, ho0, ho1, hi, hb, hk⟩; refine ⟨_, rfl, ?_⟩; have n0_ := Aside0.mk (Kd.R_lower ho0 (keep_size (w := w) (g := g) (row := none) (r2_ HK.out))); have n1_ := Aside0.mk (Kd.R_lower ho1 (keep_size (w := w) (g := g) (row := none) (r2_ HK.out))); have n2_ := Aside0.mk (KeepBut.trans (r2_ HK.out) hk (.inl rfl)); have n3_ := Aside0.mk (hb); have n4_ := Aside0.mk (hi); clear HK; clear HB; clear HI0; have HO356 := n0_; have HO360 := n1_; have HK := n2_; have HB := n3_; have HI0 := n4_; clear n0_ n1_ n2_ n3_ n4_; (try clear hb); (try clear hb2); (try clear hk); (try clear hi); (try clear ho0); (try clear ho1)) | ((with_reducible refine gate_callee (f := 119) rfl ?_); refine goesL_ (some 15) rfl rfl Try.func119 (by kernel_rfl) rfl #[.pointer (some ⟨g, 0, none⟩), .int .i64 40] rfl ag_ ?_; (with_reducible refine (spec_l01Next.calls g s0_0 t361 t362 40 t363 t364 t365 w0 _ ?side1 ?side2 A3.out).mono ?_); (case side1 => exact r0_ HI0.out); (case side2 => exact r3_ HB.out HI0.out); rintro e w23 ⟨rfl, hi, hb, hk⟩; refine ⟨_, rfl, ?_⟩; have n0_ := Aside0.mk (Kd.R_mono (Kd.R_keep (IsS167.apart (show IsS167 w0 _ g s0_0 t361 t362 from r0_ HI0.out) (rk_ HO356.out) (by decide)) hk (fun _ h => h.2)) (fun _ h => h.1)); have n1_ := Aside0.mk (Kd.R_mono (Kd.R_keep (IsS167.apart (show IsS167 w0 _ g s0_0 t361 t362 from r0_ HI0.out) (rk_ HO360.out) (by decide)) hk (fun _ h => h.2)) (fun _ h => h.1)); have n2_ := Aside0.mk (KeepBut.trans (r2_ HK.out) hk (.inl rfl)); have n3_ := Aside0.mk (hb); have n4_ := Aside0.mk (hi); clear HO356; clear HO360; clear HK; clear HB; clear HI0; have HO356 := n0_; have HO360 := n1_; have HK := n2_; have HB := n3_; have HI0 := n4_; clear n0_ n1_ n2_ n3_ n4_; (try clear hb); (try clear hb2); (try clear hk); (try clear hi)) | ((with_reducible refine gate_callee (f := 119) rfl ?_); refine goesL_ (some 29) rfl rfl Try.func119 (by kernel_rfl) rfl #[.pointer (some ⟨g, 0, none⟩), .int .i64 10] rfl ag_ ?_; (with_reducible refine (spec_l01Next.calls g s0_0 t364 t365 10 t377 t378 t379 w0 _ ?side1 ?side2 A18.out).mono ?_); (case side1 => exact r0_ HI0.out); (case side2 => exact r3_ HB.out HI0.out); rintro e w24 ⟨rfl, hi, hb, hk⟩; refine ⟨_, rfl, ?_⟩; have n0_ := Aside0.mk (Kd.R_mono (Kd.R_keep (IsS167.apart (show IsS167 w0 _ g s0_0 t364 t365 from r0_ HI0.out) (rk_ HO356.out) (by decide)) hk (fun _ h => h.2)) (fun _ h => h.1)); have n1_ := Aside0.mk (Kd.R_mono (Kd.R_keep (IsS167.apart (show IsS167 w0 _ g s0_0 t364 t365 from r0_ HI0.out) (rk_ HO360.out) (by decide)) hk (fun _ h => h.2)) (fun _ h => h.1)); have n2_ := Aside0.mk (KeepBut.trans (r2_ HK.out) hk (.inl rfl)); have n3_ := Aside0.mk (hb); have n4_ := Aside0.mk (hi); clear HO356; clear HO360; clear HK; clear HB; clear HI0; have HO356 := n0_; have HO360 := n1_; have HK := n2_; have HB := n3_; have HI0 := n4_; clear n0_ n1_ n2_ n3_ n4_; (try clear hb); (try clear hb2); (try clear hk); (try clear hi)) | ((with_reducible refine gate_callee (f := 119) rfl ?_); refine goesL_ (some 32) rfl rfl Try.func119 (by kernel_rfl) rfl #[.pointer (some ⟨g, 0, none⟩), .int .i64 3] rfl ag_ ?_; (with_reducible refine (spec_l01Next.calls g s0_0 t378 t379 3 t380 t381 t382 w0 _ ?side1 ?side2 A19.out).mono ?_); (case side1 => exact r0_ HI0.out); (case side2 => exact r3_ HB.out HI0.out); rintro e w25 ⟨rfl, hi, hb, hk⟩; refine ⟨_, rfl, ?_⟩; have n0_ := Aside0.mk (Kd.R_mono (Kd.R_keep (IsS167.apart (show IsS167 w0 _ g s0_0 t378 t379 from r0_ HI0.out) (rk_ HO356.out) (by decide)) hk (fun _ h => h.2)) (fun _ h => h.1)); have n1_ := Aside0.mk (Kd.R_mono (Kd.R_keep (IsS167.apart (show IsS167 w0 _ g s0_0 t378 t379 from r0_ HI0.out) (rk_ HO360.out) (by decide)) hk (fun _ h => h.2)) (fun _ h => h.1)); have n2_ := Aside0.mk (KeepBut.trans (r2_ HK.out) hk (.inl rfl)); have n3_ := Aside0.mk (hb); have n4_ := Aside0.mk (hi); clear HO356; clear HO360; clear HK; clear HB; clear HI0; have HO356 := n0_; have HO360 := n1_; have HK := n2_; have HB := n3_; have HI0 := n4_; clear n0_ n1_ n2_ n3_ n4_; (try clear hb); (try clear hb2); (try clear hk); (try clear hi)) | ((with_reducible refine gate_callee (f := 119) rfl ?_); refine goesL_ (some 34) rfl rfl Try.func119 (by kernel_rfl) rfl #[.pointer (some ⟨g, 0, none⟩), .int .i64 4] rfl ag_ ?_; (with_reducible refine (spec_l01Next.calls g s0_0 t381 t382 4 t383 t384 t385 w0 _ ?side1 ?side2 A20.out).mono ?_); (case side1 => exact r0_ HI0.out); (case side2 => exact r3_ HB.out HI0.out); rintro e w26 ⟨rfl, hi, hb, hk⟩; refine ⟨_, rfl, ?_⟩; have n0_ := Aside0.mk (Kd.R_mono (Kd.R_keep (IsS167.apart (show IsS167 w0 _ g s0_0 t381 t382 from r0_ HI0.out) (rk_ HO356.out) (by decide)) hk (fun _ h => h.2)) (fun _ h => h.1)); have n1_ := Aside0.mk (Kd.R_mono (Kd.R_keep (IsS167.apart (show IsS167 w0 _ g s0_0 t381 t382 from r0_ HI0.out) (rk_ HO360.out) (by decide)) hk (fun _ h => h.2)) (fun _ h => h.1)); have n2_ := Aside0.mk (KeepBut.trans (r2_ HK.out) hk (.inl rfl)); have n3_ := Aside0.mk (hb); have n4_ := Aside0.mk (hi); clear HO356; clear HO360; clear HK; clear HB; clear HI0; have HO356 := n0_; have HO360 := n1_; have HK := n2_; have HB := n3_; have HI0 := n4_; clear n0_ n1_ n2_ n3_ n4_; (try clear hb); (try clear hb2); (try clear hk); (try clear hi)) | ((with_reducible refine gate_builtin (b := .append) (xs := #[.tmp 27, .tmp 36]) rfl ?_); at_builtin; refine Kd.R_append k103 w.heap.size rfl (.tmp 27) (.tmp 36) 26 103 (.agg #[(.int .i64 0), (.int .i64 0), (.int .i64 0)]) 24 rfl Try.underlying26 info103 rfl (by decide) (by omega) v359 t358 (⟨wrap64 (t377 - 1), t380, t383⟩ : S103) [.int .i64 (wrap64 (t377 - 1)), .int .i64 t380, .int .i64 t383] (fun _ => True) (fun _ => False) rfl rfl ?aP (fun _ hk => hk.elim) ?aF ?aO (Below.refl _ _) ?aS ?aL ?_; (case aP => exact k103_mkM _ _ _ (⟨wrap64 (t377 - 1), t380, t383⟩ : S103)); (case aF => exact (fun _ _ => trivial)); (case aO => exact (rk_ HO360.out)); (case aS => exact (keep_size (w := w) (g := g) (row := none) (r2_ HK.out))); (case aL => have := LMc21.out; omega); intro v387 w27 ho hb hg hat; rw [← Ny386.out] at ho; have n0_ := Aside0.mk (IsS167.grown (r0_ HI0.out) hg (IsS167.own_ne HI0.out HO360.out (by decide))); have n1_ := Aside0.mk (Kd.R_over' (rk_ HO356.out) (Kd.R_typed (rk_ HO360.out)) (by decide) hg); have n2_ := Aside0.mk (below_weaken (r3_ HB.out HI0.out) HL.out hb); have n3_ := Aside0.mk (KeepBut.trans (r2_ HK.out) (KeepBut.of_grown hg g) (Kd.R_base2 HO360.out)); have n4_ := Aside0.mk (ho); clear HI0; clear HO356; clear HB; clear HK; clear HO360; have HI0 := n0_; have HO356 := n1_; have HB := n2_; have HK := n3_; have HO388 := n4_; clear n0_ n1_ n2_ n3_ n4_; clear ho hb hg hat))
    go_ret3
    exact ⟨_, _, by first | rfl | (simp [errW_none, errW_some] <;> rfl) | (simp [*, errW_none, errW_some] <;> rfl), rk_ HO356.out, rk_ HO388.out, r0_ HI0.out, r3_ HB.out HI0.out, r2_ HK.out⟩
   ·rw [if_neg c17] at H
    have c17b0 : (t363 == 2) = false := beq_eq_false_iff_ne.mpr c17
    have c17b1 : (t363 != 2) = true := bne_iff_ne.mpr c17
    by_cases c28 : t363 = 3
    ·rw [if_pos c28] at H
     have c28b0 : (t363 == 3) = true := beq_iff_eq.mpr c28
     have c28b1 : (t363 != 3) = false := bne_eq_false_iff_eq.mpr c28
     clear c28
     by_cases c29 : (t358.length : Int) > 0
     ·rw [if_pos c29] at H
      have c29b0 : decide (0 < (t358.length : Int)) = true := decide_eq_true c29
      have c29b1 : decide (0 < t358.length) = true := decide_eq_true (by omega)
      clear c29
      by_cases c30 : 0 < (t358.length : Int)
      case neg =>
       rw [if_neg c30] at H
       exact absurd H (by simp)
      rw [if_pos c30] at H
      have c30b0 : decide (0 < (t358.length : Int)) = true := decide_eq_true c30
      have c30b1 : decide (0 < t358.length) = true := decide_eq_true (by omega)
      clear c30
      by_cases c31 : t358.length < 5864062014805
      case neg =>
       rw [if_neg c31] at H
       exact absurd H (by simp)
      rw [if_pos c31] at H
      have LMc31 := Aside0.mk c31
      clear c31
      obtain ⟨y390, hy390⟩ : ∃ y_ : List (S103), y_ = (t358 ++ [(⟨(rd_T103 t358 0).f0, (rd_T103 t358 0).f1, (rd_T103 t358 0).f2⟩ : S103)]) := ⟨_, rfl⟩
      replace H : (some (t354, t357, y390, t364, t365)) = some (r1, r2, r3, r4, r5) := by first | (rw [hy390]; with_reducible exact H) | (have H2_ := (Option.bind_some _ _).symm.trans H; rw [hy390]; with_reducible exact H2_) | (have H2_ := (Option.bind_some _ _).symm.trans H; with_reducible exact H2_) | with_reducible exact H | (rw [hy390]; exact H) | exact H
      have Ny390 := Aside0.mk hy390
      clear hy390
      simp only [Option.some.injEq, Prod.mk.injEq] at H
      obtain ⟨rfl, rfl, rfl, rfl, rfl⟩ := H
      go_enter Try.func126, Try.ntmps126
      go_wp2_with (first | ((with_reducible refine gate_callee (f := 153) rfl ?_); refine goesL_ (some 10) rfl rfl Try.func153 (by kernel_rfl) rfl #[.pointer (some ⟨g, 0, none⟩)] rfl ag_ ?_; (with_reducible refine (spec_l13Good.calls k g s0_0 s0_1 s0_2 t354 t357 t358 t361 t362 w0 _ ?side1 ?side2 A2.out).mono ?_); (case side1 => exact r0_ HI0.out); (case side2 => exact r3_ HB.out HI0.out); rintro e w32 ⟨v355, v359, rfl, ho0, ho1, hi, hb, hk⟩; refine ⟨_, rfl, ?_⟩; have n0_ := Aside0.mk (Kd.R_lower ho0 (keep_size (w := w) (g := g) (row := none) (r2_ HK.out))); have n1_ := Aside0.mk (Kd.R_lower ho1 (keep_size (w := w) (g := g) (row := none) (r2_ HK.out))); have n2_ := Aside0.mk (KeepBut.trans (r2_ HK.out) hk (.inl rfl)); have n3_ := Aside0.mk (hb); have n4_ := Aside0.mk (hi); clear HK; clear HB; clear HI0; have HO356 := n0_; have HO360 := n1_; have HK := n2_; have HB := n3_; have HI0 := n4_; clear n0_ n1_ n2_ n3_ n4_; (try clear hb); (try clear hb2); (try clear hk); (try clear hi); (try clear ho0); (try clear ho1)) | ((with_reducible refine gate_callee (f := 119) rfl ?_); refine goesL_ (some 15) rfl rfl Try.func119 (by kernel_rfl) rfl #[.pointer (some ⟨g, 0, none⟩), .int .i64 40] rfl ag_ ?_; (with_reducible refine (spec_l01Next.calls g s0_0 t361 t362 40 t363 t364 t365 w0 _ ?side1 ?side2 A3.out).mono ?_); (case side1 => exact r0_ HI0.out); (case side2 => exact r3_ HB.out HI0.out); rintro e w33 ⟨rfl, hi, hb, hk⟩; refine ⟨_, rfl, ?_⟩; have n0_ := Aside0.mk (Kd.R_mono (Kd.R_keep (IsS167.apart (show IsS167 w0 _ g s0_0 t361 t362 from r0_ HI0.out) (rk_ HO356.out) (by decide)) hk (fun _ h => h.2)) (fun _ h => h.1)); have n1_ := Aside0.mk (Kd.R_mono (Kd.R_keep (IsS167.apart (show IsS167 w0 _ g s0_0 t361 t362 from r0_ HI0.out) (rk_ HO360.out) (by decide)) hk (fun _ h => h.2)) (fun _ h => h.1)); have n2_ := Aside0.mk (KeepBut.trans (r2_ HK.out) hk (.inl rfl)); have n3_ := Aside0.mk (hb); have n4_ := Aside0.mk (hi); clear HO356; clear HO360; clear HK; clear HB; clear HI0; have HO356 := n0_; have HO360 := n1_; have HK := n2_; have HB := n3_; have HI0 := n4_; clear n0_ n1_ n2_ n3_ n4_; (try clear hb); (try clear hb2); (try clear hk); (try clear hi); obtain ⟨Ao34, co34, eo34⟩ := Kd.R_slice HO360.out; subst eo34; have p389 : 0 ≤ (0 : Int) := (by omega); have q389 : 0 < (t358.length : Int) := od_; obtain ⟨ad389, e389, hx389_0, hx389_1, hx389_2⟩ := at_T103 (Kd.R_reads' HO360.out).2.2 0 p389 q389; cases e389; have qi389 : (0 < t358.length) = True := eq_true (by omega); (try rw [show ((0 : Int)).toNat = 0 from rfl] at hx389_0); (try rw [show 0 * 3 = 0 from rfl] at hx389_0); (try rw [Addr.add_zero'] at hx389_0); (try rw [show ((0 : Int)).toNat = 0 from rfl] at hx389_1); (try rw [show 0 * 3 = 0 from rfl] at hx389_1); (try rw [Addr.add_zero'] at hx389_1); (try rw [show ((0 : Int)).toNat = 0 from rfl] at hx389_2); (try rw [show 0 * 3 = 0 from rfl] at hx389_2); (try rw [Addr.add_zero'] at hx389_2); replace p389 := eq_true p389; replace q389 := eq_true q389) | ((with_reducible refine gate_builtin (b := .append) (xs := #[.tmp 43, .tmp 47]) rfl ?_); at_builtin; refine Kd.R_append k103 w.heap.size rfl (.tmp 43) (.tmp 47) 26 103 (.agg #[(.int .i64 0), (.int .i64 0), (.int .i64 0)]) 24 rfl Try.underlying26 info103 rfl (by decide) (by omega) (.slice (some ad389) t358.length co34) t358 (⟨(rd_T103 t358 0).f0, (rd_T103 t358 0).f1, (rd_T103 t358 0).f2⟩ : S103) [.int .i64 ((rd_T103 t358 0).f0), .int .i64 ((rd_T103 t358 0).f1), .int .i64 ((rd_T103 t358 0).f2)] (fun _ => True) (fun _ => False) rfl rfl ?aP (fun _ hk => hk.elim) ?aF ?aO (Below.refl _ _) ?aS ?aL ?_; (case aP => exact k103_mkM _ _ _ (⟨(rd_T103 t358 0).f0, (rd_T103 t358 0).f1, (rd_T103 t358 0).f2⟩ : S103)); (case aF => exact (fun _ _ => trivial)); (case aO => exact (rk_ HO360.out)); (case aS => exact (keep_size (w := w) (g := g) (row := none) (r2_ HK.out))); (case aL => have := LMc31.out; omega); intro v391 w35 ho hb hg hat; rw [← Ny390.out] at ho; have n0_ := Aside0.mk (IsS167.grown (r0_ HI0.out) hg (IsS167.own_ne HI0.out HO360.out (by decide))); have n1_ := Aside0.mk (Kd.R_over' (rk_ HO356.out) (Kd.R_typed (rk_ HO360.out)) (by decide) hg); have n2_ := Aside0.mk (below_weaken (r3_ HB.out HI0.out) HL.out hb); have n3_ := Aside0.mk (KeepBut.trans (r2_ HK.out) (KeepBut.of_grown hg g) (Kd.R_base2 HO360.out)); have n4_ := Aside0.mk (ho); clear HI0; clear HO356; clear HB; clear HK; clear HO360; have HI0 := n0_; have HO356 := n1_; have HB := n2_; have HK := n3_; have HO392 := n4_; clear n0_ n1_ n2_ n3_ n4_; clear ho hb hg hat))
      go_ret3
      exact ⟨_, _, by first | rfl | (simp [errW_none, errW_some] <;> rfl) | (simp [*, errW_none, errW_some] <;> rfl), rk_ HO356.out, rk_ HO392.out, r0_ HI0.out, r3_ HB.out HI0.out, r2_ HK.out⟩
     ·rw [if_neg c29] at H
      have c29b0 : decide (0 < (t358.length : Int)) = false := decide_eq_false c29
      have c29b1 : decide (0 < t358.length) = false := decide_eq_false (by omega)
      clear c29
      simp only [Option.some.injEq, Prod.mk.injEq] at H
      obtain ⟨rfl, rfl, rfl, rfl, rfl⟩ := H
      go_enter Try.func126, Try.ntmps126
      go_wp2_with (first | ((with_reducible refine gate_callee (f := 153) rfl ?_); refine goesL_ (some 10) rfl rfl Try.func153 (by kernel_rfl) rfl #[.pointer (some ⟨g, 0, none⟩)] rfl ag_ ?_; (with_reducible refine (spec_l13Good.calls k g s0_0 s0_1 s0_2 t354 t357 t358 t361 t362 w0 _ ?side1 ?side2 A2.out).mono ?_); (case side1 => exact r0_ HI0.out); (case side2 => exact r3_ HB.out HI0.out); rintro e w36 ⟨v355, v359, rfl, ho0, ho1, hi, hb, hk⟩; refine ⟨_, rfl, ?_⟩; have n0_ := Aside0.mk (Kd.R_lower ho0 (keep_size (w := w) (g := g) (row := none) (r2_ HK.out))); have n1_ := Aside0.mk (Kd.R_lower ho1 (keep_size (w := w) (g := g) (row := none) (r2_ HK.out))); have n2_ := Aside0.mk (KeepBut.trans (r2_ HK.out) hk (.inl rfl)); have n3_ := Aside0.mk (hb); have n4_ := Aside0.mk (hi); clear HK; clear HB; clear HI0; have HO356 := n0_; have HO360 := n1_; have HK := n2_; have HB := n3_; have HI0 := n4_; clear n0_ n1_ n2_ n3_ n4_; (try clear hb); (try clear hb2); (try clear hk); (try clear hi); (try clear ho0); (try clear ho1)) | ((with_reducible refine gate_callee (f := 119) rfl ?_); refine goesL_ (some 15) rfl rfl Try.func119 (by kernel_rfl) rfl #[.pointer (some ⟨g, 0, none⟩), .int .i64 40] rfl ag_ ?_; (with_reducible refine (spec_l01Next.calls g s0_0 t361 t362 40 t363 t364 t365 w0 _ ?side1 ?side2 A3.out).mono ?_); (case side1 => exact r0_ HI0.out); (case side2 => exact r3_ HB.out HI0.out); rintro e w37 ⟨rfl, hi, hb, hk⟩; refine ⟨_, rfl, ?_⟩; have n0_ := Aside0.mk (Kd.R_mono (Kd.R_keep (IsS167.apart (show IsS167 w0 _ g s0_0 t361 t362 from r0_ HI0.out) (rk_ HO356.out) (by decide)) hk (fun _ h => h.2)) (fun _ h => h.1)); have n1_ := Aside0.mk (Kd.R_mono (Kd.R_keep (IsS167.apart (show IsS167 w0 _ g s0_0 t361 t362 from r0_ HI0.out) (rk_ HO360.out) (by decide)) hk (fun _ h => h.2)) (fun _ h => h.1)); have n2_ := Aside0.mk (KeepBut.trans (r2_ HK.out) hk (.inl rfl)); have n3_ := Aside0.mk (hb); have n4_ := Aside0.mk (hi); clear HO356; clear HO360; clear HK; clear HB; clear HI0; have HO356 := n0_; have HO360 := n1_; have HK := n2_; have HB := n3_; have HI0 := n4_; clear n0_ n1_ n2_ n3_ n4_; (try clear hb); (try clear hb2); (try clear hk); (try clear hi); obtain ⟨Ao38, co38, eo38⟩ := Kd.R_slice HO360.out; subst eo38))
      go_ret3
      exact ⟨_, _, by first | rfl | (simp [errW_none, errW_some] <;> rfl) | (simp [*, errW_none, errW_some] <;> rfl), rk_ HO356.out, rk_ HO360.out, r0_ HI0.out, r3_ HB.out HI0.out, r2_ HK.out⟩
    ·rw [if_neg c28] at H
     have c28b0 : (t363 == 3) = false := beq_eq_false_iff_ne.mpr c28
     have c28b1 : (t363 != 3) = true := bne_iff_ne.mpr c28
     simp only [Option.some.injEq, Prod.mk.injEq] at H
     obtain ⟨rfl, rfl, rfl, rfl, rfl⟩ := H
     go_enter Try.func126, Try.ntmps126
     go_wp2_with (first | ((with_reducible refine gate_callee (f := 153) rfl ?_); refine goesL_ (some 10) rfl rfl Try.func153 (by kernel_rfl) rfl #[.pointer (some ⟨g, 0, none⟩)] rfl ag_ ?_; (with_reducible refine (spec_l13Good.calls k g s0_0 s0_1 s0_2 t354 t357 t358 t361 t362 w0 _ ?side1 ?side2 A2.out).mono ?_); (case side1 => exact r0_ HI0.out); (case side2 => exact r3_ HB.out HI0.out); rintro e w39 ⟨v355, v359, rfl, ho0, ho1, hi, hb, hk⟩; refine ⟨_, rfl, ?_⟩; have n0_ := Aside0.mk (Kd.R_lower ho0 (keep_size (w := w) (g := g) (row := none) (r2_ HK.out))); have n1_ := Aside0.mk (Kd.R_lower ho1 (keep_size (w := w) (g := g) (row := none) (r2_ HK.out))); have n2_ := Aside0.mk (KeepBut.trans (r2_ HK.out) hk (.inl rfl)); have n3_ := Aside0.mk (hb); have n4_ := Aside0.mk (hi); clear HK; clear HB; clear HI0; have HO356 := n0_; have HO360 := n1_; have HK := n2_; have HB := n3_; have HI0 := n4_; clear n0_ n1_ n2_ n3_ n4_; (try clear hb); (try clear hb2); (try clear hk); (try clear hi); (try clear ho0); (try clear ho1)) | ((with_reducible refine gate_callee (f := 119) rfl ?_); refine goesL_ (some 15) rfl rfl Try.func119 (by kernel_rfl) rfl #[.pointer (some ⟨g, 0, none⟩), .int .i64 40] rfl ag_ ?_; (with_reducible refine (spec_l01Next.calls g s0_0 t361 t362 40 t363 t364 t365 w0 _ ?side1 ?side2 A3.out).mono ?_); (case side1 => exact r0_ HI0.out); (case side2 => exact r3_ HB.out HI0.out); rintro e w40 ⟨rfl, hi, hb, hk⟩; refine ⟨_, rfl, ?_⟩; have n0_ := Aside0.mk (Kd.R_mono (Kd.R_keep (IsS167.apart (show IsS167 w0 _ g s0_0 t361 t362 from r0_ HI0.out) (rk_ HO356.out) (by decide)) hk (fun _ h => h.2)) (fun _ h => h.1)); have n1_ := Aside0.mk (Kd.R_mono (Kd.R_keep (IsS167.apart (show IsS167 w0 _ g s0_0 t361 t362 from r0_ HI0.out) (rk_ HO360.out) (by decide)) hk (fun _ h => h.2)) (fun _ h => h.1)); have n2_ := Aside0.mk (KeepBut.trans (r2_ HK.out) hk (.inl rfl)); have n3_ := Aside0.mk (hb); have n4_ := Aside0.mk (hi); clear HO356; clear HO360; clear HK; clear HB; clear HI0; have HO356 := n0_; have HO360 := n1_; have HK := n2_; have HB := n3_; have HI0 := n4_; clear n0_ n1_ n2_ n3_ n4_; (try clear hb); (try clear hb2); (try clear hk); (try clear hi)))
     go_ret3
     exact ⟨_, _, by first | rfl | (simp [errW_none, errW_some] <;> rfl) | (simp [*, errW_none, errW_some] <;> rfl), rk_ HO356.out, rk_ HO360.out, r0_ HI0.out, r3_ HB.out HI0.out, r2_ HK.out⟩
def spec_DrawWireCue.f (k : Nat) (l0 : List Int) : Option ((List (S98)) × Int × (List (S103)) × Int) := (spec_l01From.f k l0).bind fun bt393 => ((spec_l13Draw.f k bt393.1 bt393.2.1 bt393.2.2).bind fun bt397 => ((spec_l01Next.f bt393.1 bt397.2.2.2.1 bt397.2.2.2.2 (wrap64 (bt397.2.1 + 1))).bind fun bt406 => ((spec_l01Next.f bt393.1 bt406.2.1 bt406.2.2 24).bind fun bt409 => (some (bt397.1, bt397.2.1, bt397.2.2.1, wrap64 (bt406.1 - (wrap64 (Int.tdiv bt409.1 23))))))))
theorem spec_DrawWireCue.mono : ∀ a0 k, LeO (spec_DrawWireCue.f k a0) (spec_DrawWireCue.f (k + 1) a0) := by
 intro a0 k
 unfold spec_DrawWireCue.f
 repeat' first
   | (with_reducible exact spec_l01From.mono _ _)
   | (with_reducible exact spec_l13Draw.mono _ _ _ _)
   | (with_reducible exact LeO.refl _)
   | (with_reducible exact LeO.none _)
   | (with_reducible refine LeO.ite ?_ ?_)
   | (with_reducible refine LeO.bind ?_ (fun _ => ?_))
   | exact spec_l01From.mono _ _
   | exact spec_l13Draw.mono _ _ _ _
   | exact LeO.none _
   | refine LeO.ite ?_ ?_
   | refine LeO.bind ?_ (fun _ => ?_)
set_option maxHeartbeats 8000000 in
set_option maxRecDepth 100000 in
theorem spec_DrawWireCue.calls (k : Nat) (A0 : Option Addr) (c0 : Nat) (l0 : List Int) (r1 : List (S98)) (r2 : Int) (r3 : List (S103)) (r4 : Int) (w : World) (hr0 : Kd.C (Kd.int .u8) w A0 l0.length l0) (hc0 : l0.length ≤ c0) (h : spec_DrawWireCue.f k l0 = some (r1, r2, r3, r4)) :
  Calls Try.prog 59 #[.slice A0 l0.length c0] w fun e w' => ∃ v0_ v2_ : Value, e = .returned (.tuple #[v0_, .int .i64 r2, v2_, .int .i64 r4]) ∧ Kd.R k98 98 w' w.heap.size (fun _ => True) v0_ r1 ∧ Kd.R k103 103 w' w.heap.size (fun _ => True) v2_ r3 ∧ Below w.heap.size w w' := by
 have HR0 := Aside0.mk hr0
 have HC0 := Aside0.mk hc0
 clear hr0 hc0
 have HB := Aside0.mk (Below.refl w.heap.size w)
 have H : ((spec_l01From.f k l0).bind fun bt393 => ((spec_l13Draw.f k bt393.1 bt393.2.1 bt393.2.2).bind fun bt397 => ((spec_l01Next.f bt393.1 bt397.2.2.2.1 bt397.2.2.2.2 (wrap64 (bt397.2.1 + 1))).bind fun bt406 => ((spec_l01Next.f bt393.1 bt406.2.1 bt406.2.2 24).bind fun bt409 => (some (bt397.1, bt397.2.1, bt397.2.2.1, wrap64 (bt406.1 - (wrap64 (Int.tdiv bt409.1 23))))))))) = some (r1, r2, r3, r4) := h
 clear h
 replace H := Option.bind_eq_some_iff.mp H
 obtain ⟨⟨t393, t394, t395⟩, A20, H⟩ := H
 replace H : ((spec_l13Draw.f k t393 t394 t395).bind fun bt397 => ((spec_l01Next.f t393 bt397.2.2.2.1 bt397.2.2.2.2 (wrap64 (bt397.2.1 + 1))).bind fun bt406 => ((spec_l01Next.f t393 bt406.2.1 bt406.2.2 24).bind fun bt409 => (some (bt397.1, bt397.2.1, bt397.2.2.1, wrap64 (bt406.1 - (wrap64 (Int.tdiv bt409.1 23)))))))) = some (r1, r2, r3, r4) := H
 have A2 := Aside0.mk A20
 clear A20
 replace H := Option.bind_eq_some_iff.mp H
 obtain ⟨⟨t397, t400, t401, t404, t405⟩, A30, H⟩ := H
 replace H : ((spec_l01Next.f t393 t404 t405 (wrap64 (t400 + 1))).bind fun bt406 => ((spec_l01Next.f t393 bt406.2.1 bt406.2.2 24).bind fun bt409 => (some (t397, t400, t401, wrap64 (bt406.1 - (wrap64 (Int.tdiv bt409.1 23))))))) = some (r1, r2, r3, r4) := H
 have A3 := Aside0.mk A30
 clear A30
 replace H := Option.bind_eq_some_iff.mp H
 obtain ⟨⟨t406, t407, t408⟩, A40, H⟩ := H
 replace H : ((spec_l01Next.f t393 t407 t408 24).bind fun bt409 => (some (t397, t400, t401, wrap64 (t406 - (wrap64 (Int.tdiv bt409.1 23)))))) = some (r1, r2, r3, r4) := H
 have A4 := Aside0.mk A40
 clear A40
 replace H := Option.bind_eq_some_iff.mp H
 obtain ⟨⟨t409, t410, t411⟩, A50, H⟩ := H
 replace H : (some (t397, t400, t401, wrap64 (t406 - (wrap64 (Int.tdiv t409 23))))) = some (r1, r2, r3, r4) := H
 have A5 := Aside0.mk A50
 clear A50
 simp only [Option.some.injEq, Prod.mk.injEq] at H
 obtain ⟨rfl, rfl, rfl, rfl⟩ := H
 go_enter Try.func59, Try.ntmps59
 go_wp2_with (first | ((with_reducible refine gate_callee (f := 113) rfl ?_); refine goesL_ (some 11) rfl rfl Try.func113 (by kernel_rfl) rfl #[.slice A0 l0.length c0] rfl ag_ ?_; (with_reducible refine (spec_l01From.calls k _ _ l0 t393 t394 t395 w _ ?side1 ?side2 ?side3 A2.out).mono ?_); (case side1 => exact r13_ HB.out); (case side2 => exact HR0.out); (case side3 => exact HC0.out); rintro e w6 ⟨g396, rfl, hi, hb, hb2⟩; refine ⟨_, rfl, ?_⟩; have n0_ := Aside0.mk (hb); have n1_ := Aside0.mk (hi); clear HB; have HB := n0_; have HI396 := n1_; clear n0_ n1_; (try clear hb); (try clear hb2); (try clear hk); (try clear hi)) | ((with_reducible refine gate_callee (f := 126) rfl ?_); refine goesL_ (some 14) rfl rfl Try.func126 (by kernel_rfl) rfl #[.pointer (some ⟨g396, 0, none⟩)] rfl ag_ ?_; (with_reducible refine (spec_l13Draw.calls k g396 t393 t394 t395 t397 t400 t401 t404 t405 w _ ?side1 ?side2 A3.out).mono ?_); (case side1 => exact r0_ HI396.out); (case side2 => exact r3_ HB.out HI396.out); rintro e w7 ⟨v398, v402, rfl, ho0, ho1, hi, hb, hk⟩; refine ⟨_, rfl, ?_⟩; have n0_ := Aside0.mk (Kd.R_lower ho0 (below_size (r3_ HB.out HI396.out))); have n1_ := Aside0.mk (Kd.R_lower ho1 (below_size (r3_ HB.out HI396.out))); have n2_ := Aside0.mk (hb); have n3_ := Aside0.mk (hi); clear HB; clear HI396; have HO399 := n0_; have HO403 := n1_; have HB := n2_; have HI396 := n3_; clear n0_ n1_ n2_ n3_; (try clear hb); (try clear hb2); (try clear hk); (try clear hi); (try clear ho0); (try clear ho1)) | ((with_reducible refine gate_callee (f := 119) rfl ?_); refine goesL_ (some 24) rfl rfl Try.func119 (by kernel_rfl) rfl #[.pointer (some ⟨g396, 0, none⟩), .int .i64 (wrap64 (t400 + 1))] rfl ag_ ?_; (with_reducible refine (spec_l01Next.calls g396 t393 t404 t405 (wrap64 (t400 + 1)) t406 t407 t408 w _ ?side1 ?side2 A4.out).mono ?_); (case side1 => exact r0_ HI396.out); (case side2 => exact r3_ HB.out HI396.out); rintro e w8 ⟨rfl, hi, hb, hk⟩; refine ⟨_, rfl, ?_⟩; have n0_ := Aside0.mk (Kd.R_mono (Kd.R_keep (IsS167.apart (show IsS167 w _ g396 t393 t404 t405 from r0_ HI396.out) (rk_ HO399.out) (by decide)) hk (fun _ h => h.2)) (fun _ h => h.1)); have n1_ := Aside0.mk (Kd.R_mono (Kd.R_keep (IsS167.apart (show IsS167 w _ g396 t393 t404 t405 from r0_ HI396.out) (rk_ HO403.out) (by decide)) hk (fun _ h => h.2)) (fun _ h => h.1)); have n2_ := Aside0.mk (hb); have n3_ := Aside0.mk (hi); clear HO399; clear HO403; clear HB; clear HI396; have HO399 := n0_; have HO403 := n1_; have HB := n2_; have HI396 := n3_; clear n0_ n1_ n2_ n3_; (try clear hb); (try clear hb2); (try clear hk); (try clear hi)) | ((with_reducible refine gate_callee (f := 119) rfl ?_); refine goesL_ (some 26) rfl rfl Try.func119 (by kernel_rfl) rfl #[.pointer (some ⟨g396, 0, none⟩), .int .i64 24] rfl ag_ ?_; (with_reducible refine (spec_l01Next.calls g396 t393 t407 t408 24 t409 t410 t411 w _ ?side1 ?side2 A5.out).mono ?_); (case side1 => exact r0_ HI396.out); (case side2 => exact r3_ HB.out HI396.out); rintro e w9 ⟨rfl, hi, hb, hk⟩; refine ⟨_, rfl, ?_⟩; have n0_ := Aside0.mk (Kd.R_mono (Kd.R_keep (IsS167.apart (show IsS167 w _ g396 t393 t407 t408 from r0_ HI396.out) (rk_ HO399.out) (by decide)) hk (fun _ h => h.2)) (fun _ h => h.1)); have n1_ := Aside0.mk (Kd.R_mono (Kd.R_keep (IsS167.apart (show IsS167 w _ g396 t393 t407 t408 from r0_ HI396.out) (rk_ HO403.out) (by decide)) hk (fun _ h => h.2)) (fun _ h => h.1)); have n2_ := Aside0.mk (hb); have n3_ := Aside0.mk (hi); clear HO399; clear HO403; clear HB; clear HI396; have HO399 := n0_; have HO403 := n1_; have HB := n2_; have HI396 := n3_; clear n0_ n1_ n2_ n3_; (try clear hb); (try clear hb2); (try clear hk); (try clear hi)))
 refine bodyPost_ret (results_list (rs := [.tmp 2, .tmp 3, .tmp 4, .tmp 5]) rfl (by simp) (.tmp (.tmp (.tmp (.tmp .nil))))) rfl ?_
 exact ⟨_, _, by first | rfl | (simp [errW_none, errW_some] <;> rfl) | (simp [*, errW_none, errW_some] <;> rfl), rk_ HO399.out, rk_ HO403.out, r3_ HB.out HI396.out⟩
end Go.Proofs.Ytalcbcelalbhiaa.PFnWires
