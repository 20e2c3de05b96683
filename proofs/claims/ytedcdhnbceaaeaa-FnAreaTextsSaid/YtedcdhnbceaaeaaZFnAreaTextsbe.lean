/- QFnAreaTextsf of the law FnAreaTexts: taken over, declaration by declaration, as far as the law leans on it (the words and the printed functions are the kit's own print). No condition but what each says. -/
import Derived.Test.YtedcdhnbceaaeaaZFnAreaTextsav
import Derived.Test.YtedcdhnbceaaeaaZFnAreaTextsaw
import Derived.Test.YtedcdhnbceaaeaaZFnAreaTextsax
import Derived.Test.YtedcdhnbceaaeaaZFnAreaTextsay
import Derived.Test.YtedcdhnbceaaeaaZFnAreaTextsbb
import Derived.Test.YtedcdhnbceaaeaaZFnAreaTextsbc
import Derived.Test.YtedcdhnbceaaeaaZFnAreaTextsbd
namespace Go.Proofs.Ytedcdhnbceaaeaa.PFnAreaTexts
open Go.RowKit Go.Proofs.YtedcdhnbceaaeaaW.PrintWords Go.Proofs.YtedcdhnbceaaeaaW.PrintLast Go.Proofs.YtedcdhnbceaaeaaW.PrintMore
attribute [local go_sem] max2_int min2_int max_two min_two max_three min_three max_four min_four   -- for this text's walks alone
set_option linter.unusedVariables false
set_option linter.unusedSimpArgs false
open Bool renaming true → t_, false → f_
def spec_DrawReadArea.f (k : Nat) (l0 : List Int) : Option (ByteArray) := (spec_l01From.f k l0).bind fun bt327 => ((spec_l15Good.f bt327.1 bt327.2.1 bt327.2.2).bind fun bt331 => ((spec_l15Text.f k bt331.1 bt331.2.1 bt331.2.2.1 bt331.2.2.2.1 bt331.2.2.2.2.1).bind fun t338 => ((spec_l01Next.f bt327.1 bt331.2.2.2.2.2.1 bt331.2.2.2.2.2.2 3).bind fun bt339 => (if bt339.1 = 0 then ((spec_l01Damage.f bt327.1 bt339.2.1 bt339.2.2 t338).bind fun bt342 => (some bt342.1)) else (some t338)))))
set_option maxHeartbeats 8000000 in
set_option maxRecDepth 100000 in
theorem spec_DrawReadArea.calls (k : Nat) (A0 : Option Addr) (c0 : Nat) (l0 : List Int) (r : ByteArray) (w : World) (hr0 : Kd.C (Kd.int .u8) w A0 l0.length l0) (hc0 : l0.length ≤ c0) (h : spec_DrawReadArea.f k l0 = some r) :
  Calls Try.prog 107 #[.slice A0 l0.length c0] w fun e w' => e = .returned (.string r) ∧ Below w.heap.size w w' := by
 have HR0 := Aside0.mk hr0
 have HC0 := Aside0.mk hc0
 clear hr0 hc0
 have HB := Aside0.mk (Below.refl w.heap.size w)
 have H : ((spec_l01From.f k l0).bind fun bt327 => ((spec_l15Good.f bt327.1 bt327.2.1 bt327.2.2).bind fun bt331 => ((spec_l15Text.f k bt331.1 bt331.2.1 bt331.2.2.1 bt331.2.2.2.1 bt331.2.2.2.2.1).bind fun t338 => ((spec_l01Next.f bt327.1 bt331.2.2.2.2.2.1 bt331.2.2.2.2.2.2 3).bind fun bt339 => (if bt339.1 = 0 then ((spec_l01Damage.f bt327.1 bt339.2.1 bt339.2.2 t338).bind fun bt342 => (some bt342.1)) else (some t338)))))) = some r := h
 clear h
 replace H := Option.bind_eq_some_iff.mp H
 obtain ⟨⟨t327, t328, t329⟩, A20, H⟩ := H
 replace H : ((spec_l15Good.f t327 t328 t329).bind fun bt331 => ((spec_l15Text.f k bt331.1 bt331.2.1 bt331.2.2.1 bt331.2.2.2.1 bt331.2.2.2.2.1).bind fun t338 => ((spec_l01Next.f t327 bt331.2.2.2.2.2.1 bt331.2.2.2.2.2.2 3).bind fun bt339 => (if bt339.1 = 0 then ((spec_l01Damage.f t327 bt339.2.1 bt339.2.2 t338).bind fun bt342 => (some bt342.1)) else (some t338))))) = some r := H
 have A2 := Aside0.mk A20
 clear A20
 replace H := Option.bind_eq_some_iff.mp H
 obtain ⟨⟨t331, t332, t333, t334, t335, t336, t337⟩, A30, H⟩ := H
 replace H : ((spec_l15Text.f k t331 t332 t333 t334 t335).bind fun t338 => ((spec_l01Next.f t327 t336 t337 3).bind fun bt339 => (if bt339.1 = 0 then ((spec_l01Damage.f t327 bt339.2.1 bt339.2.2 t338).bind fun bt342 => (some bt342.1)) else (some t338)))) = some r := H
 have A3 := Aside0.mk A30
 clear A30
 replace H := Option.bind_eq_some_iff.mp H
 obtain ⟨t338, A40, H⟩ := H
 replace H : ((spec_l01Next.f t327 t336 t337 3).bind fun bt339 => (if bt339.1 = 0 then ((spec_l01Damage.f t327 bt339.2.1 bt339.2.2 t338).bind fun bt342 => (some bt342.1)) else (some t338))) = some r := H
 have A4 := Aside0.mk A40
 clear A40
 replace H := Option.bind_eq_some_iff.mp H
 obtain ⟨⟨t339, t340, t341⟩, A50, H⟩ := H
 replace H : (if t339 = 0 then ((spec_l01Damage.f t327 t340 t341 t338).bind fun bt342 => (some bt342.1)) else (some t338)) = some r := H
 have A5 := Aside0.mk A50
 clear A50
 by_cases c6 : t339 = 0
 ·rw [if_pos c6] at H
  have c6b0 : (t339 == 0) = true := beq_iff_eq.mpr c6
  have c6b1 : (t339 != 0) = false := bne_eq_false_iff_eq.mpr c6
  clear c6
  replace H := Option.bind_eq_some_iff.mp H
  obtain ⟨⟨t342, t343, t344⟩, A70, H⟩ := H
  replace H : (some t342) = some r := H
  have A7 := Aside0.mk A70
  clear A70
  obtain rfl := Option.some.inj H
  go_enter Try.func107, Try.ntmps107
  go_wp2_with (first | ((with_reducible refine gate_callee (f := 123) rfl ?_); refine goesL_ (some 6) rfl rfl Try.func123 (by kernel_rfl) rfl #[.slice A0 l0.length c0] rfl ag_ ?_; (with_reducible refine (spec_l01From.calls k _ _ l0 t327 t328 t329 w _ ?side1 ?side2 ?side3 A2.out).mono ?_); (case side1 => exact r14_ HB.out); (case side2 => exact HR0.out); (case side3 => exact HC0.out); rintro e w8 ⟨g330, rfl, hi, hb, hb2⟩; refine ⟨_, rfl, ?_⟩; replace HB := Aside0.mk (hb); have HI330 := Aside0.mk (hi); (try clear hb); (try clear hb2); (try clear hk); (try clear hi)) | ((with_reducible refine gate_callee (f := 196) rfl ?_); refine goesL_ (some 8) rfl rfl Try.func196 (by kernel_rfl) rfl #[.pointer (some ⟨g330, 0, none⟩)] rfl ag_ ?_; (with_reducible refine (spec_l15Good.calls g330 t327 t328 t329 t331 t332 t333 t334 t335 t336 t337 w _ ?side1 ?side2 A3.out).mono ?_); (case side1 => exact r2_ HI330.out); (case side2 => exact r4_ HB.out HI330.out); rintro e w9 ⟨rfl, hi, hb, hk⟩; refine ⟨_, rfl, ?_⟩; replace HB := Aside0.mk (hb); replace HI330 := Aside0.mk (hi); (try clear hb); (try clear hb2); (try clear hk); (try clear hi)) | ((with_reducible refine gate_callee (f := 160) rfl ?_); refine goesL_ (some 9) rfl rfl Try.func160 (by kernel_rfl) rfl #[.agg #[.int .i64 t331, .int .i64 t332, .int .i64 t333, .int .i64 t334, .int .i64 t335]] rfl ag_ ?_; (with_reducible refine (spec_l15Text.calls k t331 t332 t333 t334 t335 t338 _ A4.out).mono ?_); rintro e w10 ⟨rfl, hb⟩; refine ⟨_, rfl, ?_⟩; replace HB := Aside0.mk (below_step (r4_ HB.out HI330.out) hb); replace HI330 := Aside0.mk (IsS215.below (r2_ HI330.out) hb); (try clear hb); (try clear hb2); (try clear hk); (try clear hi)) | ((with_reducible refine gate_callee (f := 129) rfl ?_); refine goesL_ (some 11) rfl rfl Try.func129 (by kernel_rfl) rfl #[.pointer (some ⟨g330, 0, none⟩), .int .i64 3] rfl ag_ ?_; (with_reducible refine (spec_l01Next.calls g330 t327 t336 t337 3 t339 t340 t341 w _ ?side1 ?side2 A5.out).mono ?_); (case side1 => exact r2_ HI330.out); (case side2 => exact r4_ HB.out HI330.out); rintro e w11 ⟨rfl, hi, hb, hk⟩; refine ⟨_, rfl, ?_⟩; replace HB := Aside0.mk (hb); replace HI330 := Aside0.mk (hi); (try clear hb); (try clear hb2); (try clear hk); (try clear hi)) | ((with_reducible refine gate_callee (f := 197) rfl ?_); refine goesL_ (some 15) rfl rfl Try.func197 (by kernel_rfl) rfl #[.pointer (some ⟨g330, 0, none⟩), .string t338] rfl ag_ ?_; (with_reducible refine (spec_l01Damage.calls g330 t327 t340 t341 t338 t342 t343 t344 w _ ?side1 ?side2 A7.out).mono ?_); (case side1 => exact r2_ HI330.out); (case side2 => exact r4_ HB.out HI330.out); rintro e w12 ⟨rfl, hi, hb, hk⟩; refine ⟨_, rfl, ?_⟩; replace HB := Aside0.mk (hb); replace HI330 := Aside0.mk (hi); (try clear hb); (try clear hb2); (try clear hk); (try clear hi)))
  go_ret
  exact ⟨by first | rfl | (simp [errW_none, errW_some] <;> rfl) | (simp [*, errW_none, errW_some] <;> rfl), r4_ HB.out HI330.out⟩
 ·rw [if_neg c6] at H
  have c6b0 : (t339 == 0) = false := beq_eq_false_iff_ne.mpr c6
  have c6b1 : (t339 != 0) = true := bne_iff_ne.mpr c6
  obtain rfl := Option.some.inj H
  go_enter Try.func107, Try.ntmps107
  go_wp2_with (first | ((with_reducible refine gate_callee (f := 123) rfl ?_); refine goesL_ (some 6) rfl rfl Try.func123 (by kernel_rfl) rfl #[.slice A0 l0.length c0] rfl ag_ ?_; (with_reducible refine (spec_l01From.calls k _ _ l0 t327 t328 t329 w _ ?side1 ?side2 ?side3 A2.out).mono ?_); (case side1 => exact r14_ HB.out); (case side2 => exact HR0.out); (case side3 => exact HC0.out); rintro e w13 ⟨g330, rfl, hi, hb, hb2⟩; refine ⟨_, rfl, ?_⟩; replace HB := Aside0.mk (hb); have HI330 := Aside0.mk (hi); (try clear hb); (try clear hb2); (try clear hk); (try clear hi)) | ((with_reducible refine gate_callee (f := 196) rfl ?_); refine goesL_ (some 8) rfl rfl Try.func196 (by kernel_rfl) rfl #[.pointer (some ⟨g330, 0, none⟩)] rfl ag_ ?_; (with_reducible refine (spec_l15Good.calls g330 t327 t328 t329 t331 t332 t333 t334 t335 t336 t337 w _ ?side1 ?side2 A3.out).mono ?_); (case side1 => exact r2_ HI330.out); (case side2 => exact r4_ HB.out HI330.out); rintro e w14 ⟨rfl, hi, hb, hk⟩; refine ⟨_, rfl, ?_⟩; replace HB := Aside0.mk (hb); replace HI330 := Aside0.mk (hi); (try clear hb); (try clear hb2); (try clear hk); (try clear hi)) | ((with_reducible refine gate_callee (f := 160) rfl ?_); refine goesL_ (some 9) rfl rfl Try.func160 (by kernel_rfl) rfl #[.agg #[.int .i64 t331, .int .i64 t332, .int .i64 t333, .int .i64 t334, .int .i64 t335]] rfl ag_ ?_; (with_reducible refine (spec_l15Text.calls k t331 t332 t333 t334 t335 t338 _ A4.out).mono ?_); rintro e w15 ⟨rfl, hb⟩; refine ⟨_, rfl, ?_⟩; replace HB := Aside0.mk (below_step (r4_ HB.out HI330.out) hb); replace HI330 := Aside0.mk (IsS215.below (r2_ HI330.out) hb); (try clear hb); (try clear hb2); (try clear hk); (try clear hi)) | ((with_reducible refine gate_callee (f := 129) rfl ?_); refine goesL_ (some 11) rfl rfl Try.func129 (by kernel_rfl) rfl #[.pointer (some ⟨g330, 0, none⟩), .int .i64 3] rfl ag_ ?_; (with_reducible refine (spec_l01Next.calls g330 t327 t336 t337 3 t339 t340 t341 w _ ?side1 ?side2 A5.out).mono ?_); (case side1 => exact r2_ HI330.out); (case side2 => exact r4_ HB.out HI330.out); rintro e w16 ⟨rfl, hi, hb, hk⟩; refine ⟨_, rfl, ?_⟩; replace HB := Aside0.mk (hb); replace HI330 := Aside0.mk (hi); (try clear hb); (try clear hb2); (try clear hk); (try clear hi)))
  go_ret
  exact ⟨by first | rfl | (simp [errW_none, errW_some] <;> rfl) | (simp [*, errW_none, errW_some] <;> rfl), r4_ HB.out HI330.out⟩
section
attribute [local go_sem high] eqA83
mutual
def laws_FnAreaTexts.j0 : Nat → ByteArray → Int → ByteArray → Int → Bool → Int → Int → Int → Int → Int → Int → Int → Int → Int → Int → Option (Bool)
 | 0, _, _, _, _, _, _, _, _, _, _, _, _, _, _, _ => none
 | k + 1, x4, x5, x8, x10, x68, x352000, x352001, x352002, x352003, x352004, x364000, x364001, x364002, x364003, x364004 => if x68 = true then (some false) else (if x10 = 0 then ((impl_AreaText.f k x364000 x364001 x364002 x364003 x364004).bind fun bt372 => (if bt372.2 = 0 then (laws_FnAreaTexts.j1 k x4 x5 (bt372.1.toList != x8.toList) x352000 x352001 x352002 x352003 x352004) else (laws_FnAreaTexts.j1 k x4 x5 true x352000 x352001 x352002 x352003 x352004))) else (if x5 = 0 then ((impl_ReadArea.f k x4).bind fun bt381 => (if bt381.2.2.2.2.2 = 0 then (some (bt381.1 == x352000 && (bt381.2.1 == x352001 && (bt381.2.2.1 == x352002 && (bt381.2.2.2.1 == x352003 && (bt381.2.2.2.2.1 == x352004)))))) else (some false))) else (some true)))
def laws_FnAreaTexts.j1 : Nat → ByteArray → Int → Bool → Int → Int → Int → Int → Int → Option (Bool)
 | 0, _, _, _, _, _, _, _, _ => none
 | k + 1, x4, x5, x82, x352000, x352001, x352002, x352003, x352004 => if x82 = true then (some false) else (if x5 = 0 then ((impl_ReadArea.f k x4).bind fun bt374 => (if bt374.2.2.2.2.2 = 0 then (some (bt374.1 == x352000 && (bt374.2.1 == x352001 && (bt374.2.2.1 == x352002 && (bt374.2.2.2.1 == x352003 && (bt374.2.2.2.2.1 == x352004)))))) else (some false))) else (some true))
end
def laws_FnAreaTexts.f (k : Nat) (l0 : List Int) : Option (Bool) := (laws_big.f l0).bind fun t345 => (if t345 = true then (some true) else ((spec_DrawAreaText.f k l0).bind fun bt346 => ((impl_AreaText.f k bt346.1 bt346.2.1 bt346.2.2.1 bt346.2.2.2.1 bt346.2.2.2.2).bind fun bt352 => ((spec_AreaText.f k bt346.1 bt346.2.1 bt346.2.2.1 bt346.2.2.2.1 bt346.2.2.2.2).bind fun bt354 => ((spec_DrawReadArea.f k l0).bind fun t356 => ((impl_ReadArea.f k t356).bind fun bt357 => ((spec_ReadArea.f k t356).bind fun bt364 => (if bt352.2 = bt354.2 then (if bt352.1.toList = bt354.1.toList then (if bt357.2.2.2.2.2 = bt364.2.2.2.2.2 then (if ((bt357.1 == bt364.1 && (bt357.2.1 == bt364.2.1 && (bt357.2.2.1 == bt364.2.2.1 && (bt357.2.2.2.1 == bt364.2.2.2.1 && (bt357.2.2.2.2.1 == bt364.2.2.2.2.1))))) = true) then ((impl_IsArea.f bt346.1 bt346.2.1 bt346.2.2.1 bt346.2.2.2.1 bt346.2.2.2.2).bind fun t371 => (laws_FnAreaTexts.j0 k bt352.1 bt352.2 t356 bt357.2.2.2.2.2 (t371 != (bt354.2 == 0)) bt346.1 bt346.2.1 bt346.2.2.1 bt346.2.2.2.1 bt346.2.2.2.2 bt357.1 bt357.2.1 bt357.2.2.1 bt357.2.2.2.1 bt357.2.2.2.2.1)) else (laws_FnAreaTexts.j0 k bt352.1 bt352.2 t356 bt357.2.2.2.2.2 true bt346.1 bt346.2.1 bt346.2.2.1 bt346.2.2.2.1 bt346.2.2.2.2 bt357.1 bt357.2.1 bt357.2.2.1 bt357.2.2.2.1 bt357.2.2.2.2.1)) else (laws_FnAreaTexts.j0 k bt352.1 bt352.2 t356 bt357.2.2.2.2.2 true bt346.1 bt346.2.1 bt346.2.2.1 bt346.2.2.2.1 bt346.2.2.2.2 bt357.1 bt357.2.1 bt357.2.2.1 bt357.2.2.2.1 bt357.2.2.2.2.1)) else (laws_FnAreaTexts.j0 k bt352.1 bt352.2 t356 bt357.2.2.2.2.2 true bt346.1 bt346.2.1 bt346.2.2.1 bt346.2.2.2.1 bt346.2.2.2.2 bt357.1 bt357.2.1 bt357.2.2.1 bt357.2.2.2.1 bt357.2.2.2.2.1)) else (laws_FnAreaTexts.j0 k bt352.1 bt352.2 t356 bt357.2.2.2.2.2 true bt346.1 bt346.2.1 bt346.2.2.1 bt346.2.2.2.1 bt346.2.2.2.2 bt357.1 bt357.2.1 bt357.2.2.1 bt357.2.2.2.1 bt357.2.2.2.2.1)))))))))
theorem laws_FnAreaTexts.j0_true {k : Nat} {a0} {a1} {a2} {a3} {a5} {a6} {a7} {a8} {a9} {a10} {a11} {a12} {a13} {a14} {r : Bool} (h : laws_FnAreaTexts.j0 k a0 a1 a2 a3 true a5 a6 a7 a8 a9 a10 a11 a12 a13 a14 = some r) : false = r := by
 cases k with
 | zero => simp [laws_FnAreaTexts.j0] at h
 | succ k => simpa [laws_FnAreaTexts.j0] using h
theorem laws_FnAreaTexts.j1_true {k : Nat} {a0} {a1} {a3} {a4} {a5} {a6} {a7} {r : Bool} (h : laws_FnAreaTexts.j1 k a0 a1 true a3 a4 a5 a6 a7 = some r) : false = r := by
 cases k with
 | zero => simp [laws_FnAreaTexts.j1] at h
 | succ k => simpa [laws_FnAreaTexts.j1] using h
set_option maxHeartbeats 8000000 in
set_option maxRecDepth 100000 in
theorem laws_FnAreaTexts.calls (k : Nat) (A0 : Option Addr) (c0 : Nat) (l0 : List Int) (r : Bool) (w : World) (hr0 : Kd.C (Kd.int .u8) w A0 l0.length l0) (hc0 : l0.length ≤ c0) (h : laws_FnAreaTexts.f k l0 = some r) (hT : r = true) :
  Calls Try.prog 13 #[.slice A0 l0.length c0] w fun e w' => e = .returned (.bool r) ∧ Below w.heap.size w w' := by
 have hu83 := Try.underlying83
 have HR0 := Aside0.mk hr0
 have HC0 := Aside0.mk hc0
 clear hr0 hc0
 have HB := Aside0.mk (Below.refl w.heap.size w)
 have H : ((laws_big.f l0).bind fun t345 => (if t345 = true then (some true) else ((spec_DrawAreaText.f k l0).bind fun bt346 => ((impl_AreaText.f k bt346.1 bt346.2.1 bt346.2.2.1 bt346.2.2.2.1 bt346.2.2.2.2).bind fun bt352 => ((spec_AreaText.f k bt346.1 bt346.2.1 bt346.2.2.1 bt346.2.2.2.1 bt346.2.2.2.2).bind fun bt354 => ((spec_DrawReadArea.f k l0).bind fun t356 => ((impl_ReadArea.f k t356).bind fun bt357 => ((spec_ReadArea.f k t356).bind fun bt364 => (if bt352.2 = bt354.2 then (if bt352.1.toList = bt354.1.toList then (if bt357.2.2.2.2.2 = bt364.2.2.2.2.2 then (if ((bt357.1 == bt364.1 && (bt357.2.1 == bt364.2.1 && (bt357.2.2.1 == bt364.2.2.1 && (bt357.2.2.2.1 == bt364.2.2.2.1 && (bt357.2.2.2.2.1 == bt364.2.2.2.2.1))))) = true) then ((impl_IsArea.f bt346.1 bt346.2.1 bt346.2.2.1 bt346.2.2.2.1 bt346.2.2.2.2).bind fun t371 => (laws_FnAreaTexts.j0 k bt352.1 bt352.2 t356 bt357.2.2.2.2.2 (t371 != (bt354.2 == 0)) bt346.1 bt346.2.1 bt346.2.2.1 bt346.2.2.2.1 bt346.2.2.2.2 bt357.1 bt357.2.1 bt357.2.2.1 bt357.2.2.2.1 bt357.2.2.2.2.1)) else (laws_FnAreaTexts.j0 k bt352.1 bt352.2 t356 bt357.2.2.2.2.2 true bt346.1 bt346.2.1 bt346.2.2.1 bt346.2.2.2.1 bt346.2.2.2.2 bt357.1 bt357.2.1 bt357.2.2.1 bt357.2.2.2.1 bt357.2.2.2.2.1)) else (laws_FnAreaTexts.j0 k bt352.1 bt352.2 t356 bt357.2.2.2.2.2 true bt346.1 bt346.2.1 bt346.2.2.1 bt346.2.2.2.1 bt346.2.2.2.2 bt357.1 bt357.2.1 bt357.2.2.1 bt357.2.2.2.1 bt357.2.2.2.2.1)) else (laws_FnAreaTexts.j0 k bt352.1 bt352.2 t356 bt357.2.2.2.2.2 true bt346.1 bt346.2.1 bt346.2.2.1 bt346.2.2.2.1 bt346.2.2.2.2 bt357.1 bt357.2.1 bt357.2.2.1 bt357.2.2.2.1 bt357.2.2.2.2.1)) else (laws_FnAreaTexts.j0 k bt352.1 bt352.2 t356 bt357.2.2.2.2.2 true bt346.1 bt346.2.1 bt346.2.2.1 bt346.2.2.2.1 bt346.2.2.2.2 bt357.1 bt357.2.1 bt357.2.2.1 bt357.2.2.2.1 bt357.2.2.2.2.1)))))))))) = some r := h
 clear h
 replace H := Option.bind_eq_some_iff.mp H
 obtain ⟨t345, A20, H⟩ := H
 replace H : (if t345 = true then (some true) else ((spec_DrawAreaText.f k l0).bind fun bt346 => ((impl_AreaText.f k bt346.1 bt346.2.1 bt346.2.2.1 bt346.2.2.2.1 bt346.2.2.2.2).bind fun bt352 => ((spec_AreaText.f k bt346.1 bt346.2.1 bt346.2.2.1 bt346.2.2.2.1 bt346.2.2.2.2).bind fun bt354 => ((spec_DrawReadArea.f k l0).bind fun t356 => ((impl_ReadArea.f k t356).bind fun bt357 => ((spec_ReadArea.f k t356).bind fun bt364 => (if bt352.2 = bt354.2 then (if bt352.1.toList = bt354.1.toList then (if bt357.2.2.2.2.2 = bt364.2.2.2.2.2 then (if ((bt357.1 == bt364.1 && (bt357.2.1 == bt364.2.1 && (bt357.2.2.1 == bt364.2.2.1 && (bt357.2.2.2.1 == bt364.2.2.2.1 && (bt357.2.2.2.2.1 == bt364.2.2.2.2.1))))) = true) then ((impl_IsArea.f bt346.1 bt346.2.1 bt346.2.2.1 bt346.2.2.2.1 bt346.2.2.2.2).bind fun t371 => (laws_FnAreaTexts.j0 k bt352.1 bt352.2 t356 bt357.2.2.2.2.2 (t371 != (bt354.2 == 0)) bt346.1 bt346.2.1 bt346.2.2.1 bt346.2.2.2.1 bt346.2.2.2.2 bt357.1 bt357.2.1 bt357.2.2.1 bt357.2.2.2.1 bt357.2.2.2.2.1)) else (laws_FnAreaTexts.j0 k bt352.1 bt352.2 t356 bt357.2.2.2.2.2 true bt346.1 bt346.2.1 bt346.2.2.1 bt346.2.2.2.1 bt346.2.2.2.2 bt357.1 bt357.2.1 bt357.2.2.1 bt357.2.2.2.1 bt357.2.2.2.2.1)) else (laws_FnAreaTexts.j0 k bt352.1 bt352.2 t356 bt357.2.2.2.2.2 true bt346.1 bt346.2.1 bt346.2.2.1 bt346.2.2.2.1 bt346.2.2.2.2 bt357.1 bt357.2.1 bt357.2.2.1 bt357.2.2.2.1 bt357.2.2.2.2.1)) else (laws_FnAreaTexts.j0 k bt352.1 bt352.2 t356 bt357.2.2.2.2.2 true bt346.1 bt346.2.1 bt346.2.2.1 bt346.2.2.2.1 bt346.2.2.2.2 bt357.1 bt357.2.1 bt357.2.2.1 bt357.2.2.2.1 bt357.2.2.2.2.1)) else (laws_FnAreaTexts.j0 k bt352.1 bt352.2 t356 bt357.2.2.2.2.2 true bt346.1 bt346.2.1 bt346.2.2.1 bt346.2.2.2.1 bt346.2.2.2.2 bt357.1 bt357.2.1 bt357.2.2.1 bt357.2.2.2.1 bt357.2.2.2.2.1))))))))) = some r := H
 have A2 := Aside0.mk A20
 clear A20
 by_cases c3 : t345 = true
 ·subst c3
  replace H : (some true) = some r := by rw [if_pos rfl] at H; exact H
  obtain rfl := Option.some.inj H
  go_enter Try.func13, Try.ntmps13
  go_wp2_with (first | ((with_reducible refine gate_callee (f := 29) rfl ?_); refine goesL_ (some 18) rfl rfl Try.func29 (by kernel_rfl) rfl #[.slice A0 l0.length c0] rfl ag_ ?_; (with_reducible refine (laws_big.calls _ _ l0 true _ ?side1 ?side2 A2.out).mono ?_); (case side1 => exact r15_ HR0.out); (case side2 => exact HC0.out); rintro e w' ⟨rfl, ⟨nd, rfl⟩⟩; refine ⟨_, rfl, ?_⟩))
  go_ret
  exact ⟨by first | rfl | (simp [errW_none, errW_some] <;> rfl) | (simp [*, errW_none, errW_some] <;> rfl), bl_ HB.out⟩
 ·replace c3 := Bool.eq_false_iff.mpr c3
  subst c3
  replace H : ((spec_DrawAreaText.f k l0).bind fun bt346 => ((impl_AreaText.f k bt346.1 bt346.2.1 bt346.2.2.1 bt346.2.2.2.1 bt346.2.2.2.2).bind fun bt352 => ((spec_AreaText.f k bt346.1 bt346.2.1 bt346.2.2.1 bt346.2.2.2.1 bt346.2.2.2.2).bind fun bt354 => ((spec_DrawReadArea.f k l0).bind fun t356 => ((impl_ReadArea.f k t356).bind fun bt357 => ((spec_ReadArea.f k t356).bind fun bt364 => (if bt352.2 = bt354.2 then (if bt352.1.toList = bt354.1.toList then (if bt357.2.2.2.2.2 = bt364.2.2.2.2.2 then (if ((bt357.1 == bt364.1 && (bt357.2.1 == bt364.2.1 && (bt357.2.2.1 == bt364.2.2.1 && (bt357.2.2.2.1 == bt364.2.2.2.1 && (bt357.2.2.2.2.1 == bt364.2.2.2.2.1))))) = true) then ((impl_IsArea.f bt346.1 bt346.2.1 bt346.2.2.1 bt346.2.2.2.1 bt346.2.2.2.2).bind fun t371 => (laws_FnAreaTexts.j0 k bt352.1 bt352.2 t356 bt357.2.2.2.2.2 (t371 != (bt354.2 == 0)) bt346.1 bt346.2.1 bt346.2.2.1 bt346.2.2.2.1 bt346.2.2.2.2 bt357.1 bt357.2.1 bt357.2.2.1 bt357.2.2.2.1 bt357.2.2.2.2.1)) else (laws_FnAreaTexts.j0 k bt352.1 bt352.2 t356 bt357.2.2.2.2.2 true bt346.1 bt346.2.1 bt346.2.2.1 bt346.2.2.2.1 bt346.2.2.2.2 bt357.1 bt357.2.1 bt357.2.2.1 bt357.2.2.2.1 bt357.2.2.2.2.1)) else (laws_FnAreaTexts.j0 k bt352.1 bt352.2 t356 bt357.2.2.2.2.2 true bt346.1 bt346.2.1 bt346.2.2.1 bt346.2.2.2.1 bt346.2.2.2.2 bt357.1 bt357.2.1 bt357.2.2.1 bt357.2.2.2.1 bt357.2.2.2.2.1)) else (laws_FnAreaTexts.j0 k bt352.1 bt352.2 t356 bt357.2.2.2.2.2 true bt346.1 bt346.2.1 bt346.2.2.1 bt346.2.2.2.1 bt346.2.2.2.2 bt357.1 bt357.2.1 bt357.2.2.1 bt357.2.2.2.1 bt357.2.2.2.2.1)) else (laws_FnAreaTexts.j0 k bt352.1 bt352.2 t356 bt357.2.2.2.2.2 true bt346.1 bt346.2.1 bt346.2.2.1 bt346.2.2.2.1 bt346.2.2.2.2 bt357.1 bt357.2.1 bt357.2.2.1 bt357.2.2.2.1 bt357.2.2.2.2.1)))))))) = some r := by rw [if_neg (show ¬ (false = true) by decide)] at H; exact H
  replace H := Option.bind_eq_some_iff.mp H
  obtain ⟨⟨t346, t347, t348, t349, t350⟩, A40, H⟩ := H
  replace H : ((impl_AreaText.f k t346 t347 t348 t349 t350).bind fun bt352 => ((spec_AreaText.f k t346 t347 t348 t349 t350).bind fun bt354 => ((spec_DrawReadArea.f k l0).bind fun t356 => ((impl_ReadArea.f k t356).bind fun bt357 => ((spec_ReadArea.f k t356).bind fun bt364 => (if bt352.2 = bt354.2 then (if bt352.1.toList = bt354.1.toList then (if bt357.2.2.2.2.2 = bt364.2.2.2.2.2 then (if ((bt357.1 == bt364.1 && (bt357.2.1 == bt364.2.1 && (bt357.2.2.1 == bt364.2.2.1 && (bt357.2.2.2.1 == bt364.2.2.2.1 && (bt357.2.2.2.2.1 == bt364.2.2.2.2.1))))) = true) then ((impl_IsArea.f t346 t347 t348 t349 t350).bind fun t371 => (laws_FnAreaTexts.j0 k bt352.1 bt352.2 t356 bt357.2.2.2.2.2 (t371 != (bt354.2 == 0)) t346 t347 t348 t349 t350 bt357.1 bt357.2.1 bt357.2.2.1 bt357.2.2.2.1 bt357.2.2.2.2.1)) else (laws_FnAreaTexts.j0 k bt352.1 bt352.2 t356 bt357.2.2.2.2.2 true t346 t347 t348 t349 t350 bt357.1 bt357.2.1 bt357.2.2.1 bt357.2.2.2.1 bt357.2.2.2.2.1)) else (laws_FnAreaTexts.j0 k bt352.1 bt352.2 t356 bt357.2.2.2.2.2 true t346 t347 t348 t349 t350 bt357.1 bt357.2.1 bt357.2.2.1 bt357.2.2.2.1 bt357.2.2.2.2.1)) else (laws_FnAreaTexts.j0 k bt352.1 bt352.2 t356 bt357.2.2.2.2.2 true t346 t347 t348 t349 t350 bt357.1 bt357.2.1 bt357.2.2.1 bt357.2.2.2.1 bt357.2.2.2.2.1)) else (laws_FnAreaTexts.j0 k bt352.1 bt352.2 t356 bt357.2.2.2.2.2 true t346 t347 t348 t349 t350 bt357.1 bt357.2.1 bt357.2.2.1 bt357.2.2.2.1 bt357.2.2.2.2.1))))))) = some r := H
  have A4 := Aside0.mk A40
  clear A40
  replace H := Option.bind_eq_some_iff.mp H
  obtain ⟨⟨t352, t353⟩, A50, H⟩ := H
  replace H : ((spec_AreaText.f k t346 t347 t348 t349 t350).bind fun bt354 => ((spec_DrawReadArea.f k l0).bind fun t356 => ((impl_ReadArea.f k t356).bind fun bt357 => ((spec_ReadArea.f k t356).bind fun bt364 => (if t353 = bt354.2 then (if t352.toList = bt354.1.toList then (if bt357.2.2.2.2.2 = bt364.2.2.2.2.2 then (if ((bt357.1 == bt364.1 && (bt357.2.1 == bt364.2.1 && (bt357.2.2.1 == bt364.2.2.1 && (bt357.2.2.2.1 == bt364.2.2.2.1 && (bt357.2.2.2.2.1 == bt364.2.2.2.2.1))))) = true) then ((impl_IsArea.f t346 t347 t348 t349 t350).bind fun t371 => (laws_FnAreaTexts.j0 k t352 t353 t356 bt357.2.2.2.2.2 (t371 != (bt354.2 == 0)) t346 t347 t348 t349 t350 bt357.1 bt357.2.1 bt357.2.2.1 bt357.2.2.2.1 bt357.2.2.2.2.1)) else (laws_FnAreaTexts.j0 k t352 t353 t356 bt357.2.2.2.2.2 true t346 t347 t348 t349 t350 bt357.1 bt357.2.1 bt357.2.2.1 bt357.2.2.2.1 bt357.2.2.2.2.1)) else (laws_FnAreaTexts.j0 k t352 t353 t356 bt357.2.2.2.2.2 true t346 t347 t348 t349 t350 bt357.1 bt357.2.1 bt357.2.2.1 bt357.2.2.2.1 bt357.2.2.2.2.1)) else (laws_FnAreaTexts.j0 k t352 t353 t356 bt357.2.2.2.2.2 true t346 t347 t348 t349 t350 bt357.1 bt357.2.1 bt357.2.2.1 bt357.2.2.2.1 bt357.2.2.2.2.1)) else (laws_FnAreaTexts.j0 k t352 t353 t356 bt357.2.2.2.2.2 true t346 t347 t348 t349 t350 bt357.1 bt357.2.1 bt357.2.2.1 bt357.2.2.2.1 bt357.2.2.2.2.1)))))) = some r := H
  have A5 := Aside0.mk A50
  clear A50
  replace H := Option.bind_eq_some_iff.mp H
  obtain ⟨⟨t354, t355⟩, A60, H⟩ := H
  replace H : ((spec_DrawReadArea.f k l0).bind fun t356 => ((impl_ReadArea.f k t356).bind fun bt357 => ((spec_ReadArea.f k t356).bind fun bt364 => (if t353 = t355 then (if t352.toList = t354.toList then (if bt357.2.2.2.2.2 = bt364.2.2.2.2.2 then (if ((bt357.1 == bt364.1 && (bt357.2.1 == bt364.2.1 && (bt357.2.2.1 == bt364.2.2.1 && (bt357.2.2.2.1 == bt364.2.2.2.1 && (bt357.2.2.2.2.1 == bt364.2.2.2.2.1))))) = true) then ((impl_IsArea.f t346 t347 t348 t349 t350).bind fun t371 => (laws_FnAreaTexts.j0 k t352 t353 t356 bt357.2.2.2.2.2 (t371 != (t355 == 0)) t346 t347 t348 t349 t350 bt357.1 bt357.2.1 bt357.2.2.1 bt357.2.2.2.1 bt357.2.2.2.2.1)) else (laws_FnAreaTexts.j0 k t352 t353 t356 bt357.2.2.2.2.2 true t346 t347 t348 t349 t350 bt357.1 bt357.2.1 bt357.2.2.1 bt357.2.2.2.1 bt357.2.2.2.2.1)) else (laws_FnAreaTexts.j0 k t352 t353 t356 bt357.2.2.2.2.2 true t346 t347 t348 t349 t350 bt357.1 bt357.2.1 bt357.2.2.1 bt357.2.2.2.1 bt357.2.2.2.2.1)) else (laws_FnAreaTexts.j0 k t352 t353 t356 bt357.2.2.2.2.2 true t346 t347 t348 t349 t350 bt357.1 bt357.2.1 bt357.2.2.1 bt357.2.2.2.1 bt357.2.2.2.2.1)) else (laws_FnAreaTexts.j0 k t352 t353 t356 bt357.2.2.2.2.2 true t346 t347 t348 t349 t350 bt357.1 bt357.2.1 bt357.2.2.1 bt357.2.2.2.1 bt357.2.2.2.2.1))))) = some r := H
  have A6 := Aside0.mk A60
  clear A60
  replace H := Option.bind_eq_some_iff.mp H
  obtain ⟨t356, A70, H⟩ := H
  replace H : ((impl_ReadArea.f k t356).bind fun bt357 => ((spec_ReadArea.f k t356).bind fun bt364 => (if t353 = t355 then (if t352.toList = t354.toList then (if bt357.2.2.2.2.2 = bt364.2.2.2.2.2 then (if ((bt357.1 == bt364.1 && (bt357.2.1 == bt364.2.1 && (bt357.2.2.1 == bt364.2.2.1 && (bt357.2.2.2.1 == bt364.2.2.2.1 && (bt357.2.2.2.2.1 == bt364.2.2.2.2.1))))) = true) then ((impl_IsArea.f t346 t347 t348 t349 t350).bind fun t371 => (laws_FnAreaTexts.j0 k t352 t353 t356 bt357.2.2.2.2.2 (t371 != (t355 == 0)) t346 t347 t348 t349 t350 bt357.1 bt357.2.1 bt357.2.2.1 bt357.2.2.2.1 bt357.2.2.2.2.1)) else (laws_FnAreaTexts.j0 k t352 t353 t356 bt357.2.2.2.2.2 true t346 t347 t348 t349 t350 bt357.1 bt357.2.1 bt357.2.2.1 bt357.2.2.2.1 bt357.2.2.2.2.1)) else (laws_FnAreaTexts.j0 k t352 t353 t356 bt357.2.2.2.2.2 true t346 t347 t348 t349 t350 bt357.1 bt357.2.1 bt357.2.2.1 bt357.2.2.2.1 bt357.2.2.2.2.1)) else (laws_FnAreaTexts.j0 k t352 t353 t356 bt357.2.2.2.2.2 true t346 t347 t348 t349 t350 bt357.1 bt357.2.1 bt357.2.2.1 bt357.2.2.2.1 bt357.2.2.2.2.1)) else (laws_FnAreaTexts.j0 k t352 t353 t356 bt357.2.2.2.2.2 true t346 t347 t348 t349 t350 bt357.1 bt357.2.1 bt357.2.2.1 bt357.2.2.2.1 bt357.2.2.2.2.1)))) = some r := H
  have A7 := Aside0.mk A70
  clear A70
  replace H := Option.bind_eq_some_iff.mp H
  obtain ⟨⟨t357, t358, t359, t360, t361, t362⟩, A80, H⟩ := H
  replace H : ((spec_ReadArea.f k t356).bind fun bt364 => (if t353 = t355 then (if t352.toList = t354.toList then (if t362 = bt364.2.2.2.2.2 then (if ((t357 == bt364.1 && (t358 == bt364.2.1 && (t359 == bt364.2.2.1 && (t360 == bt364.2.2.2.1 && (t361 == bt364.2.2.2.2.1))))) = true) then ((impl_IsArea.f t346 t347 t348 t349 t350).bind fun t371 => (laws_FnAreaTexts.j0 k t352 t353 t356 t362 (t371 != (t355 == 0)) t346 t347 t348 t349 t350 t357 t358 t359 t360 t361)) else (laws_FnAreaTexts.j0 k t352 t353 t356 t362 true t346 t347 t348 t349 t350 t357 t358 t359 t360 t361)) else (laws_FnAreaTexts.j0 k t352 t353 t356 t362 true t346 t347 t348 t349 t350 t357 t358 t359 t360 t361)) else (laws_FnAreaTexts.j0 k t352 t353 t356 t362 true t346 t347 t348 t349 t350 t357 t358 t359 t360 t361)) else (laws_FnAreaTexts.j0 k t352 t353 t356 t362 true t346 t347 t348 t349 t350 t357 t358 t359 t360 t361))) = some r := H
  have A8 := Aside0.mk A80
  clear A80
  replace H := Option.bind_eq_some_iff.mp H
  obtain ⟨⟨t364, t365, t366, t367, t368, t369⟩, A90, H⟩ := H
  replace H : (if t353 = t355 then (if t352.toList = t354.toList then (if t362 = t369 then (if ((t357 == t364 && (t358 == t365 && (t359 == t366 && (t360 == t367 && (t361 == t368))))) = true) then ((impl_IsArea.f t346 t347 t348 t349 t350).bind fun t371 => (laws_FnAreaTexts.j0 k t352 t353 t356 t362 (t371 != (t355 == 0)) t346 t347 t348 t349 t350 t357 t358 t359 t360 t361)) else (laws_FnAreaTexts.j0 k t352 t353 t356 t362 true t346 t347 t348 t349 t350 t357 t358 t359 t360 t361)) else (laws_FnAreaTexts.j0 k t352 t353 t356 t362 true t346 t347 t348 t349 t350 t357 t358 t359 t360 t361)) else (laws_FnAreaTexts.j0 k t352 t353 t356 t362 true t346 t347 t348 t349 t350 t357 t358 t359 t360 t361)) else (laws_FnAreaTexts.j0 k t352 t353 t356 t362 true t346 t347 t348 t349 t350 t357 t358 t359 t360 t361)) = some r := H
  have A9 := Aside0.mk A90
  clear A90
  have HC10 := Aside0.mk H
  clear H
  go_enter Try.func13, Try.ntmps13
  go_upto_region 9 with (first | ((with_reducible refine gate_callee (f := 29) rfl ?_); refine goesL_ (some 18) rfl rfl Try.func29 (by kernel_rfl) rfl #[.slice A0 l0.length c0] rfl ag_ ?_; (with_reducible refine (laws_big.calls _ _ l0 false _ ?side1 ?side2 A2.out).mono ?_); (case side1 => exact r15_ HR0.out); (case side2 => exact HC0.out); rintro e w' ⟨rfl, ⟨nd, rfl⟩⟩; refine ⟨_, rfl, ?_⟩) | ((with_reducible refine gate_callee (f := 104) rfl ?_); refine goesL_ (some 20) rfl rfl Try.func104 (by kernel_rfl) rfl #[.slice A0 l0.length c0] rfl ag_ ?_; (with_reducible refine (spec_DrawAreaText.calls k _ _ l0 t346 t347 t348 t349 t350 _ ?side1 ?side2 A4.out).mono ?_); (case side1 => exact r15_ HR0.out); (case side2 => exact HC0.out); rintro e w11 ⟨rfl, hb⟩; refine ⟨_, rfl, ?_⟩; replace HB := Aside0.mk (below_step (bl_ HB.out) hb); (try clear hb); (try clear hb2); (try clear hk); (try clear hi)) | ((with_reducible refine gate_dst (N := 3) rfl ?_); refine box_event ?hg (N := 3) ?hd (cs := #[.int .i64 0, .int .i64 0, .int .i64 0, .int .i64 0, .int .i64 0]) (t := 83) ?hr ?_; (case hd => rfl); (case hg => rfl); (case hr => first | (go_simp; done) | (go_simp; rfl)); intro gb351 hg w12 hbox hb; have BK351 := Aside0.mk (hbox); have GW351 := Aside0.mk ((by rw [hg]; exact (below_size (bl_ HB.out)) : w.heap.size ≤ gb351)); have GE351 := Aside0.mk ((by rw [hg]; exact (below_size (bl_ HB.out)) : w.heap.size ≤ gb351)); replace HB := Aside0.mk (below_step (bl_ HB.out) hb); clear hb hbox hg; have hcz13_0 : w12.cell? ⟨gb351, 0, none⟩ = some (.int .i64 0) := (blk_cell BK351.out 0).trans rfl; have hcz13_1 : w12.cell? ⟨gb351, 1, none⟩ = some (.int .i64 0) := (blk_cell BK351.out 1).trans rfl; have hcz13_2 : w12.cell? ⟨gb351, 2, none⟩ = some (.int .i64 0) := (blk_cell BK351.out 2).trans rfl; have hcz13_3 : w12.cell? ⟨gb351, 3, none⟩ = some (.int .i64 0) := (blk_cell BK351.out 3).trans rfl; have hcz13_4 : w12.cell? ⟨gb351, 4, none⟩ = some (.int .i64 0) := (blk_cell BK351.out 4).trans rfl; have hfz13_0 := blk_frozen BK351.out 0; have hfz13_1 := blk_frozen BK351.out 1; have hfz13_2 := blk_frozen BK351.out 2; have hfz13_3 := blk_frozen BK351.out 3; have hfz13_4 := blk_frozen BK351.out 4) | ((with_reducible refine gate_callee (f := 105) rfl ?_); refine goesL_ (some 23) rfl rfl Try.func105 (by kernel_rfl) rfl #[.agg #[.int .i64 t346, .int .i64 t347, .int .i64 t348, .int .i64 t349, .int .i64 t350]] rfl ag_ ?_; (with_reducible refine (impl_AreaText.calls k t346 t347 t348 t349 t350 t352 t353 _ A5.out).mono ?_); rintro e w14 ⟨rfl, hb⟩; refine ⟨_, rfl, ?_⟩; replace BK351 := Aside0.mk (blk_below (g := gb351) (o := .cells #[.int .i64 t346, .int .i64 t347, .int .i64 t348, .int .i64 t349, .int .i64 t350] 83 (0, 0)) (by (with_reducible repeat (first | refine blk_drewN ?_ _ | refine blk_drew ?_ | refine blk_alloc ?_ _)); refine blk_put (cs := #[.int .i64 t346, .int .i64 t347, .int .i64 t348, .int .i64 t349, .int .i64 0]) ?_ 4 _ rfl; (with_reducible repeat (first | refine blk_drewN ?_ _ | refine blk_drew ?_ | refine blk_alloc ?_ _)); refine blk_put (cs := #[.int .i64 t346, .int .i64 t347, .int .i64 t348, .int .i64 0, .int .i64 0]) ?_ 3 _ rfl; (with_reducible repeat (first | refine blk_drewN ?_ _ | refine blk_drew ?_ | refine blk_alloc ?_ _)); refine blk_put (cs := #[.int .i64 t346, .int .i64 t347, .int .i64 0, .int .i64 0, .int .i64 0]) ?_ 2 _ rfl; (with_reducible repeat (first | refine blk_drewN ?_ _ | refine blk_drew ?_ | refine blk_alloc ?_ _)); refine blk_put (cs := #[.int .i64 t346, .int .i64 0, .int .i64 0, .int .i64 0, .int .i64 0]) ?_ 1 _ rfl; (with_reducible repeat (first | refine blk_drewN ?_ _ | refine blk_drew ?_ | refine blk_alloc ?_ _)); refine blk_put (cs := #[.int .i64 0, .int .i64 0, .int .i64 0, .int .i64 0, .int .i64 0]) ?_ 0 _ rfl; (with_reducible repeat (first | refine blk_drewN ?_ _ | refine blk_drew ?_ | refine blk_alloc ?_ _)); exact BK351.out) hb); replace HB := Aside0.mk (below_step (r1_ HB.out GE351.out) hb); (try clear hb); (try clear hb2); (try clear hk); (try clear hi); have hcz15_0 : w14.cell? ⟨gb351, 0, none⟩ = some (.int .i64 t346) := (blk_cell BK351.out 0).trans rfl; have hcz15_1 : w14.cell? ⟨gb351, 1, none⟩ = some (.int .i64 t347) := (blk_cell BK351.out 1).trans rfl; have hcz15_2 : w14.cell? ⟨gb351, 2, none⟩ = some (.int .i64 t348) := (blk_cell BK351.out 2).trans rfl; have hcz15_3 : w14.cell? ⟨gb351, 3, none⟩ = some (.int .i64 t349) := (blk_cell BK351.out 3).trans rfl; have hcz15_4 : w14.cell? ⟨gb351, 4, none⟩ = some (.int .i64 t350) := (blk_cell BK351.out 4).trans rfl; have hfz15_0 := blk_frozen BK351.out 0; have hfz15_1 := blk_frozen BK351.out 1; have hfz15_2 := blk_frozen BK351.out 2; have hfz15_3 := blk_frozen BK351.out 3; have hfz15_4 := blk_frozen BK351.out 4) | ((with_reducible refine gate_callee (f := 106) rfl ?_); refine goesL_ (some 28) rfl rfl Try.func106 (by kernel_rfl) rfl #[.agg #[.int .i64 t346, .int .i64 t347, .int .i64 t348, .int .i64 t349, .int .i64 t350]] rfl ag_ ?_; (with_reducible refine (spec_AreaText.calls k t346 t347 t348 t349 t350 t354 t355 _ A6.out).mono ?_); rintro e w16 ⟨rfl, hb⟩; refine ⟨_, rfl, ?_⟩; replace BK351 := Aside0.mk (blk_below (g := gb351) (o := .cells #[.int .i64 t346, .int .i64 t347, .int .i64 t348, .int .i64 t349, .int .i64 t350] 83 (0, 0)) (r0_ BK351.out) hb); replace HB := Aside0.mk (below_step (r1_ HB.out GE351.out) hb); (try clear hb); (try clear hb2); (try clear hk); (try clear hi)) | ((with_reducible refine gate_callee (f := 107) rfl ?_); refine goesL_ (some 32) rfl rfl Try.func107 (by kernel_rfl) rfl #[.slice A0 l0.length c0] rfl ag_ ?_; (with_reducible refine (spec_DrawReadArea.calls k _ _ l0 t356 _ ?side1 ?side2 A7.out).mono ?_); (case side1 => repeat (first | exact (Kd.C_below HR0.out HB.out) | (with_reducible refine Kd.C_alloc ?_ _) | (with_reducible refine Kd.C_drewN ?_ _) | (with_reducible refine Kd.C_drew ?_))); (case side2 => exact HC0.out); rintro e w17 ⟨rfl, hb⟩; refine ⟨_, rfl, ?_⟩; replace BK351 := Aside0.mk (blk_below (g := gb351) (o := .cells #[.int .i64 t346, .int .i64 t347, .int .i64 t348, .int .i64 t349, .int .i64 t350] 83 (0, 0)) (r0_ BK351.out) hb); replace HB := Aside0.mk (below_step (r1_ HB.out GE351.out) hb); (try clear hb); (try clear hb2); (try clear hk); (try clear hi)) | ((with_reducible refine gate_callee (f := 62) rfl ?_); refine goesL_ (some 35) rfl rfl Try.func62 (by kernel_rfl) rfl #[.string t356] rfl ag_ ?_; (with_reducible refine (impl_ReadArea.calls k t356 t357 t358 t359 t360 t361 t362 _ A8.out).mono ?_); rintro e w18 ⟨rfl, hb⟩; refine ⟨_, rfl, ?_⟩; replace BK351 := Aside0.mk (blk_below (g := gb351) (o := .cells #[.int .i64 t346, .int .i64 t347, .int .i64 t348, .int .i64 t349, .int .i64 t350] 83 (0, 0)) (r0_ BK351.out) hb); replace HB := Aside0.mk (below_step (r1_ HB.out GE351.out) hb); (try clear hb); (try clear hb2); (try clear hk); (try clear hi)) | ((with_reducible refine gate_dst (N := 9) rfl ?_); refine box_event ?hg (N := 9) ?hd (cs := #[.int .i64 0, .int .i64 0, .int .i64 0, .int .i64 0, .int .i64 0]) (t := 83) ?hr ?_; (case hd => rfl); (case hg => rfl); (case hr => first | (go_simp; done) | (go_simp; rfl)); intro gb363 hg w19 hbox hb; have BK363 := Aside0.mk (hbox); have GW363 := Aside0.mk ((by rw [hg]; exact (below_size (r1_ HB.out GE351.out)) : w.heap.size ≤ gb363)); have GE363 := Aside0.mk ((by rw [hg]; exact (below_size (r1_ HB.out GE351.out)) : w.heap.size ≤ gb363)); replace HB := Aside0.mk (below_step (r1_ HB.out GE351.out) hb); have NB351_363 := Aside0.mk ((by rw [hg]; exact Nat.ne_of_lt (blk_lt (g := gb351) (o := .cells #[.int .i64 t346, .int .i64 t347, .int .i64 t348, .int .i64 t349, .int .i64 t350] 83 (0, 0)) (r0_ BK351.out)) : gb351 ≠ gb363)); have NB363_351 := Aside0.mk ((by rw [hg]; exact Nat.ne_of_gt (blk_lt (g := gb351) (o := .cells #[.int .i64 t346, .int .i64 t347, .int .i64 t348, .int .i64 t349, .int .i64 t350] 83 (0, 0)) (r0_ BK351.out)) : gb363 ≠ gb351)); replace BK351 := Aside0.mk (blk_below (g := gb351) (o := .cells #[.int .i64 t346, .int .i64 t347, .int .i64 t348, .int .i64 t349, .int .i64 t350] 83 (0, 0)) (r0_ BK351.out) hb); clear hb hbox hg; have hnb20 := NB363_351.out; have hnc20 := NB351_363.out; have hcz21_0 : w19.cell? ⟨gb363, 0, none⟩ = some (.int .i64 0) := (blk_cell BK363.out 0).trans rfl; have hcz21_1 : w19.cell? ⟨gb363, 1, none⟩ = some (.int .i64 0) := (blk_cell BK363.out 1).trans rfl; have hcz21_2 : w19.cell? ⟨gb363, 2, none⟩ = some (.int .i64 0) := (blk_cell BK363.out 2).trans rfl; have hcz21_3 : w19.cell? ⟨gb363, 3, none⟩ = some (.int .i64 0) := (blk_cell BK363.out 3).trans rfl; have hcz21_4 : w19.cell? ⟨gb363, 4, none⟩ = some (.int .i64 0) := (blk_cell BK363.out 4).trans rfl; have hfz21_0 := blk_frozen BK363.out 0; have hfz21_1 := blk_frozen BK363.out 1; have hfz21_2 := blk_frozen BK363.out 2; have hfz21_3 := blk_frozen BK363.out 3; have hfz21_4 := blk_frozen BK363.out 4) | ((with_reducible refine gate_callee (f := 61) rfl ?_); refine goesL_ (some 40) rfl rfl Try.func61 (by kernel_rfl) rfl #[.string t356] rfl ag_ ?_; (with_reducible refine (spec_ReadArea.calls k t356 t364 t365 t366 t367 t368 t369 _ A9.out).mono ?_); rintro e w22 ⟨rfl, hb⟩; refine ⟨_, rfl, ?_⟩; replace BK351 := Aside0.mk (blk_below (g := gb351) (o := .cells #[.int .i64 t346, .int .i64 t347, .int .i64 t348, .int .i64 t349, .int .i64 t350] 83 (0, 0)) (r11_ NB351_363.out BK351.out) hb); replace BK363 := Aside0.mk (blk_below (g := gb363) (o := .cells #[.int .i64 t357, .int .i64 t358, .int .i64 t359, .int .i64 t360, .int .i64 t361] 83 (0, 0)) (by (with_reducible repeat (first | refine blk_drewN ?_ _ | refine blk_drew ?_ | refine blk_alloc ?_ _)); refine blk_put (cs := #[.int .i64 t357, .int .i64 t358, .int .i64 t359, .int .i64 t360, .int .i64 0]) ?_ 4 _ rfl; (with_reducible repeat (first | refine blk_drewN ?_ _ | refine blk_drew ?_ | refine blk_alloc ?_ _)); refine blk_put (cs := #[.int .i64 t357, .int .i64 t358, .int .i64 t359, .int .i64 0, .int .i64 0]) ?_ 3 _ rfl; (with_reducible repeat (first | refine blk_drewN ?_ _ | refine blk_drew ?_ | refine blk_alloc ?_ _)); refine blk_put (cs := #[.int .i64 t357, .int .i64 t358, .int .i64 0, .int .i64 0, .int .i64 0]) ?_ 2 _ rfl; (with_reducible repeat (first | refine blk_drewN ?_ _ | refine blk_drew ?_ | refine blk_alloc ?_ _)); refine blk_put (cs := #[.int .i64 t357, .int .i64 0, .int .i64 0, .int .i64 0, .int .i64 0]) ?_ 1 _ rfl; (with_reducible repeat (first | refine blk_drewN ?_ _ | refine blk_drew ?_ | refine blk_alloc ?_ _)); refine blk_put (cs := #[.int .i64 0, .int .i64 0, .int .i64 0, .int .i64 0, .int .i64 0]) ?_ 0 _ rfl; (with_reducible repeat (first | refine blk_drewN ?_ _ | refine blk_drew ?_ | refine blk_alloc ?_ _)); exact BK363.out) hb); replace HB := Aside0.mk (below_step (r5_ HB.out GE351.out GE363.out) hb); (try clear hb); (try clear hb2); (try clear hk); (try clear hi)) | ((with_reducible refine gate_dst (N := 11) rfl ?_); refine box_event ?hg (N := 11) ?hd (cs := #[.int .i64 0, .int .i64 0, .int .i64 0, .int .i64 0, .int .i64 0]) (t := 83) ?hr ?_; (case hd => rfl); (case hg => rfl); (case hr => first | (go_simp; done) | (go_simp; rfl)); intro gb370 hg w23 hbox hb; have BK370 := Aside0.mk (hbox); have GW370 := Aside0.mk ((by rw [hg]; exact (below_size (r5_ HB.out GE351.out GE363.out)) : w.heap.size ≤ gb370)); have GE370 := Aside0.mk ((by rw [hg]; exact (below_size (r5_ HB.out GE351.out GE363.out)) : w.heap.size ≤ gb370)); replace HB := Aside0.mk (below_step (r5_ HB.out GE351.out GE363.out) hb); have NB351_370 := Aside0.mk ((by rw [hg]; exact Nat.ne_of_lt (blk_lt (g := gb351) (o := .cells #[.int .i64 t346, .int .i64 t347, .int .i64 t348, .int .i64 t349, .int .i64 t350] 83 (0, 0)) (r0_ BK351.out)) : gb351 ≠ gb370)); have NB370_351 := Aside0.mk ((by rw [hg]; exact Nat.ne_of_gt (blk_lt (g := gb351) (o := .cells #[.int .i64 t346, .int .i64 t347, .int .i64 t348, .int .i64 t349, .int .i64 t350] 83 (0, 0)) (r0_ BK351.out)) : gb370 ≠ gb351)); replace BK351 := Aside0.mk (blk_below (g := gb351) (o := .cells #[.int .i64 t346, .int .i64 t347, .int .i64 t348, .int .i64 t349, .int .i64 t350] 83 (0, 0)) (r0_ BK351.out) hb); have NB363_370 := Aside0.mk ((by rw [hg]; exact Nat.ne_of_lt (blk_lt (g := gb363) (o := .cells #[.int .i64 t357, .int .i64 t358, .int .i64 t359, .int .i64 t360, .int .i64 t361] 83 (0, 0)) (r0_ BK363.out)) : gb363 ≠ gb370)); have NB370_363 := Aside0.mk ((by rw [hg]; exact Nat.ne_of_gt (blk_lt (g := gb363) (o := .cells #[.int .i64 t357, .int .i64 t358, .int .i64 t359, .int .i64 t360, .int .i64 t361] 83 (0, 0)) (r0_ BK363.out)) : gb370 ≠ gb363)); replace BK363 := Aside0.mk (blk_below (g := gb363) (o := .cells #[.int .i64 t357, .int .i64 t358, .int .i64 t359, .int .i64 t360, .int .i64 t361] 83 (0, 0)) (r0_ BK363.out) hb); clear hb hbox hg; have hnb24 := NB370_351.out; have hnc24 := NB351_370.out; have hnb25 := NB370_363.out; have hnc25 := NB363_370.out; have hcz26_0 : w23.cell? ⟨gb370, 0, none⟩ = some (.int .i64 0) := (blk_cell BK370.out 0).trans rfl; have hcz26_1 : w23.cell? ⟨gb370, 1, none⟩ = some (.int .i64 0) := (blk_cell BK370.out 1).trans rfl; have hcz26_2 : w23.cell? ⟨gb370, 2, none⟩ = some (.int .i64 0) := (blk_cell BK370.out 2).trans rfl; have hcz26_3 : w23.cell? ⟨gb370, 3, none⟩ = some (.int .i64 0) := (blk_cell BK370.out 3).trans rfl; have hcz26_4 : w23.cell? ⟨gb370, 4, none⟩ = some (.int .i64 0) := (blk_cell BK370.out 4).trans rfl; have hfz26_0 := blk_frozen BK370.out 0; have hfz26_1 := blk_frozen BK370.out 1; have hfz26_2 := blk_frozen BK370.out 2; have hfz26_3 := blk_frozen BK370.out 3; have hfz26_4 := blk_frozen BK370.out 4))
  (try simp only [Act.put, List.setIfInBounds_toArray, List.set_cons_zero, List.set_cons_succ])
  go_cut [68] (fun v68 wc => ∃ (kq : Nat) (x68_9 : Bool), v68 = .bool x68_9 ∧ Aside0 (laws_FnAreaTexts.j0 kq t352 t353 t356 t362 x68_9 t346 t347 t348 t349 t350 t357 t358 t359 t360 t361 = some r) ∧ Aside0 (kq ≤ k) ∧ Aside0 (wc.heap[gb351]? = some (.cells #[.int .i64 t346, .int .i64 t347, .int .i64 t348, .int .i64 t349, .int .i64 t350] 83 (0, 0))) ∧ Aside0 (wc.heap[gb363]? = some (.cells #[.int .i64 t357, .int .i64 t358, .int .i64 t359, .int .i64 t360, .int .i64 t361] 83 (0, 0))) ∧ Aside0 (wc.heap[gb370]? = some (.cells #[.int .i64 t364, .int .i64 t365, .int .i64 t366, .int .i64 t367, .int .i64 t368] 83 (0, 0))) ∧ Aside0 (Below w.heap.size w wc))
  case first =>
   have H := HC10.out
   clear HC10
   by_cases c27 : t353 = t355
   case neg =>
    rw [if_neg c27] at H
    have c27b0 : (t353 == t355) = false := beq_eq_false_iff_ne.mpr c27
    have c27b1 : (t353 != t355) = true := bne_iff_ne.mpr c27
    (first | rw [c27b0] | (simp only [i64_w, i32_w]; rw [c27b0]) | skip)
    exact absurd ((laws_FnAreaTexts.j0_true H).trans hT) (by decide)
   rw [if_pos c27] at H
   have c27b0 : (t353 == t355) = true := beq_iff_eq.mpr c27
   have c27b1 : (t353 != t355) = false := bne_eq_false_iff_eq.mpr c27
   clear c27
   (first | rw [c27b0] | (simp only [i64_w, i32_w]; rw [c27b0]) | skip)
   by_cases c28 : t352.toList = t354.toList
   case neg =>
    rw [if_neg c28] at H
    have c28b0 : (t352.toList == t354.toList) = false := beq_eq_false_iff_ne.mpr c28
    have c28b1 : (t352.toList != t354.toList) = true := bne_iff_ne.mpr c28
    exact absurd ((laws_FnAreaTexts.j0_true H).trans hT) (by decide)
   rw [if_pos c28] at H
   have c28b0 : (t352.toList == t354.toList) = true := beq_iff_eq.mpr c28
   have c28b1 : (t352.toList != t354.toList) = false := bne_eq_false_iff_eq.mpr c28
   clear c28
   by_cases c29 : t362 = t369
   case neg =>
    rw [if_neg c29] at H
    have c29b0 : (t362 == t369) = false := beq_eq_false_iff_ne.mpr c29
    have c29b1 : (t362 != t369) = true := bne_iff_ne.mpr c29
    exact absurd ((laws_FnAreaTexts.j0_true H).trans hT) (by decide)
   rw [if_pos c29] at H
   have c29b0 : (t362 == t369) = true := beq_iff_eq.mpr c29
   have c29b1 : (t362 != t369) = false := bne_eq_false_iff_eq.mpr c29
   clear c29
   by_cases c30 : ((t357 == t364 && (t358 == t365 && (t359 == t366 && (t360 == t367 && (t361 == t368))))) = true)
   ·rw [if_pos c30] at H
    have c30b0 : (t357 == t364 && (t358 == t365 && (t359 == t366 && (t360 == t367 && (t361 == t368))))) = true := c30
    (try (have c30b1 : decide (t357 = t364 && (t358 == t365 && (t359 == t366 && (t360 == t367 && (t361 == t368))))) = true := by simpa using c30))
    (try (have c30b2 : (t357 == t364 && (t358 == t365 && (t359 == t366 && (t360 == t367 && (t361 == t368))))) = true := by simpa using c30))
    clear c30
    replace H := Option.bind_eq_some_iff.mp H
    obtain ⟨t371, A310, H⟩ := H
    replace H : (laws_FnAreaTexts.j0 k t352 t353 t356 t362 (t371 != (t355 == 0)) t346 t347 t348 t349 t350 t357 t358 t359 t360 t361) = some r := H
    have A31 := Aside0.mk A310
    clear A310
    have H' := Aside0.mk H
    clear H
    have hnb32 := NB363_351.out
    have hnc32 := NB351_363.out
    have hnb33 := NB363_370.out
    have hnc33 := NB370_363.out
    have hcz34_0 : w23.cell? ⟨gb363, 0, none⟩ = some (.int .i64 t357) := (blk_cell BK363.out 0).trans rfl
    have hcz34_1 : w23.cell? ⟨gb363, 1, none⟩ = some (.int .i64 t358) := (blk_cell BK363.out 1).trans rfl
    have hcz34_2 : w23.cell? ⟨gb363, 2, none⟩ = some (.int .i64 t359) := (blk_cell BK363.out 2).trans rfl
    have hcz34_3 : w23.cell? ⟨gb363, 3, none⟩ = some (.int .i64 t360) := (blk_cell BK363.out 3).trans rfl
    have hcz34_4 : w23.cell? ⟨gb363, 4, none⟩ = some (.int .i64 t361) := (blk_cell BK363.out 4).trans rfl
    have hfz34_0 := blk_frozen BK363.out 0
    have hfz34_1 := blk_frozen BK363.out 1
    have hfz34_2 := blk_frozen BK363.out 2
    have hfz34_3 := blk_frozen BK363.out 3
    have hfz34_4 := blk_frozen BK363.out 4
    have hnb35 := NB370_351.out
    have hnc35 := NB351_370.out
    have hcz36_0 : w23.cell? ⟨gb370, 0, none⟩ = some (.int .i64 0) := (blk_cell BK370.out 0).trans rfl
    have hcz36_1 : w23.cell? ⟨gb370, 1, none⟩ = some (.int .i64 0) := (blk_cell BK370.out 1).trans rfl
    have hcz36_2 : w23.cell? ⟨gb370, 2, none⟩ = some (.int .i64 0) := (blk_cell BK370.out 2).trans rfl
    have hcz36_3 : w23.cell? ⟨gb370, 3, none⟩ = some (.int .i64 0) := (blk_cell BK370.out 3).trans rfl
    have hcz36_4 : w23.cell? ⟨gb370, 4, none⟩ = some (.int .i64 0) := (blk_cell BK370.out 4).trans rfl
    have hfz36_0 := blk_frozen BK370.out 0
    have hfz36_1 := blk_frozen BK370.out 1
    have hfz36_2 := blk_frozen BK370.out 2
    have hfz36_3 := blk_frozen BK370.out 3
    have hfz36_4 := blk_frozen BK370.out 4
    have hcz37_0 : w23.cell? ⟨gb351, 0, none⟩ = some (.int .i64 t346) := (blk_cell BK351.out 0).trans rfl
    have hcz37_1 : w23.cell? ⟨gb351, 1, none⟩ = some (.int .i64 t347) := (blk_cell BK351.out 1).trans rfl
    have hcz37_2 : w23.cell? ⟨gb351, 2, none⟩ = some (.int .i64 t348) := (blk_cell BK351.out 2).trans rfl
    have hcz37_3 : w23.cell? ⟨gb351, 3, none⟩ = some (.int .i64 t349) := (blk_cell BK351.out 3).trans rfl
    have hcz37_4 : w23.cell? ⟨gb351, 4, none⟩ = some (.int .i64 t350) := (blk_cell BK351.out 4).trans rfl
    have hfz37_0 := blk_frozen BK351.out 0
    have hfz37_1 := blk_frozen BK351.out 1
    have hfz37_2 := blk_frozen BK351.out 2
    have hfz37_3 := blk_frozen BK351.out 3
    have hfz37_4 := blk_frozen BK351.out 4
    go_wp2_with (first | (go_at_call 108; (with_reducible refine (impl_IsArea.calls t346 t347 t348 t349 t350 t371 _ A31.out).mono ?_); rintro e w38 ⟨rfl, hb⟩; replace BK351 := Aside0.mk (blk_below (g := gb351) (o := .cells #[.int .i64 t346, .int .i64 t347, .int .i64 t348, .int .i64 t349, .int .i64 t350] 83 (0, 0)) (r11_ NB351_370.out BK351.out) hb); replace BK363 := Aside0.mk (blk_below (g := gb363) (o := .cells #[.int .i64 t357, .int .i64 t358, .int .i64 t359, .int .i64 t360, .int .i64 t361] 83 (0, 0)) (r11_ NB363_370.out BK363.out) hb); replace BK370 := Aside0.mk (blk_below (g := gb370) (o := .cells #[.int .i64 t364, .int .i64 t365, .int .i64 t366, .int .i64 t367, .int .i64 t368] 83 (0, 0)) (by (with_reducible repeat (first | refine blk_drewN ?_ _ | refine blk_drew ?_ | refine blk_alloc ?_ _)); refine blk_put (cs := #[.int .i64 t364, .int .i64 t365, .int .i64 t366, .int .i64 t367, .int .i64 0]) ?_ 4 _ rfl; (with_reducible repeat (first | refine blk_drewN ?_ _ | refine blk_drew ?_ | refine blk_alloc ?_ _)); refine blk_put (cs := #[.int .i64 t364, .int .i64 t365, .int .i64 t366, .int .i64 0, .int .i64 0]) ?_ 3 _ rfl; (with_reducible repeat (first | refine blk_drewN ?_ _ | refine blk_drew ?_ | refine blk_alloc ?_ _)); refine blk_put (cs := #[.int .i64 t364, .int .i64 t365, .int .i64 0, .int .i64 0, .int .i64 0]) ?_ 2 _ rfl; (with_reducible repeat (first | refine blk_drewN ?_ _ | refine blk_drew ?_ | refine blk_alloc ?_ _)); refine blk_put (cs := #[.int .i64 t364, .int .i64 0, .int .i64 0, .int .i64 0, .int .i64 0]) ?_ 1 _ rfl; (with_reducible repeat (first | refine blk_drewN ?_ _ | refine blk_drew ?_ | refine blk_alloc ?_ _)); refine blk_put (cs := #[.int .i64 0, .int .i64 0, .int .i64 0, .int .i64 0, .int .i64 0]) ?_ 0 _ rfl; (with_reducible repeat (first | refine blk_drewN ?_ _ | refine blk_drew ?_ | refine blk_alloc ?_ _)); exact BK370.out) hb); replace HB := Aside0.mk (below_step (by repeat (first | (with_reducible first | exact HB.out | apply below_alloc | apply pw_below_drewN | apply below_drew1 | refine below_set ?_ GE351.out | refine below_set ?_ GE363.out | refine below_set ?_ GE370.out) | exact HB.out)) hb); (try clear hb); (try clear hb2); (try clear hk); (try clear hi)))
    go_meet
    case rel => exact ⟨_, ((t371 != (t355 == 0))), (by first | rfl | (simp; done) | (simp [*]; done)), H', ⟨by first | omega | exact Nat.le_refl _⟩, ⟨r0_ BK351.out⟩, ⟨r0_ BK363.out⟩, ⟨r0_ BK370.out⟩, ⟨by repeat (first | (with_reducible first | exact HB.out | apply below_alloc | apply pw_below_drewN | apply below_drew1 | refine below_set ?_ GE351.out | refine below_set ?_ GE363.out | refine below_set ?_ GE370.out) | exact HB.out)⟩⟩
   ·rw [if_neg c30] at H
    have c30b0 : (t357 == t364 && (t358 == t365 && (t359 == t366 && (t360 == t367 && (t361 == t368))))) = false := by simpa using c30
    (try (have c30b1 : decide (t357 = t364 && (t358 == t365 && (t359 == t366 && (t360 == t367 && (t361 == t368))))) = false := by simpa using c30))
    (try (have c30b2 : (t357 == t364 && (t358 == t365 && (t359 == t366 && (t360 == t367 && (t361 == t368))))) = false := by simpa using c30))
    (try (have c30b3 : ¬ (t357 = t364 && (t358 == t365 && (t359 == t366 && (t360 == t367 && (t361 == t368))))) := by simpa using c30))
    clear c30
    exact absurd ((laws_FnAreaTexts.j0_true H).trans hT) (by decide)
  case rest =>
   clear HC10
   try clear c1
   try clear c2
   try clear p2
   try clear c3
   try clear c4
   try clear c6
   try clear c10
   try clear c13
   try clear c20
   try clear c24
   try clear c25
   try clear c27
   try clear c27b0
   try clear c27b1
   try clear c28
   try clear c28b0
   try clear c28b1
   try clear c29
   try clear c29b0
   try clear c29b1
   try clear c30
   try clear c30b0
   try clear c30b1
   try clear c30b2
   try clear c32
   try clear c33
   try clear c35
   try clear c39
   try clear c40
   try clear c42
   try clear hcz13_0
   try clear hcz13_1
   try clear hcz13_2
   try clear hcz13_3
   try clear hcz13_4
   try clear hcz15_0
   try clear hcz15_1
   try clear hcz15_2
   try clear hcz15_3
   try clear hcz15_4
   try clear hcz21_0
   try clear hcz21_1
   try clear hcz21_2
   try clear hcz21_3
   try clear hcz21_4
   try clear hcz26_0
   try clear hcz26_1
   try clear hcz26_2
   try clear hcz26_3
   try clear hcz26_4
   try clear hcz34_0
   try clear hcz34_1
   try clear hcz34_2
   try clear hcz34_3
   try clear hcz34_4
   try clear hcz36_0
   try clear hcz36_1
   try clear hcz36_2
   try clear hcz36_3
   try clear hcz36_4
   try clear hcz37_0
   try clear hcz37_1
   try clear hcz37_2
   try clear hcz37_3
   try clear hcz37_4
   try clear hcz41_0
   try clear hcz41_1
   try clear hcz41_2
   try clear hcz41_3
   try clear hcz41_4
   try clear hcz43_0
   try clear hcz43_1
   try clear hcz43_2
   try clear hcz43_3
   try clear hcz43_4
   try clear hfz13_0
   try clear hfz13_1
   try clear hfz13_2
   try clear hfz13_3
   try clear hfz13_4
   try clear hfz15_0
   try clear hfz15_1
   try clear hfz15_2
   try clear hfz15_3
   try clear hfz15_4
   try clear hfz21_0
   try clear hfz21_1
   try clear hfz21_2
   try clear hfz21_3
   try clear hfz21_4
   try clear hfz26_0
   try clear hfz26_1
   try clear hfz26_2
   try clear hfz26_3
   try clear hfz26_4
   try clear hfz34_0
   try clear hfz34_1
   try clear hfz34_2
   try clear hfz34_3
   try clear hfz34_4
   try clear hfz36_0
   try clear hfz36_1
   try clear hfz36_2
   try clear hfz36_3
   try clear hfz36_4
   try clear hfz37_0
   try clear hfz37_1
   try clear hfz37_2
   try clear hfz37_3
   try clear hfz37_4
   try clear hfz41_0
   try clear hfz41_1
   try clear hfz41_2
   try clear hfz41_3
   try clear hfz41_4
   try clear hfz43_0
   try clear hfz43_1
   try clear hfz43_2
   try clear hfz43_3
   try clear hfz43_4
   obtain ⟨kq, x68_9, rfl, HA, HJ9, BK351, BK363, BK370, HB⟩ := hcut
   cases kq with
   | zero => exact absurd HA.out (by simp [laws_FnAreaTexts.j0])
   | succ kj9 =>
    have H := HA.out
    clear HA
    simp only [laws_FnAreaTexts.j0] at H
    by_cases c44 : x68_9 = true
    case pos =>
     subst c44
     replace H : (some false) = some r := by rw [if_pos rfl] at H; exact H
     exact absurd ((Option.some.inj H).trans hT) (by decide)
    replace c44 := Bool.eq_false_iff.mpr c44
    subst c44
    replace H : (if t362 = 0 then ((impl_AreaText.f kj9 t357 t358 t359 t360 t361).bind fun bt372 => (if bt372.2 = 0 then (laws_FnAreaTexts.j1 kj9 t352 t353 (bt372.1.toList != t356.toList) t346 t347 t348 t349 t350) else (laws_FnAreaTexts.j1 kj9 t352 t353 true t346 t347 t348 t349 t350))) else (if t353 = 0 then ((impl_ReadArea.f kj9 t352).bind fun bt381 => (if bt381.2.2.2.2.2 = 0 then (some (bt381.1 == t346 && (bt381.2.1 == t347 && (bt381.2.2.1 == t348 && (bt381.2.2.2.1 == t349 && (bt381.2.2.2.2.1 == t350)))))) else (some false))) else (some true))) = some r := by rw [if_neg (show ¬ (false = true) by decide)] at H; exact H
    by_cases c45 : t362 = 0
    ·rw [if_pos c45] at H
     have c45b0 : (t362 == 0) = true := beq_iff_eq.mpr c45
     have c45b1 : (t362 != 0) = false := bne_eq_false_iff_eq.mpr c45
     clear c45
     replace H := Option.bind_eq_some_iff.mp H
     obtain ⟨⟨t372, t373⟩, A460, H⟩ := H
     replace H : (if t373 = 0 then (laws_FnAreaTexts.j1 kj9 t352 t353 (t372.toList != t356.toList) t346 t347 t348 t349 t350) else (laws_FnAreaTexts.j1 kj9 t352 t353 true t346 t347 t348 t349 t350)) = some r := H
     have A46 := Aside0.mk A460
     clear A460
     have HC47 := Aside0.mk H
     clear H
     have hnb48 := NB363_351.out
     have hnc48 := NB351_363.out
     have hnb49 := NB363_370.out
     have hnc49 := NB370_363.out
     have hcz50_0 : wc.cell? ⟨gb363, 0, none⟩ = some (.int .i64 t357) := (blk_cell BK363.out 0).trans rfl
     have hcz50_1 : wc.cell? ⟨gb363, 1, none⟩ = some (.int .i64 t358) := (blk_cell BK363.out 1).trans rfl
     have hcz50_2 : wc.cell? ⟨gb363, 2, none⟩ = some (.int .i64 t359) := (blk_cell BK363.out 2).trans rfl
     have hcz50_3 : wc.cell? ⟨gb363, 3, none⟩ = some (.int .i64 t360) := (blk_cell BK363.out 3).trans rfl
     have hcz50_4 : wc.cell? ⟨gb363, 4, none⟩ = some (.int .i64 t361) := (blk_cell BK363.out 4).trans rfl
     have hfz50_0 := blk_frozen BK363.out 0
     have hfz50_1 := blk_frozen BK363.out 1
     have hfz50_2 := blk_frozen BK363.out 2
     have hfz50_3 := blk_frozen BK363.out 3
     have hfz50_4 := blk_frozen BK363.out 4
     go_upto_region 13 with (first | ((with_reducible refine gate_callee (f := 105) rfl ?_); refine goesL_ (some 73) rfl rfl Try.func105 (by kernel_rfl) rfl #[.agg #[.int .i64 t357, .int .i64 t358, .int .i64 t359, .int .i64 t360, .int .i64 t361]] rfl ag_ ?_; (with_reducible refine (impl_AreaText.calls kj9 t357 t358 t359 t360 t361 t372 t373 _ A46.out).mono ?_); rintro e w51 ⟨rfl, hb⟩; refine ⟨_, rfl, ?_⟩; replace BK351 := Aside0.mk (blk_below (g := gb351) (o := .cells #[.int .i64 t346, .int .i64 t347, .int .i64 t348, .int .i64 t349, .int .i64 t350] 83 (0, 0)) (r0_ BK351.out) hb); replace BK363 := Aside0.mk (blk_below (g := gb363) (o := .cells #[.int .i64 t357, .int .i64 t358, .int .i64 t359, .int .i64 t360, .int .i64 t361] 83 (0, 0)) (r0_ BK363.out) hb); replace BK370 := Aside0.mk (blk_below (g := gb370) (o := .cells #[.int .i64 t364, .int .i64 t365, .int .i64 t366, .int .i64 t367, .int .i64 t368] 83 (0, 0)) (r0_ BK370.out) hb); replace HB := Aside0.mk (below_step (by repeat (first | (with_reducible first | exact HB.out | apply below_alloc | apply pw_below_drewN | apply below_drew1 | refine below_set ?_ GE351.out | refine below_set ?_ GE363.out | refine below_set ?_ GE370.out) | exact HB.out)) hb); (try clear hb); (try clear hb2); (try clear hk); (try clear hi)))
     (try simp only [Act.put, List.setIfInBounds_toArray, List.set_cons_zero, List.set_cons_succ])
     go_cut [82] (fun v82 wc => ∃ (kq : Nat) (x82_46 : Bool), v82 = .bool x82_46 ∧ Aside0 (laws_FnAreaTexts.j1 kq t352 t353 x82_46 t346 t347 t348 t349 t350 = some r) ∧ Aside0 (kq ≤ kj9) ∧ Aside0 (wc.heap[gb351]? = some (.cells #[.int .i64 t346, .int .i64 t347, .int .i64 t348, .int .i64 t349, .int .i64 t350] 83 (0, 0))) ∧ Aside0 (wc.heap[gb363]? = some (.cells #[.int .i64 t357, .int .i64 t358, .int .i64 t359, .int .i64 t360, .int .i64 t361] 83 (0, 0))) ∧ Aside0 (wc.heap[gb370]? = some (.cells #[.int .i64 t364, .int .i64 t365, .int .i64 t366, .int .i64 t367, .int .i64 t368] 83 (0, 0))) ∧ Aside0 (Below w.heap.size w wc))
     case first =>
      have H := HC47.out
      clear HC47
      by_cases c52 : t373 = 0
      case neg =>
       rw [if_neg c52] at H
       have c52b0 : (t373 == 0) = false := beq_eq_false_iff_ne.mpr c52
       have c52b1 : (t373 != 0) = true := bne_iff_ne.mpr c52
       (first | rw [c52b0] | (simp only [i64_w, i32_w]; rw [c52b0]) | skip)
       exact absurd ((laws_FnAreaTexts.j1_true H).trans hT) (by decide)
      rw [if_pos c52] at H
      have c52b0 : (t373 == 0) = true := beq_iff_eq.mpr c52
      have c52b1 : (t373 != 0) = false := bne_eq_false_iff_eq.mpr c52
      clear c52
      (first | rw [c52b0] | (simp only [i64_w, i32_w]; rw [c52b0]) | skip)
      have H' := Aside0.mk H
      clear H
      go_wp2
      go_meet
      case rel => exact ⟨_, ((t372.toList != t356.toList)), (by first | rfl | (simp; done) | (simp [*]; done)), H', ⟨by have := HJ9.out; first | omega | exact Nat.le_refl _⟩, ⟨r0_ BK351.out⟩, ⟨r0_ BK363.out⟩, ⟨r0_ BK370.out⟩, ⟨by repeat (first | (with_reducible first | exact HB.out | apply below_alloc | apply pw_below_drewN | apply below_drew1 | refine below_set ?_ GE351.out | refine below_set ?_ GE363.out | refine below_set ?_ GE370.out) | exact HB.out)⟩⟩
     case rest =>
      clear HC47
      try clear c1
      try clear c2
      try clear p2
      try clear c3
      try clear c4
      try clear c5
      try clear c6
      try clear c10
      try clear c13
      try clear c20
      try clear c24
      try clear c25
      try clear c27
      try clear c27b0
      try clear c27b1
      try clear c28
      try clear c28b0
      try clear c28b1
      try clear c29
      try clear c29b0
      try clear c29b1
      try clear c30
      try clear c30b0
      try clear c30b1
      try clear c30b2
      try clear c32
      try clear c33
      try clear c35
      try clear c39
      try clear c40
      try clear c42
      try clear c44
      try clear c45
      try clear c45b0
      try clear c45b1
      try clear c48
      try clear c49
      try clear c52
      try clear c52b0
      try clear c52b1
      try clear hcz13_0
      try clear hcz13_1
      try clear hcz13_2
      try clear hcz13_3
      try clear hcz13_4
      try clear hcz15_0
      try clear hcz15_1
      try clear hcz15_2
      try clear hcz15_3
      try clear hcz15_4
      try clear hcz21_0
      try clear hcz21_1
      try clear hcz21_2
      try clear hcz21_3
      try clear hcz21_4
      try clear hcz26_0
      try clear hcz26_1
      try clear hcz26_2
      try clear hcz26_3
      try clear hcz26_4
      try clear hcz34_0
      try clear hcz34_1
      try clear hcz34_2
      try clear hcz34_3
      try clear hcz34_4
      try clear hcz36_0
      try clear hcz36_1
      try clear hcz36_2
      try clear hcz36_3
      try clear hcz36_4
      try clear hcz37_0
      try clear hcz37_1
      try clear hcz37_2
      try clear hcz37_3
      try clear hcz37_4
      try clear hcz41_0
      try clear hcz41_1
      try clear hcz41_2
      try clear hcz41_3
      try clear hcz41_4
      try clear hcz43_0
      try clear hcz43_1
      try clear hcz43_2
      try clear hcz43_3
      try clear hcz43_4
      try clear hcz50_0
      try clear hcz50_1
      try clear hcz50_2
      try clear hcz50_3
      try clear hcz50_4
      try clear hfz13_0
      try clear hfz13_1
      try clear hfz13_2
      try clear hfz13_3
      try clear hfz13_4
      try clear hfz15_0
      try clear hfz15_1
      try clear hfz15_2
      try clear hfz15_3
      try clear hfz15_4
      try clear hfz21_0
      try clear hfz21_1
      try clear hfz21_2
      try clear hfz21_3
      try clear hfz21_4
      try clear hfz26_0
      try clear hfz26_1
      try clear hfz26_2
      try clear hfz26_3
      try clear hfz26_4
      try clear hfz34_0
      try clear hfz34_1
      try clear hfz34_2
      try clear hfz34_3
      try clear hfz34_4
      try clear hfz36_0
      try clear hfz36_1
      try clear hfz36_2
      try clear hfz36_3
      try clear hfz36_4
      try clear hfz37_0
      try clear hfz37_1
      try clear hfz37_2
      try clear hfz37_3
      try clear hfz37_4
      try clear hfz41_0
      try clear hfz41_1
      try clear hfz41_2
      try clear hfz41_3
      try clear hfz41_4
      try clear hfz43_0
      try clear hfz43_1
      try clear hfz43_2
      try clear hfz43_3
      try clear hfz43_4
      try clear hfz50_0
      try clear hfz50_1
      try clear hfz50_2
      try clear hfz50_3
      try clear hfz50_4
      try clear p2
      obtain ⟨kq, x82_46, rfl, HA, HJ46, BK351, BK363, BK370, HB⟩ := hcut
      cases kq with
      | zero => exact absurd HA.out (by simp [laws_FnAreaTexts.j1])
      | succ kj46 =>
       have H := HA.out
       clear HA
       simp only [laws_FnAreaTexts.j1] at H
       by_cases c53 : x82_46 = true
       case pos =>
        subst c53
        replace H : (some false) = some r := by rw [if_pos rfl] at H; exact H
        exact absurd ((Option.some.inj H).trans hT) (by decide)
       replace c53 := Bool.eq_false_iff.mpr c53
       subst c53
       replace H : (if t353 = 0 then ((impl_ReadArea.f kj46 t352).bind fun bt374 => (if bt374.2.2.2.2.2 = 0 then (some (bt374.1 == t346 && (bt374.2.1 == t347 && (bt374.2.2.1 == t348 && (bt374.2.2.2.1 == t349 && (bt374.2.2.2.2.1 == t350)))))) else (some false))) else (some true)) = some r := by rw [if_neg (show ¬ (false = true) by decide)] at H; exact H
       by_cases c54 : t353 = 0
       ·rw [if_pos c54] at H
        have c54b0 : (t353 == 0) = true := beq_iff_eq.mpr c54
        have c54b1 : (t353 != 0) = false := bne_eq_false_iff_eq.mpr c54
        clear c54
        replace H := Option.bind_eq_some_iff.mp H
        obtain ⟨⟨t374, t375, t376, t377, t378, t379⟩, A550, H⟩ := H
        replace H : (if t379 = 0 then (some (t374 == t346 && (t375 == t347 && (t376 == t348 && (t377 == t349 && (t378 == t350)))))) else (some false)) = some r := H
        have A55 := Aside0.mk A550
        clear A550
        by_cases c56 : t379 = 0
        case neg =>
         rw [if_neg c56] at H
         have c56b0 : (t379 == 0) = false := beq_eq_false_iff_ne.mpr c56
         have c56b1 : (t379 != 0) = true := bne_iff_ne.mpr c56
         exact absurd ((Option.some.inj H).trans hT) (by decide)
        rw [if_pos c56] at H
        have c56b0 : (t379 == 0) = true := beq_iff_eq.mpr c56
        have c56b1 : (t379 != 0) = false := bne_eq_false_iff_eq.mpr c56
        clear c56
        obtain rfl := Option.some.inj H
        go_wp2_with (first | ((with_reducible refine gate_callee (f := 62) rfl ?_); refine goesL_ (some 87) rfl rfl Try.func62 (by kernel_rfl) rfl #[.string t352] rfl ag_ ?_; (with_reducible refine (impl_ReadArea.calls kj46 t352 t374 t375 t376 t377 t378 t379 _ A55.out).mono ?_); rintro e w57 ⟨rfl, hb⟩; refine ⟨_, rfl, ?_⟩; replace BK351 := Aside0.mk (blk_below (g := gb351) (o := .cells #[.int .i64 t346, .int .i64 t347, .int .i64 t348, .int .i64 t349, .int .i64 t350] 83 (0, 0)) (r0_ BK351.out) hb); replace BK363 := Aside0.mk (blk_below (g := gb363) (o := .cells #[.int .i64 t357, .int .i64 t358, .int .i64 t359, .int .i64 t360, .int .i64 t361] 83 (0, 0)) (r0_ BK363.out) hb); replace BK370 := Aside0.mk (blk_below (g := gb370) (o := .cells #[.int .i64 t364, .int .i64 t365, .int .i64 t366, .int .i64 t367, .int .i64 t368] 83 (0, 0)) (r0_ BK370.out) hb); replace HB := Aside0.mk (below_step (by repeat (first | (with_reducible first | exact HB.out | apply below_alloc | apply pw_below_drewN | apply below_drew1 | refine below_set ?_ GE351.out | refine below_set ?_ GE363.out | refine below_set ?_ GE370.out) | exact HB.out)) hb); (try clear hb); (try clear hb2); (try clear hk); (try clear hi)) | ((with_reducible refine gate_dst (N := 15) rfl ?_); refine box_event ?hg (N := 15) ?hd (cs := #[.int .i64 0, .int .i64 0, .int .i64 0, .int .i64 0, .int .i64 0]) (t := 83) ?hr ?_; (case hd => rfl); (case hg => rfl); (case hr => first | (go_simp; done) | (go_simp; rfl)); intro gb380 hg w58 hbox hb; have BK380 := Aside0.mk (hbox); have GW380 := Aside0.mk ((by rw [hg]; exact (below_size (by repeat (first | (with_reducible first | exact HB.out | apply below_alloc | apply pw_below_drewN | apply below_drew1 | refine below_set ?_ GE351.out | refine below_set ?_ GE363.out | refine below_set ?_ GE370.out) | exact HB.out))) : w.heap.size ≤ gb380)); have GE380 := Aside0.mk ((by rw [hg]; exact (below_size (by repeat (first | (with_reducible first | exact HB.out | apply below_alloc | apply pw_below_drewN | apply below_drew1 | refine below_set ?_ GE351.out | refine below_set ?_ GE363.out | refine below_set ?_ GE370.out) | exact HB.out))) : w.heap.size ≤ gb380)); replace HB := Aside0.mk (below_step (by repeat (first | (with_reducible first | exact HB.out | apply below_alloc | apply pw_below_drewN | apply below_drew1 | refine below_set ?_ GE351.out | refine below_set ?_ GE363.out | refine below_set ?_ GE370.out) | exact HB.out)) hb); have NB351_380 := Aside0.mk ((by rw [hg]; exact Nat.ne_of_lt (blk_lt (g := gb351) (o := .cells #[.int .i64 t346, .int .i64 t347, .int .i64 t348, .int .i64 t349, .int .i64 t350] 83 (0, 0)) (r0_ BK351.out)) : gb351 ≠ gb380)); have NB380_351 := Aside0.mk ((by rw [hg]; exact Nat.ne_of_gt (blk_lt (g := gb351) (o := .cells #[.int .i64 t346, .int .i64 t347, .int .i64 t348, .int .i64 t349, .int .i64 t350] 83 (0, 0)) (r0_ BK351.out)) : gb380 ≠ gb351)); replace BK351 := Aside0.mk (blk_below (g := gb351) (o := .cells #[.int .i64 t346, .int .i64 t347, .int .i64 t348, .int .i64 t349, .int .i64 t350] 83 (0, 0)) (r0_ BK351.out) hb); have NB363_380 := Aside0.mk ((by rw [hg]; exact Nat.ne_of_lt (blk_lt (g := gb363) (o := .cells #[.int .i64 t357, .int .i64 t358, .int .i64 t359, .int .i64 t360, .int .i64 t361] 83 (0, 0)) (r0_ BK363.out)) : gb363 ≠ gb380)); have NB380_363 := Aside0.mk ((by rw [hg]; exact Nat.ne_of_gt (blk_lt (g := gb363) (o := .cells #[.int .i64 t357, .int .i64 t358, .int .i64 t359, .int .i64 t360, .int .i64 t361] 83 (0, 0)) (r0_ BK363.out)) : gb380 ≠ gb363)); replace BK363 := Aside0.mk (blk_below (g := gb363) (o := .cells #[.int .i64 t357, .int .i64 t358, .int .i64 t359, .int .i64 t360, .int .i64 t361] 83 (0, 0)) (r0_ BK363.out) hb); have NB370_380 := Aside0.mk ((by rw [hg]; exact Nat.ne_of_lt (blk_lt (g := gb370) (o := .cells #[.int .i64 t364, .int .i64 t365, .int .i64 t366, .int .i64 t367, .int .i64 t368] 83 (0, 0)) (r0_ BK370.out)) : gb370 ≠ gb380)); have NB380_370 := Aside0.mk ((by rw [hg]; exact Nat.ne_of_gt (blk_lt (g := gb370) (o := .cells #[.int .i64 t364, .int .i64 t365, .int .i64 t366, .int .i64 t367, .int .i64 t368] 83 (0, 0)) (r0_ BK370.out)) : gb380 ≠ gb370)); replace BK370 := Aside0.mk (blk_below (g := gb370) (o := .cells #[.int .i64 t364, .int .i64 t365, .int .i64 t366, .int .i64 t367, .int .i64 t368] 83 (0, 0)) (r0_ BK370.out) hb); clear hb hbox hg; have hnb59 := NB380_351.out; have hnc59 := NB351_380.out; have hnb60 := NB380_363.out; have hnc60 := NB363_380.out; have hnb61 := NB380_370.out; have hnc61 := NB370_380.out; have hcz62_0 : w58.cell? ⟨gb380, 0, none⟩ = some (.int .i64 0) := (blk_cell BK380.out 0).trans rfl; have hcz62_1 : w58.cell? ⟨gb380, 1, none⟩ = some (.int .i64 0) := (blk_cell BK380.out 1).trans rfl; have hcz62_2 : w58.cell? ⟨gb380, 2, none⟩ = some (.int .i64 0) := (blk_cell BK380.out 2).trans rfl; have hcz62_3 : w58.cell? ⟨gb380, 3, none⟩ = some (.int .i64 0) := (blk_cell BK380.out 3).trans rfl; have hcz62_4 : w58.cell? ⟨gb380, 4, none⟩ = some (.int .i64 0) := (blk_cell BK380.out 4).trans rfl; have hfz62_0 := blk_frozen BK380.out 0; have hfz62_1 := blk_frozen BK380.out 1; have hfz62_2 := blk_frozen BK380.out 2; have hfz62_3 := blk_frozen BK380.out 3; have hfz62_4 := blk_frozen BK380.out 4; have hnb63 := NB351_363.out; have hnc63 := NB363_351.out; have hnb64 := NB351_370.out; have hnc64 := NB370_351.out; have hcz65_0 : w58.cell? ⟨gb351, 0, none⟩ = some (.int .i64 t346) := (blk_cell BK351.out 0).trans rfl; have hcz65_1 : w58.cell? ⟨gb351, 1, none⟩ = some (.int .i64 t347) := (blk_cell BK351.out 1).trans rfl; have hcz65_2 : w58.cell? ⟨gb351, 2, none⟩ = some (.int .i64 t348) := (blk_cell BK351.out 2).trans rfl; have hcz65_3 : w58.cell? ⟨gb351, 3, none⟩ = some (.int .i64 t349) := (blk_cell BK351.out 3).trans rfl; have hcz65_4 : w58.cell? ⟨gb351, 4, none⟩ = some (.int .i64 t350) := (blk_cell BK351.out 4).trans rfl; have hfz65_0 := blk_frozen BK351.out 0; have hfz65_1 := blk_frozen BK351.out 1; have hfz65_2 := blk_frozen BK351.out 2; have hfz65_3 := blk_frozen BK351.out 3; have hfz65_4 := blk_frozen BK351.out 4))
        go_ret
        exact ⟨by first | rfl | (simp [errW_none, errW_some] <;> rfl) | (simp [*, errW_none, errW_some] <;> rfl), by repeat (first | (with_reducible first | exact HB.out | apply below_alloc | apply pw_below_drewN | apply below_drew1 | refine below_set ?_ GE351.out | refine below_set ?_ GE363.out | refine below_set ?_ GE370.out | refine below_set ?_ GE380.out) | exact HB.out)⟩
       ·rw [if_neg c54] at H
        have c54b0 : (t353 == 0) = false := beq_eq_false_iff_ne.mpr c54
        have c54b1 : (t353 != 0) = true := bne_iff_ne.mpr c54
        obtain rfl := Option.some.inj H
        go_wp2
        go_ret
        exact ⟨by first | rfl | (simp [errW_none, errW_some] <;> rfl) | (simp [*, errW_none, errW_some] <;> rfl), by repeat (first | (with_reducible first | exact HB.out | apply below_alloc | apply pw_below_drewN | apply below_drew1 | refine below_set ?_ GE351.out | refine below_set ?_ GE363.out | refine below_set ?_ GE370.out) | exact HB.out)⟩
    ·rw [if_neg c45] at H
     have c45b0 : (t362 == 0) = false := beq_eq_false_iff_ne.mpr c45
     have c45b1 : (t362 != 0) = true := bne_iff_ne.mpr c45
     by_cases c72 : t353 = 0
     ·rw [if_pos c72] at H
      have c72b0 : (t353 == 0) = true := beq_iff_eq.mpr c72
      have c72b1 : (t353 != 0) = false := bne_eq_false_iff_eq.mpr c72
      clear c72
      replace H := Option.bind_eq_some_iff.mp H
      obtain ⟨⟨t381, t382, t383, t384, t385, t386⟩, A730, H⟩ := H
      replace H : (if t386 = 0 then (some (t381 == t346 && (t382 == t347 && (t383 == t348 && (t384 == t349 && (t385 == t350)))))) else (some false)) = some r := H
      have A73 := Aside0.mk A730
      clear A730
      by_cases c74 : t386 = 0
      case neg =>
       rw [if_neg c74] at H
       have c74b0 : (t386 == 0) = false := beq_eq_false_iff_ne.mpr c74
       have c74b1 : (t386 != 0) = true := bne_iff_ne.mpr c74
       exact absurd ((Option.some.inj H).trans hT) (by decide)
      rw [if_pos c74] at H
      have c74b0 : (t386 == 0) = true := beq_iff_eq.mpr c74
      have c74b1 : (t386 != 0) = false := bne_eq_false_iff_eq.mpr c74
      clear c74
      obtain rfl := Option.some.inj H
      go_wp2_with (first | ((with_reducible refine gate_callee (f := 62) rfl ?_); refine goesL_ (some 87) rfl rfl Try.func62 (by kernel_rfl) rfl #[.string t352] rfl ag_ ?_; (with_reducible refine (impl_ReadArea.calls kj9 t352 t381 t382 t383 t384 t385 t386 _ A73.out).mono ?_); rintro e w75 ⟨rfl, hb⟩; refine ⟨_, rfl, ?_⟩; replace BK351 := Aside0.mk (blk_below (g := gb351) (o := .cells #[.int .i64 t346, .int .i64 t347, .int .i64 t348, .int .i64 t349, .int .i64 t350] 83 (0, 0)) (r0_ BK351.out) hb); replace BK363 := Aside0.mk (blk_below (g := gb363) (o := .cells #[.int .i64 t357, .int .i64 t358, .int .i64 t359, .int .i64 t360, .int .i64 t361] 83 (0, 0)) (r0_ BK363.out) hb); replace BK370 := Aside0.mk (blk_below (g := gb370) (o := .cells #[.int .i64 t364, .int .i64 t365, .int .i64 t366, .int .i64 t367, .int .i64 t368] 83 (0, 0)) (r0_ BK370.out) hb); replace HB := Aside0.mk (below_step (by repeat (first | (with_reducible first | exact HB.out | apply below_alloc | apply pw_below_drewN | apply below_drew1 | refine below_set ?_ GE351.out | refine below_set ?_ GE363.out | refine below_set ?_ GE370.out) | exact HB.out)) hb); (try clear hb); (try clear hb2); (try clear hk); (try clear hi)) | ((with_reducible refine gate_dst (N := 15) rfl ?_); refine box_event ?hg (N := 15) ?hd (cs := #[.int .i64 0, .int .i64 0, .int .i64 0, .int .i64 0, .int .i64 0]) (t := 83) ?hr ?_; (case hd => rfl); (case hg => rfl); (case hr => first | (go_simp; done) | (go_simp; rfl)); intro gb387 hg w76 hbox hb; have BK387 := Aside0.mk (hbox); have GW387 := Aside0.mk ((by rw [hg]; exact (below_size (by repeat (first | (with_reducible first | exact HB.out | apply below_alloc | apply pw_below_drewN | apply below_drew1 | refine below_set ?_ GE351.out | refine below_set ?_ GE363.out | refine below_set ?_ GE370.out) | exact HB.out))) : w.heap.size ≤ gb387)); have GE387 := Aside0.mk ((by rw [hg]; exact (below_size (by repeat (first | (with_reducible first | exact HB.out | apply below_alloc | apply pw_below_drewN | apply below_drew1 | refine below_set ?_ GE351.out | refine below_set ?_ GE363.out | refine below_set ?_ GE370.out) | exact HB.out))) : w.heap.size ≤ gb387)); replace HB := Aside0.mk (below_step (by repeat (first | (with_reducible first | exact HB.out | apply below_alloc | apply pw_below_drewN | apply below_drew1 | refine below_set ?_ GE351.out | refine below_set ?_ GE363.out | refine below_set ?_ GE370.out) | exact HB.out)) hb); have NB351_387 := Aside0.mk ((by rw [hg]; exact Nat.ne_of_lt (blk_lt (g := gb351) (o := .cells #[.int .i64 t346, .int .i64 t347, .int .i64 t348, .int .i64 t349, .int .i64 t350] 83 (0, 0)) (r0_ BK351.out)) : gb351 ≠ gb387)); have NB387_351 := Aside0.mk ((by rw [hg]; exact Nat.ne_of_gt (blk_lt (g := gb351) (o := .cells #[.int .i64 t346, .int .i64 t347, .int .i64 t348, .int .i64 t349, .int .i64 t350] 83 (0, 0)) (r0_ BK351.out)) : gb387 ≠ gb351)); replace BK351 := Aside0.mk (blk_below (g := gb351) (o := .cells #[.int .i64 t346, .int .i64 t347, .int .i64 t348, .int .i64 t349, .int .i64 t350] 83 (0, 0)) (r0_ BK351.out) hb); have NB363_387 := Aside0.mk ((by rw [hg]; exact Nat.ne_of_lt (blk_lt (g := gb363) (o := .cells #[.int .i64 t357, .int .i64 t358, .int .i64 t359, .int .i64 t360, .int .i64 t361] 83 (0, 0)) (r0_ BK363.out)) : gb363 ≠ gb387)); have NB387_363 := Aside0.mk ((by rw [hg]; exact Nat.ne_of_gt (blk_lt (g := gb363) (o := .cells #[.int .i64 t357, .int .i64 t358, .int .i64 t359, .int .i64 t360, .int .i64 t361] 83 (0, 0)) (r0_ BK363.out)) : gb387 ≠ gb363)); replace BK363 := Aside0.mk (blk_below (g := gb363) (o := .cells #[.int .i64 t357, .int .i64 t358, .int .i64 t359, .int .i64 t360, .int .i64 t361] 83 (0, 0)) (r0_ BK363.out) hb); have NB370_387 := Aside0.mk ((by rw [hg]; exact Nat.ne_of_lt (blk_lt (g := gb370) (o := .cells #[.int .i64 t364, .int .i64 t365, .int .i64 t366, .int .i64 t367, .int .i64 t368] 83 (0, 0)) (r0_ BK370.out)) : gb370 ≠ gb387)); have NB387_370 := Aside0.mk ((by rw [hg]; exact Nat.ne_of_gt (blk_lt (g := gb370) (o := .cells #[.int .i64 t364, .int .i64 t365, .int .i64 t366, .int .i64 t367, .int .i64 t368] 83 (0, 0)) (r0_ BK370.out)) : gb387 ≠ gb370)); replace BK370 := Aside0.mk (blk_below (g := gb370) (o := .cells #[.int .i64 t364, .int .i64 t365, .int .i64 t366, .int .i64 t367, .int .i64 t368] 83 (0, 0)) (r0_ BK370.out) hb); clear hb hbox hg; have hnb77 := NB387_351.out; have hnc77 := NB351_387.out; have hnb78 := NB387_363.out; have hnc78 := NB363_387.out; have hnb79 := NB387_370.out; have hnc79 := NB370_387.out; have hcz80_0 : w76.cell? ⟨gb387, 0, none⟩ = some (.int .i64 0) := (blk_cell BK387.out 0).trans rfl; have hcz80_1 : w76.cell? ⟨gb387, 1, none⟩ = some (.int .i64 0) := (blk_cell BK387.out 1).trans rfl; have hcz80_2 : w76.cell? ⟨gb387, 2, none⟩ = some (.int .i64 0) := (blk_cell BK387.out 2).trans rfl; have hcz80_3 : w76.cell? ⟨gb387, 3, none⟩ = some (.int .i64 0) := (blk_cell BK387.out 3).trans rfl; have hcz80_4 : w76.cell? ⟨gb387, 4, none⟩ = some (.int .i64 0) := (blk_cell BK387.out 4).trans rfl; have hfz80_0 := blk_frozen BK387.out 0; have hfz80_1 := blk_frozen BK387.out 1; have hfz80_2 := blk_frozen BK387.out 2; have hfz80_3 := blk_frozen BK387.out 3; have hfz80_4 := blk_frozen BK387.out 4; have hnb81 := NB351_363.out; have hnc81 := NB363_351.out; have hnb82 := NB351_370.out; have hnc82 := NB370_351.out; have hcz83_0 : w76.cell? ⟨gb351, 0, none⟩ = some (.int .i64 t346) := (blk_cell BK351.out 0).trans rfl; have hcz83_1 : w76.cell? ⟨gb351, 1, none⟩ = some (.int .i64 t347) := (blk_cell BK351.out 1).trans rfl; have hcz83_2 : w76.cell? ⟨gb351, 2, none⟩ = some (.int .i64 t348) := (blk_cell BK351.out 2).trans rfl; have hcz83_3 : w76.cell? ⟨gb351, 3, none⟩ = some (.int .i64 t349) := (blk_cell BK351.out 3).trans rfl; have hcz83_4 : w76.cell? ⟨gb351, 4, none⟩ = some (.int .i64 t350) := (blk_cell BK351.out 4).trans rfl; have hfz83_0 := blk_frozen BK351.out 0; have hfz83_1 := blk_frozen BK351.out 1; have hfz83_2 := blk_frozen BK351.out 2; have hfz83_3 := blk_frozen BK351.out 3; have hfz83_4 := blk_frozen BK351.out 4))
      go_ret
      exact ⟨by first | rfl | (simp [errW_none, errW_some] <;> rfl) | (simp [*, errW_none, errW_some] <;> rfl), by repeat (first | (with_reducible first | exact HB.out | apply below_alloc | apply pw_below_drewN | apply below_drew1 | refine below_set ?_ GE351.out | refine below_set ?_ GE363.out | refine below_set ?_ GE370.out | refine below_set ?_ GE387.out) | exact HB.out)⟩
     ·rw [if_neg c72] at H
      have c72b0 : (t353 == 0) = false := beq_eq_false_iff_ne.mpr c72
      have c72b1 : (t353 != 0) = true := bne_iff_ne.mpr c72
      obtain rfl := Option.some.inj H
      go_wp2
      go_ret
      exact ⟨by first | rfl | (simp [errW_none, errW_some] <;> rfl) | (simp [*, errW_none, errW_some] <;> rfl), by repeat (first | (with_reducible first | exact HB.out | apply below_alloc | apply pw_below_drewN | apply below_drew1 | refine below_set ?_ GE351.out | refine below_set ?_ GE363.out | refine below_set ?_ GE370.out) | exact HB.out)⟩
/-- THE ONE PURE STATEMENT of laws_FnAreaTexts: yours. -/
def laws_FnAreaTexts.Pure : Prop := ∀ (l0 : List Int), l0.length ≤ maxLen → l0.length * 1 ≤ 140737488351232 → (∀ x ∈ l0, (Lit.int .u8 x).wf = true) → ∃ k, laws_FnAreaTexts.f k l0 = some true
theorem laws_FnAreaTexts.walk (P : laws_FnAreaTexts.Pure) (a0 : Option Addr) (len0 cap0 : Nat) (z0 : List Int) (w : World) (w0 : (a0 = none ∧ len0 = 0 ∧ cap0 = 0 ∧ z0 = []) ∨ ∃ x, a0 = some x ∧ len0 ≤ cap0 ∧ cap0 ≤ maxLen ∧ z0.length = cap0 ∧ (∀ i, i < z0.length → w.cell? (x.add i) = some (.int .u8 (z0.getD i 0))) ∧ ∀ n ∈ z0, (Lit.int .u8 n).wf = true) (y0 : len0 * 1 ≤ 140737488351232) :
  Calls Try.prog 13 #[.slice a0 len0 cap0] w fun e w' => e = .returned (.bool true) ∧ Below w.heap.size w w' := by
 obtain ⟨l0, rfl, hr0, hm0, hw0, hc0⟩ := ReadsInt.ofRowC w0
 obtain ⟨k, h⟩ := P l0 hm0 y0 hw0
 refine (laws_FnAreaTexts.calls k _ _ l0 true w (Kd.C_of_reads (d := (0 : Int)) (h1 := fun _ => rfl) hr0) hc0 h rfl).mono ?_
 rintro e w' ⟨rfl, hd⟩
 exact ⟨rfl, hd⟩
end
end Go.Proofs.Ytedcdhnbceaaeaa.PFnAreaTexts
