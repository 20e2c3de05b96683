/- QFnAreasg of the law FnAreas: taken over, declaration by declaration, as far as the law leans on it (the words and the printed functions are the kit's own print). No condition but what each says. -/
import Derived.Test.YtedcdhnbceaaeaaZFnAreasav
import Derived.Test.YtedcdhnbceaaeaaZFnAreasaw
import Derived.Test.YtedcdhnbceaaeaaZFnAreasax
import Derived.Test.YtedcdhnbceaaeaaZFnAreasay
import Derived.Test.YtedcdhnbceaaeaaZFnAreasbb
import Derived.Test.YtedcdhnbceaaeaaZFnAreasbc
namespace Go.Proofs.Ytedcdhnbceaaeaa.PFnAreas
open Go.RowKit Go.Proofs.YtedcdhnbceaaeaaW.PrintWords Go.Proofs.YtedcdhnbceaaeaaW.PrintLast Go.Proofs.YtedcdhnbceaaeaaW.PrintMore
attribute [local go_sem] max2_int min2_int max_two min_two max_three min_three max_four min_four   -- for this text's walks alone
set_option linter.unusedVariables false
set_option linter.unusedSimpArgs false
mutual
def laws_FnAreas.j0 : Nat → List (S83) → Int → Int → Int → List Int → Int → List (S83) → List (List Int) → Int → Bool → Option (Bool)
 | 0, _, _, _, _, _, _, _, _, _, _ => none
 | k + 1, x3, x4, x5, x6, x7, x8, x11, x12, x13, x79 => if x79 = true then (some false) else (laws_FnAreas.l0 k x3 x4 x5 x6 x7 x8 x11 x12 x13 0)
def laws_FnAreas.l0 : Nat → List (S83) → Int → Int → Int → List Int → Int → List (S83) → List (List Int) → Int → Int → Option (Bool)
 | 0, _, _, _, _, _, _, _, _, _, _ => none
 | k + 1, x3, x4, x5, x6, x7, x8, x11, x12, x13, x16 => if x8 = 0 then (laws_FnAreas.j2 k x3 x4 x5 x6 x7 x8 x11 x12 x13 x16 (decide (x16 < (x3.length : Int)))) else (laws_FnAreas.j2 k x3 x4 x5 x6 x7 x8 x11 x12 x13 x16 false)
def laws_FnAreas.j2 : Nat → List (S83) → Int → Int → Int → List Int → Int → List (S83) → List (List Int) → Int → Int → Bool → Option (Bool)
 | 0, _, _, _, _, _, _, _, _, _, _, _ => none
 | k + 1, x3, x4, x5, x6, x7, x8, x11, x12, x13, x16, x87 => if x87 = true then (if 0 ≤ x16 then (if x16 < (x3.length : Int) then ((impl_SquareTo.f ((rd_T83 x3 x16).f0) ((rd_T83 x3 x16).f1) ((rd_T83 x3 x16).f2) ((rd_T83 x3 x16).f3) ((rd_T83 x3 x16).f4) x4 x5).bind fun bt354 => (if bt354.2 = 0 then ((laws_hasInt.f k x7 x16).bind fun t356 => (if (t356 != (decide (bt354.1 ≤ (wrap64 (x6 * x6))))) = true then (some false) else (laws_FnAreas.l0 k x3 x4 x5 x6 x7 x8 x11 x12 x13 (wrap64 (x16 + 1))))) else (some false))) else (none)) else (none)) else (laws_FnAreas.l1 k x11 x12 x13 0 0)
def laws_FnAreas.l1 : Nat → List (S83) → List (List Int) → Int → Int → Int → Option (Bool)
 | 0, _, _, _, _, _ => none
 | k + 1, x11, x12, x13, x19, x20 => if x13 = 0 then (laws_FnAreas.j4 k x11 x12 x13 x19 x20 (decide (x20 < (x11.length : Int)))) else (laws_FnAreas.j4 k x11 x12 x13 x19 x20 false)
def laws_FnAreas.j4 : Nat → List (S83) → List (List Int) → Int → Int → Int → Bool → Option (Bool)
 | 0, _, _, _, _, _, _ => none
 | k + 1, x11, x12, x13, x19, x20, x120 => if x120 = true then (laws_FnAreas.l2 k x11 x12 x13 x19 x20 0) else (if x13 = 0 then (some (x19 == (x12.length : Int))) else (some true))
def laws_FnAreas.l2 : Nat → List (S83) → List (List Int) → Int → Int → Int → Int → Option (Bool)
 | 0, _, _, _, _, _, _ => none
 | k + 1, x11, x12, x13, x19, x20, x21 => if x21 < x20 then (if 0 ≤ x20 then (if x20 < (x11.length : Int) then (if 0 ≤ x21 then (if x21 < (x11.length : Int) then (if ((rd_T83 x11 x20).f1) ≤ (wrap64 (((rd_T83 x11 x21).f1) + ((rd_T83 x11 x21).f3))) then (if ((rd_T83 x11 x21).f1) ≤ (wrap64 (((rd_T83 x11 x20).f1) + ((rd_T83 x11 x20).f3))) then (if ((rd_T83 x11 x20).f2) ≤ (wrap64 (((rd_T83 x11 x21).f2) + ((rd_T83 x11 x21).f4))) then (laws_FnAreas.j6 k x11 x12 x13 x19 x20 x21 (decide (((rd_T83 x11 x21).f2) ≤ (wrap64 (((rd_T83 x11 x20).f2) + ((rd_T83 x11 x20).f4)))))) else (laws_FnAreas.j6 k x11 x12 x13 x19 x20 x21 false)) else (laws_FnAreas.j6 k x11 x12 x13 x19 x20 x21 false)) else (laws_FnAreas.j6 k x11 x12 x13 x19 x20 x21 false)) else (none)) else (none)) else (none)) else (none)) else (laws_FnAreas.l1 k x11 x12 x13 x19 (wrap64 (x20 + 1)))
def laws_FnAreas.j6 : Nat → List (S83) → List (List Int) → Int → Int → Int → Int → Bool → Option (Bool)
 | 0, _, _, _, _, _, _, _ => none
 | k + 1, x11, x12, x13, x19, x20, x21, x22 => (laws_hasRow.f k x12 x21 x20).bind fun t369 => (if (x22 != t369) = true then (some false) else (if x22 = true then (laws_FnAreas.l2 k x11 x12 x13 (wrap64 (x19 + 1)) x20 (wrap64 (x21 + 1))) else (laws_FnAreas.l2 k x11 x12 x13 x19 x20 (wrap64 (x21 + 1)))))
end
def laws_FnAreas.f (k : Nat) (l0 : List Int) : Option (Bool) := (laws_big.f l0).bind fun t325 => (if t325 = true then (some true) else ((spec_DrawAreasWithin.f k l0).bind fun bt326 => ((impl_AreasWithin.f k bt326.1 bt326.2.1 bt326.2.2.1 bt326.2.2.2).bind fun bt332 => ((spec_AreasWithin.f k bt326.1 bt326.2.1 bt326.2.2.1 bt326.2.2.2).bind fun bt336 => ((spec_DrawOverlappingAreas.f k l0).bind fun t340 => ((impl_OverlappingAreas.f k t340).bind fun bt343 => ((spec_OverlappingAreas.f k t340).bind fun bt347 => (if bt332.2 = bt336.2 then ((laws_likeInts.f k bt332.1 bt336.1).bind fun t351 => (if t351 = true then (if bt343.2 = bt347.2 then ((laws_likeRows.f k bt343.1 bt347.1).bind fun t352 => (laws_FnAreas.j0 k bt326.1 bt326.2.1 bt326.2.2.1 bt326.2.2.2 bt332.1 bt332.2 t340 bt343.1 bt343.2 (!t352))) else (laws_FnAreas.j0 k bt326.1 bt326.2.1 bt326.2.2.1 bt326.2.2.2 bt332.1 bt332.2 t340 bt343.1 bt343.2 true)) else (laws_FnAreas.j0 k bt326.1 bt326.2.1 bt326.2.2.1 bt326.2.2.2 bt332.1 bt332.2 t340 bt343.1 bt343.2 true))) else (laws_FnAreas.j0 k bt326.1 bt326.2.1 bt326.2.2.1 bt326.2.2.2 bt332.1 bt332.2 t340 bt343.1 bt343.2 true)))))))))
theorem laws_FnAreas.mono_l : ∀ k, (∀ y0 y1 y2 y3 y4 y5 y6 y7 y8 y9, LeO (laws_FnAreas.j0 k y0 y1 y2 y3 y4 y5 y6 y7 y8 y9) (laws_FnAreas.j0 (k + 1) y0 y1 y2 y3 y4 y5 y6 y7 y8 y9)) ∧ (∀ y0 y1 y2 y3 y4 y5 y6 y7 y8 y9, LeO (laws_FnAreas.l0 k y0 y1 y2 y3 y4 y5 y6 y7 y8 y9) (laws_FnAreas.l0 (k + 1) y0 y1 y2 y3 y4 y5 y6 y7 y8 y9)) ∧ (∀ y0 y1 y2 y3 y4 y5 y6 y7 y8 y9 y10, LeO (laws_FnAreas.j2 k y0 y1 y2 y3 y4 y5 y6 y7 y8 y9 y10) (laws_FnAreas.j2 (k + 1) y0 y1 y2 y3 y4 y5 y6 y7 y8 y9 y10)) ∧ (∀ y0 y1 y2 y3 y4, LeO (laws_FnAreas.l1 k y0 y1 y2 y3 y4) (laws_FnAreas.l1 (k + 1) y0 y1 y2 y3 y4)) ∧ (∀ y0 y1 y2 y3 y4 y5, LeO (laws_FnAreas.j4 k y0 y1 y2 y3 y4 y5) (laws_FnAreas.j4 (k + 1) y0 y1 y2 y3 y4 y5)) ∧ (∀ y0 y1 y2 y3 y4 y5, LeO (laws_FnAreas.l2 k y0 y1 y2 y3 y4 y5) (laws_FnAreas.l2 (k + 1) y0 y1 y2 y3 y4 y5)) ∧ (∀ y0 y1 y2 y3 y4 y5 y6, LeO (laws_FnAreas.j6 k y0 y1 y2 y3 y4 y5 y6) (laws_FnAreas.j6 (k + 1) y0 y1 y2 y3 y4 y5 y6))
 | 0 => ⟨fun _ _ _ _ _ _ _ _ _ _ r h => by simp [laws_FnAreas.j0] at h, fun _ _ _ _ _ _ _ _ _ _ r h => by simp [laws_FnAreas.l0] at h, fun _ _ _ _ _ _ _ _ _ _ _ r h => by simp [laws_FnAreas.j2] at h, fun _ _ _ _ _ r h => by simp [laws_FnAreas.l1] at h, fun _ _ _ _ _ _ r h => by simp [laws_FnAreas.j4] at h, fun _ _ _ _ _ _ r h => by simp [laws_FnAreas.l2] at h, fun _ _ _ _ _ _ _ r h => by simp [laws_FnAreas.j6] at h⟩
 | k + 1 => by
  obtain ⟨ih0, ih1, ih2, ih3, ih4, ih5, ih6⟩ := laws_FnAreas.mono_l k
  refine ⟨?_, ?_, ?_, ?_, ?_, ?_, ?_⟩
  ·intro y0 y1 y2 y3 y4 y5 y6 y7 y8 y9
   unfold laws_FnAreas.j0
   repeat' first
   | (with_reducible exact ih0 _ _ _ _ _ _ _ _ _ _)
   | (with_reducible exact ih1 _ _ _ _ _ _ _ _ _ _)
   | (with_reducible exact ih2 _ _ _ _ _ _ _ _ _ _ _)
   | (with_reducible exact ih3 _ _ _ _ _)
   | (with_reducible exact ih4 _ _ _ _ _ _)
   | (with_reducible exact ih5 _ _ _ _ _ _)
   | (with_reducible exact ih6 _ _ _ _ _ _ _)
   | (with_reducible exact impl_AreasWithin.mono _ _ _ _ _)
   | (with_reducible exact impl_OverlappingAreas.mono _ _)
   | (with_reducible exact laws_hasInt.mono _ _ _)
   | (with_reducible exact laws_hasRow.mono _ _ _ _)
   | (with_reducible exact laws_likeInts.mono _ _ _)
   | (with_reducible exact laws_likeRows.mono _ _ _)
   | (with_reducible exact spec_AreasWithin.mono _ _ _ _ _)
   | (with_reducible exact spec_DrawAreasWithin.mono _ _)
   | (with_reducible exact spec_DrawOverlappingAreas.mono _ _)
   | (with_reducible exact spec_OverlappingAreas.mono _ _)
   | (with_reducible exact LeO.refl _)
   | (with_reducible exact LeO.none _)
   | (with_reducible refine LeO.ite ?_ ?_)
   | (with_reducible refine LeO.bind ?_ (fun _ => ?_))
   | exact ih0 _ _ _ _ _ _ _ _ _ _
   | exact ih1 _ _ _ _ _ _ _ _ _ _
   | exact ih2 _ _ _ _ _ _ _ _ _ _ _
   | exact ih3 _ _ _ _ _
   | exact ih4 _ _ _ _ _ _
   | exact ih5 _ _ _ _ _ _
   | exact ih6 _ _ _ _ _ _ _
   | exact impl_AreasWithin.mono _ _ _ _ _
   | exact impl_OverlappingAreas.mono _ _
   | exact laws_hasInt.mono _ _ _
   | exact laws_hasRow.mono _ _ _ _
   | exact laws_likeInts.mono _ _ _
   | exact laws_likeRows.mono _ _ _
   | exact spec_AreasWithin.mono _ _ _ _ _
   | exact spec_DrawAreasWithin.mono _ _
   | exact spec_DrawOverlappingAreas.mono _ _
   | exact spec_OverlappingAreas.mono _ _
   | exact LeO.none _
   | refine LeO.ite ?_ ?_
   | refine LeO.bind ?_ (fun _ => ?_)
  ·intro y0 y1 y2 y3 y4 y5 y6 y7 y8 y9
   unfold laws_FnAreas.l0
   repeat' first
   | (with_reducible exact ih0 _ _ _ _ _ _ _ _ _ _)
   | (with_reducible exact ih1 _ _ _ _ _ _ _ _ _ _)
   | (with_reducible exact ih2 _ _ _ _ _ _ _ _ _ _ _)
   | (with_reducible exact ih3 _ _ _ _ _)
   | (with_reducible exact ih4 _ _ _ _ _ _)
   | (with_reducible exact ih5 _ _ _ _ _ _)
   | (with_reducible exact ih6 _ _ _ _ _ _ _)
   | (with_reducible exact impl_AreasWithin.mono _ _ _ _ _)
   | (with_reducible exact impl_OverlappingAreas.mono _ _)
   | (with_reducible exact laws_hasInt.mono _ _ _)
   | (with_reducible exact laws_hasRow.mono _ _ _ _)
   | (with_reducible exact laws_likeInts.mono _ _ _)
   | (with_reducible exact laws_likeRows.mono _ _ _)
   | (with_reducible exact spec_AreasWithin.mono _ _ _ _ _)
   | (with_reducible exact spec_DrawAreasWithin.mono _ _)
   | (with_reducible exact spec_DrawOverlappingAreas.mono _ _)
   | (with_reducible exact spec_OverlappingAreas.mono _ _)
   | (with_reducible exact LeO.refl _)
   | (with_reducible exact LeO.none _)
   | (with_reducible refine LeO.ite ?_ ?_)
   | (with_reducible refine LeO.bind ?_ (fun _ => ?_))
   | exact ih0 _ _ _ _ _ _ _ _ _ _
   | exact ih1 _ _ _ _ _ _ _ _ _ _
   | exact ih2 _ _ _ _ _ _ _ _ _ _ _
   | exact ih3 _ _ _ _ _
   | exact ih4 _ _ _ _ _ _
   | exact ih5 _ _ _ _ _ _
   | exact ih6 _ _ _ _ _ _ _
   | exact impl_AreasWithin.mono _ _ _ _ _
   | exact impl_OverlappingAreas.mono _ _
   | exact laws_hasInt.mono _ _ _
   | exact laws_hasRow.mono _ _ _ _
   | exact laws_likeInts.mono _ _ _
   | exact laws_likeRows.mono _ _ _
   | exact spec_AreasWithin.mono _ _ _ _ _
   | exact spec_DrawAreasWithin.mono _ _
   | exact spec_DrawOverlappingAreas.mono _ _
   | exact spec_OverlappingAreas.mono _ _
   | exact LeO.none _
   | refine LeO.ite ?_ ?_
   | refine LeO.bind ?_ (fun _ => ?_)
  ·intro y0 y1 y2 y3 y4 y5 y6 y7 y8 y9 y10
   unfold laws_FnAreas.j2
   repeat' first
   | (with_reducible exact ih0 _ _ _ _ _ _ _ _ _ _)
   | (with_reducible exact ih1 _ _ _ _ _ _ _ _ _ _)
   | (with_reducible exact ih2 _ _ _ _ _ _ _ _ _ _ _)
   | (with_reducible exact ih3 _ _ _ _ _)
   | (with_reducible exact ih4 _ _ _ _ _ _)
   | (with_reducible exact ih5 _ _ _ _ _ _)
   | (with_reducible exact ih6 _ _ _ _ _ _ _)
   | (with_reducible exact impl_AreasWithin.mono _ _ _ _ _)
   | (with_reducible exact impl_OverlappingAreas.mono _ _)
   | (with_reducible exact laws_hasInt.mono _ _ _)
   | (with_reducible exact laws_hasRow.mono _ _ _ _)
   | (with_reducible exact laws_likeInts.mono _ _ _)
   | (with_reducible exact laws_likeRows.mono _ _ _)
   | (with_reducible exact spec_AreasWithin.mono _ _ _ _ _)
   | (with_reducible exact spec_DrawAreasWithin.mono _ _)
   | (with_reducible exact spec_DrawOverlappingAreas.mono _ _)
   | (with_reducible exact spec_OverlappingAreas.mono _ _)
   | (with_reducible exact LeO.refl _)
   | (with_reducible exact LeO.none _)
   | (with_reducible refine LeO.ite ?_ ?_)
   | (with_reducible refine LeO.bind ?_ (fun _ => ?_))
   | exact ih0 _ _ _ _ _ _ _ _ _ _
   | exact ih1 _ _ _ _ _ _ _ _ _ _
   | exact ih2 _ _ _ _ _ _ _ _ _ _ _
   | exact ih3 _ _ _ _ _
   | exact ih4 _ _ _ _ _ _
   | exact ih5 _ _ _ _ _ _
   | exact ih6 _ _ _ _ _ _ _
   | exact impl_AreasWithin.mono _ _ _ _ _
   | exact impl_OverlappingAreas.mono _ _
   | exact laws_hasInt.mono _ _ _
   | exact laws_hasRow.mono _ _ _ _
   | exact laws_likeInts.mono _ _ _
   | exact laws_likeRows.mono _ _ _
   | exact spec_AreasWithin.mono _ _ _ _ _
   | exact spec_DrawAreasWithin.mono _ _
   | exact spec_DrawOverlappingAreas.mono _ _
   | exact spec_OverlappingAreas.mono _ _
   | exact LeO.none _
   | refine LeO.ite ?_ ?_
   | refine LeO.bind ?_ (fun _ => ?_)
  ·intro y0 y1 y2 y3 y4
   unfold laws_FnAreas.l1
   repeat' first
   | (with_reducible exact ih0 _ _ _ _ _ _ _ _ _ _)
   | (with_reducible exact ih1 _ _ _ _ _ _ _ _ _ _)
   | (with_reducible exact ih2 _ _ _ _ _ _ _ _ _ _ _)
   | (with_reducible exact ih3 _ _ _ _ _)
   | (with_reducible exact ih4 _ _ _ _ _ _)
   | (with_reducible exact ih5 _ _ _ _ _ _)
   | (with_reducible exact ih6 _ _ _ _ _ _ _)
   | (with_reducible exact impl_AreasWithin.mono _ _ _ _ _)
   | (with_reducible exact impl_OverlappingAreas.mono _ _)
   | (with_reducible exact laws_hasInt.mono _ _ _)
   | (with_reducible exact laws_hasRow.mono _ _ _ _)
   | (with_reducible exact laws_likeInts.mono _ _ _)
   | (with_reducible exact laws_likeRows.mono _ _ _)
   | (with_reducible exact spec_AreasWithin.mono _ _ _ _ _)
   | (with_reducible exact spec_DrawAreasWithin.mono _ _)
   | (with_reducible exact spec_DrawOverlappingAreas.mono _ _)
   | (with_reducible exact spec_OverlappingAreas.mono _ _)
   | (with_reducible exact LeO.refl _)
   | (with_reducible exact LeO.none _)
   | (with_reducible refine LeO.ite ?_ ?_)
   | (with_reducible refine LeO.bind ?_ (fun _ => ?_))
   | exact ih0 _ _ _ _ _ _ _ _ _ _
   | exact ih1 _ _ _ _ _ _ _ _ _ _
   | exact ih2 _ _ _ _ _ _ _ _ _ _ _
   | exact ih3 _ _ _ _ _
   | exact ih4 _ _ _ _ _ _
   | exact ih5 _ _ _ _ _ _
   | exact ih6 _ _ _ _ _ _ _
   | exact impl_AreasWithin.mono _ _ _ _ _
   | exact impl_OverlappingAreas.mono _ _
   | exact laws_hasInt.mono _ _ _
   | exact laws_hasRow.mono _ _ _ _
   | exact laws_likeInts.mono _ _ _
   | exact laws_likeRows.mono _ _ _
   | exact spec_AreasWithin.mono _ _ _ _ _
   | exact spec_DrawAreasWithin.mono _ _
   | exact spec_DrawOverlappingAreas.mono _ _
   | exact spec_OverlappingAreas.mono _ _
   | exact LeO.none _
   | refine LeO.ite ?_ ?_
   | refine LeO.bind ?_ (fun _ => ?_)
  ·intro y0 y1 y2 y3 y4 y5
   unfold laws_FnAreas.j4
   repeat' first
   | (with_reducible exact ih0 _ _ _ _ _ _ _ _ _ _)
   | (with_reducible exact ih1 _ _ _ _ _ _ _ _ _ _)
   | (with_reducible exact ih2 _ _ _ _ _ _ _ _ _ _ _)
   | (with_reducible exact ih3 _ _ _ _ _)
   | (with_reducible exact ih4 _ _ _ _ _ _)
   | (with_reducible exact ih5 _ _ _ _ _ _)
   | (with_reducible exact ih6 _ _ _ _ _ _ _)
   | (with_reducible exact impl_AreasWithin.mono _ _ _ _ _)
   | (with_reducible exact impl_OverlappingAreas.mono _ _)
   | (with_reducible exact laws_hasInt.mono _ _ _)
   | (with_reducible exact laws_hasRow.mono _ _ _ _)
   | (with_reducible exact laws_likeInts.mono _ _ _)
   | (with_reducible exact laws_likeRows.mono _ _ _)
   | (with_reducible exact spec_AreasWithin.mono _ _ _ _ _)
   | (with_reducible exact spec_DrawAreasWithin.mono _ _)
   | (with_reducible exact spec_DrawOverlappingAreas.mono _ _)
   | (with_reducible exact spec_OverlappingAreas.mono _ _)
   | (with_reducible exact LeO.refl _)
   | (with_reducible exact LeO.none _)
   | (with_reducible refine LeO.ite ?_ ?_)
   | (with_reducible refine LeO.bind ?_ (fun _ => ?_))
   | exact ih0 _ _ _ _ _ _ _ _ _ _
   | exact ih1 _ _ _ _ _ _ _ _ _ _
   | exact ih2 _ _ _ _ _ _ _ _ _ _ _
   | exact ih3 _ _ _ _ _
   | exact ih4 _ _ _ _ _ _
   | exact ih5 _ _ _ _ _ _
   | exact ih6 _ _ _ _ _ _ _
   | exact impl_AreasWithin.mono _ _ _ _ _
   | exact impl_OverlappingAreas.mono _ _
   | exact laws_hasInt.mono _ _ _
   | exact laws_hasRow.mono _ _ _ _
   | exact laws_likeInts.mono _ _ _
   | exact laws_likeRows.mono _ _ _
   | exact spec_AreasWithin.mono _ _ _ _ _
   | exact spec_DrawAreasWithin.mono _ _
   | exact spec_DrawOverlappingAreas.mono _ _
   | exact spec_OverlappingAreas.mono _ _
   | exact LeO.none _
   | refine LeO.ite ?_ ?_
   | refine LeO.bind ?_ (fun _ => ?_)
  ·intro y0 y1 y2 y3 y4 y5
   unfold laws_FnAreas.l2
   repeat' first
   | (with_reducible exact ih0 _ _ _ _ _ _ _ _ _ _)
   | (with_reducible exact ih1 _ _ _ _ _ _ _ _ _ _)
   | (with_reducible exact ih2 _ _ _ _ _ _ _ _ _ _ _)
   | (with_reducible exact ih3 _ _ _ _ _)
   | (with_reducible exact ih4 _ _ _ _ _ _)
   | (with_reducible exact ih5 _ _ _ _ _ _)
   | (with_reducible exact ih6 _ _ _ _ _ _ _)
   | (with_reducible exact impl_AreasWithin.mono _ _ _ _ _)
   | (with_reducible exact impl_OverlappingAreas.mono _ _)
   | (with_reducible exact laws_hasInt.mono _ _ _)
   | (with_reducible exact laws_hasRow.mono _ _ _ _)
   | (with_reducible exact laws_likeInts.mono _ _ _)
   | (with_reducible exact laws_likeRows.mono _ _ _)
   | (with_reducible exact spec_AreasWithin.mono _ _ _ _ _)
   | (with_reducible exact spec_DrawAreasWithin.mono _ _)
   | (with_reducible exact spec_DrawOverlappingAreas.mono _ _)
   | (with_reducible exact spec_OverlappingAreas.mono _ _)
   | (with_reducible exact LeO.refl _)
   | (with_reducible exact LeO.none _)
   | (with_reducible refine LeO.ite ?_ ?_)
   | (with_reducible refine LeO.bind ?_ (fun _ => ?_))
   | exact ih0 _ _ _ _ _ _ _ _ _ _
   | exact ih1 _ _ _ _ _ _ _ _ _ _
   | exact ih2 _ _ _ _ _ _ _ _ _ _ _
   | exact ih3 _ _ _ _ _
   | exact ih4 _ _ _ _ _ _
   | exact ih5 _ _ _ _ _ _
   | exact ih6 _ _ _ _ _ _ _
   | exact impl_AreasWithin.mono _ _ _ _ _
   | exact impl_OverlappingAreas.mono _ _
   | exact laws_hasInt.mono _ _ _
   | exact laws_hasRow.mono _ _ _ _
   | exact laws_likeInts.mono _ _ _
   | exact laws_likeRows.mono _ _ _
   | exact spec_AreasWithin.mono _ _ _ _ _
   | exact spec_DrawAreasWithin.mono _ _
   | exact spec_DrawOverlappingAreas.mono _ _
   | exact spec_OverlappingAreas.mono _ _
   | exact LeO.none _
   | refine LeO.ite ?_ ?_
   | refine LeO.bind ?_ (fun _ => ?_)
  ·intro y0 y1 y2 y3 y4 y5 y6
   unfold laws_FnAreas.j6
   repeat' first
   | (with_reducible exact ih0 _ _ _ _ _ _ _ _ _ _)
   | (with_reducible exact ih1 _ _ _ _ _ _ _ _ _ _)
   | (with_reducible exact ih2 _ _ _ _ _ _ _ _ _ _ _)
   | (with_reducible exact ih3 _ _ _ _ _)
   | (with_reducible exact ih4 _ _ _ _ _ _)
   | (with_reducible exact ih5 _ _ _ _ _ _)
   | (with_reducible exact ih6 _ _ _ _ _ _ _)
   | (with_reducible exact impl_AreasWithin.mono _ _ _ _ _)
   | (with_reducible exact impl_OverlappingAreas.mono _ _)
   | (with_reducible exact laws_hasInt.mono _ _ _)
   | (with_reducible exact laws_hasRow.mono _ _ _ _)
   | (with_reducible exact laws_likeInts.mono _ _ _)
   | (with_reducible exact laws_likeRows.mono _ _ _)
   | (with_reducible exact spec_AreasWithin.mono _ _ _ _ _)
   | (with_reducible exact spec_DrawAreasWithin.mono _ _)
   | (with_reducible exact spec_DrawOverlappingAreas.mono _ _)
   | (with_reducible exact spec_OverlappingAreas.mono _ _)
   | (with_reducible exact LeO.refl _)
   | (with_reducible exact LeO.none _)
   | (with_reducible refine LeO.ite ?_ ?_)
   | (with_reducible refine LeO.bind ?_ (fun _ => ?_))
   | exact ih0 _ _ _ _ _ _ _ _ _ _
   | exact ih1 _ _ _ _ _ _ _ _ _ _
   | exact ih2 _ _ _ _ _ _ _ _ _ _ _
   | exact ih3 _ _ _ _ _
   | exact ih4 _ _ _ _ _ _
   | exact ih5 _ _ _ _ _ _
   | exact ih6 _ _ _ _ _ _ _
   | exact impl_AreasWithin.mono _ _ _ _ _
   | exact impl_OverlappingAreas.mono _ _
   | exact laws_hasInt.mono _ _ _
   | exact laws_hasRow.mono _ _ _ _
   | exact laws_likeInts.mono _ _ _
   | exact laws_likeRows.mono _ _ _
   | exact spec_AreasWithin.mono _ _ _ _ _
   | exact spec_DrawAreasWithin.mono _ _
   | exact spec_DrawOverlappingAreas.mono _ _
   | exact spec_OverlappingAreas.mono _ _
   | exact LeO.none _
   | refine LeO.ite ?_ ?_
   | refine LeO.bind ?_ (fun _ => ?_)
theorem laws_FnAreas.mono : ∀ a0 k, LeO (laws_FnAreas.f k a0) (laws_FnAreas.f (k + 1) a0) := by
 intro a0 k
 obtain ⟨ih0, ih1, ih2, ih3, ih4, ih5, ih6⟩ := laws_FnAreas.mono_l k
 unfold laws_FnAreas.f
 repeat' first
   | (with_reducible exact ih0 _ _ _ _ _ _ _ _ _ _)
   | (with_reducible exact ih1 _ _ _ _ _ _ _ _ _ _)
   | (with_reducible exact ih2 _ _ _ _ _ _ _ _ _ _ _)
   | (with_reducible exact ih3 _ _ _ _ _)
   | (with_reducible exact ih4 _ _ _ _ _ _)
   | (with_reducible exact ih5 _ _ _ _ _ _)
   | (with_reducible exact ih6 _ _ _ _ _ _ _)
   | (with_reducible exact impl_AreasWithin.mono _ _ _ _ _)
   | (with_reducible exact impl_OverlappingAreas.mono _ _)
   | (with_reducible exact laws_hasInt.mono _ _ _)
   | (with_reducible exact laws_hasRow.mono _ _ _ _)
   | (with_reducible exact laws_likeInts.mono _ _ _)
   | (with_reducible exact laws_likeRows.mono _ _ _)
   | (with_reducible exact spec_AreasWithin.mono _ _ _ _ _)
   | (with_reducible exact spec_DrawAreasWithin.mono _ _)
   | (with_reducible exact spec_DrawOverlappingAreas.mono _ _)
   | (with_reducible exact spec_OverlappingAreas.mono _ _)
   | (with_reducible exact LeO.refl _)
   | (with_reducible exact LeO.none _)
   | (with_reducible refine LeO.ite ?_ ?_)
   | (with_reducible refine LeO.bind ?_ (fun _ => ?_))
   | exact ih0 _ _ _ _ _ _ _ _ _ _
   | exact ih1 _ _ _ _ _ _ _ _ _ _
   | exact ih2 _ _ _ _ _ _ _ _ _ _ _
   | exact ih3 _ _ _ _ _
   | exact ih4 _ _ _ _ _ _
   | exact ih5 _ _ _ _ _ _
   | exact ih6 _ _ _ _ _ _ _
   | exact impl_AreasWithin.mono _ _ _ _ _
   | exact impl_OverlappingAreas.mono _ _
   | exact laws_hasInt.mono _ _ _
   | exact laws_hasRow.mono _ _ _ _
   | exact laws_likeInts.mono _ _ _
   | exact laws_likeRows.mono _ _ _
   | exact spec_AreasWithin.mono _ _ _ _ _
   | exact spec_DrawAreasWithin.mono _ _
   | exact spec_DrawOverlappingAreas.mono _ _
   | exact spec_OverlappingAreas.mono _ _
   | exact LeO.none _
   | refine LeO.ite ?_ ?_
   | refine LeO.bind ?_ (fun _ => ?_)
theorem laws_FnAreas.j0_true {k : Nat} {a0} {a1} {a2} {a3} {a4} {a5} {a6} {a7} {a8} {r : Bool} (h : laws_FnAreas.j0 k a0 a1 a2 a3 a4 a5 a6 a7 a8 true = some r) : false = r := by
 cases k with
 | zero => simp [laws_FnAreas.j0] at h
 | succ k => simpa [laws_FnAreas.j0] using h
set_option maxHeartbeats 8000000 in
set_option maxRecDepth 100000 in
theorem laws_FnAreas.calls (k : Nat) (A0 : Option Addr) (c0 : Nat) (l0 : List Int) (r : Bool) (w : World) (hr0 : Kd.C (Kd.int .u8) w A0 l0.length l0) (hc0 : l0.length ≤ c0) (h : laws_FnAreas.f k l0 = some r) (hT : r = true) :
  Calls Try.prog 10 #[.slice A0 l0.length c0] w fun e w' => e = .returned (.bool r) ∧ Below w.heap.size w w' := by
 have hu83 := Try.underlying83
 have HR0 := Aside0.mk hr0
 have HC0 := Aside0.mk hc0
 clear hr0 hc0
 have HB := Aside0.mk (Below.refl w.heap.size w)
 have H : ((laws_big.f l0).bind fun t325 => (if t325 = true then (some true) else ((spec_DrawAreasWithin.f k l0).bind fun bt326 => ((impl_AreasWithin.f k bt326.1 bt326.2.1 bt326.2.2.1 bt326.2.2.2).bind fun bt332 => ((spec_AreasWithin.f k bt326.1 bt326.2.1 bt326.2.2.1 bt326.2.2.2).bind fun bt336 => ((spec_DrawOverlappingAreas.f k l0).bind fun t340 => ((impl_OverlappingAreas.f k t340).bind fun bt343 => ((spec_OverlappingAreas.f k t340).bind fun bt347 => (if bt332.2 = bt336.2 then ((laws_likeInts.f k bt332.1 bt336.1).bind fun t351 => (if t351 = true then (if bt343.2 = bt347.2 then ((laws_likeRows.f k bt343.1 bt347.1).bind fun t352 => (laws_FnAreas.j0 k bt326.1 bt326.2.1 bt326.2.2.1 bt326.2.2.2 bt332.1 bt332.2 t340 bt343.1 bt343.2 (!t352))) else (laws_FnAreas.j0 k bt326.1 bt326.2.1 bt326.2.2.1 bt326.2.2.2 bt332.1 bt332.2 t340 bt343.1 bt343.2 true)) else (laws_FnAreas.j0 k bt326.1 bt326.2.1 bt326.2.2.1 bt326.2.2.2 bt332.1 bt332.2 t340 bt343.1 bt343.2 true))) else (laws_FnAreas.j0 k bt326.1 bt326.2.1 bt326.2.2.1 bt326.2.2.2 bt332.1 bt332.2 t340 bt343.1 bt343.2 true)))))))))) = some r := h
 clear h
 replace H := Option.bind_eq_some_iff.mp H
 obtain ⟨t325, A20, H⟩ := H
 replace H : (if t325 = true then (some true) else ((spec_DrawAreasWithin.f k l0).bind fun bt326 => ((impl_AreasWithin.f k bt326.1 bt326.2.1 bt326.2.2.1 bt326.2.2.2).bind fun bt332 => ((spec_AreasWithin.f k bt326.1 bt326.2.1 bt326.2.2.1 bt326.2.2.2).bind fun bt336 => ((spec_DrawOverlappingAreas.f k l0).bind fun t340 => ((impl_OverlappingAreas.f k t340).bind fun bt343 => ((spec_OverlappingAreas.f k t340).bind fun bt347 => (if bt332.2 = bt336.2 then ((laws_likeInts.f k bt332.1 bt336.1).bind fun t351 => (if t351 = true then (if bt343.2 = bt347.2 then ((laws_likeRows.f k bt343.1 bt347.1).bind fun t352 => (laws_FnAreas.j0 k bt326.1 bt326.2.1 bt326.2.2.1 bt326.2.2.2 bt332.1 bt332.2 t340 bt343.1 bt343.2 (!t352))) else (laws_FnAreas.j0 k bt326.1 bt326.2.1 bt326.2.2.1 bt326.2.2.2 bt332.1 bt332.2 t340 bt343.1 bt343.2 true)) else (laws_FnAreas.j0 k bt326.1 bt326.2.1 bt326.2.2.1 bt326.2.2.2 bt332.1 bt332.2 t340 bt343.1 bt343.2 true))) else (laws_FnAreas.j0 k bt326.1 bt326.2.1 bt326.2.2.1 bt326.2.2.2 bt332.1 bt332.2 t340 bt343.1 bt343.2 true))))))))) = some r := H
 have A2 := Aside0.mk A20
 clear A20
 by_cases c3 : t325 = true
 ·subst c3
  have H1 : (some true) = some r := by rw [if_pos rfl] at H; exact H
  clear H
  have H := H1
  clear H1
  obtain rfl := Option.some.inj H
  go_enter Try.func10, Try.ntmps10
  go_wp2_with (first | (go_at_call 29; (with_reducible refine (laws_big.calls _ _ l0 true _ ?side1 ?side2 A2.out).mono ?_); (case side1 => repeat (first | exact HR0.out | (with_reducible refine Kd.C_alloc ?_ _) | (with_reducible refine Kd.C_drewN ?_ _) | (with_reducible refine Kd.C_drew ?_))); (case side2 => exact HC0.out); rintro e w' ⟨rfl, ⟨nd, rfl⟩⟩; (try first | exact ⟨rfl, _, World.drewN_drewN _ _ _⟩ | exact ⟨rfl, _, Eq.trans (World.drewN_drewN _ _ _) (congrArg (World.drewN _) (Nat.add_assoc _ _ _))⟩)))
  repeat (go_quiet (first | (go_at_call 29; (with_reducible refine (laws_big.calls _ _ l0 true _ ?side1 ?side2 A2.out).mono ?_); (case side1 => repeat (first | exact HR0.out | (with_reducible refine Kd.C_alloc ?_ _) | (with_reducible refine Kd.C_drewN ?_ _) | (with_reducible refine Kd.C_drew ?_))); (case side2 => exact HC0.out); rintro e w' ⟨rfl, ⟨nd, rfl⟩⟩; (try first | exact ⟨rfl, _, World.drewN_drewN _ _ _⟩ | exact ⟨rfl, _, Eq.trans (World.drewN_drewN _ _ _) (congrArg (World.drewN _) (Nat.add_assoc _ _ _))⟩))); try go_wp2_with (first | (go_at_call 29; (with_reducible refine (laws_big.calls _ _ l0 true _ ?side1 ?side2 A2.out).mono ?_); (case side1 => repeat (first | exact HR0.out | (with_reducible refine Kd.C_alloc ?_ _) | (with_reducible refine Kd.C_drewN ?_ _) | (with_reducible refine Kd.C_drew ?_))); (case side2 => exact HC0.out); rintro e w' ⟨rfl, ⟨nd, rfl⟩⟩; (try first | exact ⟨rfl, _, World.drewN_drewN _ _ _⟩ | exact ⟨rfl, _, Eq.trans (World.drewN_drewN _ _ _) (congrArg (World.drewN _) (Nat.add_assoc _ _ _))⟩))))
  go_ret
  exact ⟨by first | rfl | (simp [errW_none, errW_some] <;> rfl) | (simp [*, errW_none, errW_some] <;> rfl), bl_ HB.out⟩
 ·as_aux_lemma =>
   replace c3 := Bool.eq_false_iff.mpr c3
   subst c3
   have H1 : ((spec_DrawAreasWithin.f k l0).bind fun bt326 => ((impl_AreasWithin.f k bt326.1 bt326.2.1 bt326.2.2.1 bt326.2.2.2).bind fun bt332 => ((spec_AreasWithin.f k bt326.1 bt326.2.1 bt326.2.2.1 bt326.2.2.2).bind fun bt336 => ((spec_DrawOverlappingAreas.f k l0).bind fun t340 => ((impl_OverlappingAreas.f k t340).bind fun bt343 => ((spec_OverlappingAreas.f k t340).bind fun bt347 => (if bt332.2 = bt336.2 then ((laws_likeInts.f k bt332.1 bt336.1).bind fun t351 => (if t351 = true then (if bt343.2 = bt347.2 then ((laws_likeRows.f k bt343.1 bt347.1).bind fun t352 => (laws_FnAreas.j0 k bt326.1 bt326.2.1 bt326.2.2.1 bt326.2.2.2 bt332.1 bt332.2 t340 bt343.1 bt343.2 (!t352))) else (laws_FnAreas.j0 k bt326.1 bt326.2.1 bt326.2.2.1 bt326.2.2.2 bt332.1 bt332.2 t340 bt343.1 bt343.2 true)) else (laws_FnAreas.j0 k bt326.1 bt326.2.1 bt326.2.2.1 bt326.2.2.2 bt332.1 bt332.2 t340 bt343.1 bt343.2 true))) else (laws_FnAreas.j0 k bt326.1 bt326.2.1 bt326.2.2.1 bt326.2.2.2 bt332.1 bt332.2 t340 bt343.1 bt343.2 true)))))))) = some r := by rw [if_neg (show ¬ (false = true) by decide)] at H; exact H
   clear H
   have H := H1
   clear H1
   replace H := Option.bind_eq_some_iff.mp H
   obtain ⟨⟨t326, t327, t328, t329⟩, A40, H⟩ := H
   replace H : ((impl_AreasWithin.f k t326 t327 t328 t329).bind fun bt332 => ((spec_AreasWithin.f k t326 t327 t328 t329).bind fun bt336 => ((spec_DrawOverlappingAreas.f k l0).bind fun t340 => ((impl_OverlappingAreas.f k t340).bind fun bt343 => ((spec_OverlappingAreas.f k t340).bind fun bt347 => (if bt332.2 = bt336.2 then ((laws_likeInts.f k bt332.1 bt336.1).bind fun t351 => (if t351 = true then (if bt343.2 = bt347.2 then ((laws_likeRows.f k bt343.1 bt347.1).bind fun t352 => (laws_FnAreas.j0 k t326 t327 t328 t329 bt332.1 bt332.2 t340 bt343.1 bt343.2 (!t352))) else (laws_FnAreas.j0 k t326 t327 t328 t329 bt332.1 bt332.2 t340 bt343.1 bt343.2 true)) else (laws_FnAreas.j0 k t326 t327 t328 t329 bt332.1 bt332.2 t340 bt343.1 bt343.2 true))) else (laws_FnAreas.j0 k t326 t327 t328 t329 bt332.1 bt332.2 t340 bt343.1 bt343.2 true))))))) = some r := H
   have A4 := Aside0.mk A40
   clear A40
   replace H := Option.bind_eq_some_iff.mp H
   obtain ⟨⟨t332, t333⟩, A50, H⟩ := H
   replace H : ((spec_AreasWithin.f k t326 t327 t328 t329).bind fun bt336 => ((spec_DrawOverlappingAreas.f k l0).bind fun t340 => ((impl_OverlappingAreas.f k t340).bind fun bt343 => ((spec_OverlappingAreas.f k t340).bind fun bt347 => (if t333 = bt336.2 then ((laws_likeInts.f k t332 bt336.1).bind fun t351 => (if t351 = true then (if bt343.2 = bt347.2 then ((laws_likeRows.f k bt343.1 bt347.1).bind fun t352 => (laws_FnAreas.j0 k t326 t327 t328 t329 t332 t333 t340 bt343.1 bt343.2 (!t352))) else (laws_FnAreas.j0 k t326 t327 t328 t329 t332 t333 t340 bt343.1 bt343.2 true)) else (laws_FnAreas.j0 k t326 t327 t328 t329 t332 t333 t340 bt343.1 bt343.2 true))) else (laws_FnAreas.j0 k t326 t327 t328 t329 t332 t333 t340 bt343.1 bt343.2 true)))))) = some r := H
   have A5 := Aside0.mk A50
   clear A50
   replace H := Option.bind_eq_some_iff.mp H
   obtain ⟨⟨t336, t337⟩, A60, H⟩ := H
   replace H : ((spec_DrawOverlappingAreas.f k l0).bind fun t340 => ((impl_OverlappingAreas.f k t340).bind fun bt343 => ((spec_OverlappingAreas.f k t340).bind fun bt347 => (if t333 = t337 then ((laws_likeInts.f k t332 t336).bind fun t351 => (if t351 = true then (if bt343.2 = bt347.2 then ((laws_likeRows.f k bt343.1 bt347.1).bind fun t352 => (laws_FnAreas.j0 k t326 t327 t328 t329 t332 t333 t340 bt343.1 bt343.2 (!t352))) else (laws_FnAreas.j0 k t326 t327 t328 t329 t332 t333 t340 bt343.1 bt343.2 true)) else (laws_FnAreas.j0 k t326 t327 t328 t329 t332 t333 t340 bt343.1 bt343.2 true))) else (laws_FnAreas.j0 k t326 t327 t328 t329 t332 t333 t340 bt343.1 bt343.2 true))))) = some r := H
   have A6 := Aside0.mk A60
   clear A60
   replace H := Option.bind_eq_some_iff.mp H
   obtain ⟨t340, A70, H⟩ := H
   replace H : ((impl_OverlappingAreas.f k t340).bind fun bt343 => ((spec_OverlappingAreas.f k t340).bind fun bt347 => (if t333 = t337 then ((laws_likeInts.f k t332 t336).bind fun t351 => (if t351 = true then (if bt343.2 = bt347.2 then ((laws_likeRows.f k bt343.1 bt347.1).bind fun t352 => (laws_FnAreas.j0 k t326 t327 t328 t329 t332 t333 t340 bt343.1 bt343.2 (!t352))) else (laws_FnAreas.j0 k t326 t327 t328 t329 t332 t333 t340 bt343.1 bt343.2 true)) else (laws_FnAreas.j0 k t326 t327 t328 t329 t332 t333 t340 bt343.1 bt343.2 true))) else (laws_FnAreas.j0 k t326 t327 t328 t329 t332 t333 t340 bt343.1 bt343.2 true)))) = some r := H
   have A7 := Aside0.mk A70
   clear A70
   replace H := Option.bind_eq_some_iff.mp H
   obtain ⟨⟨t343, t344⟩, A80, H⟩ := H
   replace H : ((spec_OverlappingAreas.f k t340).bind fun bt347 => (if t333 = t337 then ((laws_likeInts.f k t332 t336).bind fun t351 => (if t351 = true then (if t344 = bt347.2 then ((laws_likeRows.f k t343 bt347.1).bind fun t352 => (laws_FnAreas.j0 k t326 t327 t328 t329 t332 t333 t340 t343 t344 (!t352))) else (laws_FnAreas.j0 k t326 t327 t328 t329 t332 t333 t340 t343 t344 true)) else (laws_FnAreas.j0 k t326 t327 t328 t329 t332 t333 t340 t343 t344 true))) else (laws_FnAreas.j0 k t326 t327 t328 t329 t332 t333 t340 t343 t344 true))) = some r := H
   have A8 := Aside0.mk A80
   clear A80
   replace H := Option.bind_eq_some_iff.mp H
   obtain ⟨⟨t347, t348⟩, A90, H⟩ := H
   replace H : (if t333 = t337 then ((laws_likeInts.f k t332 t336).bind fun t351 => (if t351 = true then (if t344 = t348 then ((laws_likeRows.f k t343 t347).bind fun t352 => (laws_FnAreas.j0 k t326 t327 t328 t329 t332 t333 t340 t343 t344 (!t352))) else (laws_FnAreas.j0 k t326 t327 t328 t329 t332 t333 t340 t343 t344 true)) else (laws_FnAreas.j0 k t326 t327 t328 t329 t332 t333 t340 t343 t344 true))) else (laws_FnAreas.j0 k t326 t327 t328 t329 t332 t333 t340 t343 t344 true)) = some r := H
   have A9 := Aside0.mk A90
   clear A90
   have HC10 := Aside0.mk H
   clear H
   go_enter Try.func10, Try.ntmps10
   go_upto_region 9 with (first | (go_at_call 29; (with_reducible refine (laws_big.calls _ _ l0 false _ ?side1 ?side2 A2.out).mono ?_); (case side1 => repeat (first | exact HR0.out | (with_reducible refine Kd.C_alloc ?_ _) | (with_reducible refine Kd.C_drewN ?_ _) | (with_reducible refine Kd.C_drew ?_))); (case side2 => exact HC0.out); rintro e w' ⟨rfl, ⟨nd, rfl⟩⟩; (try first | exact ⟨rfl, _, World.drewN_drewN _ _ _⟩ | exact ⟨rfl, _, Eq.trans (World.drewN_drewN _ _ _) (congrArg (World.drewN _) (Nat.add_assoc _ _ _))⟩)) | (go_at_call 77; (with_reducible refine (spec_DrawAreasWithin.calls k _ _ l0 t326 t327 t328 t329 _ ?side1 ?side2 A4.out).mono ?_); (case side1 => repeat (first | exact HR0.out | (with_reducible refine Kd.C_alloc ?_ _) | (with_reducible refine Kd.C_drewN ?_ _) | (with_reducible refine Kd.C_drew ?_))); (case side2 => exact HC0.out); rintro e w11 ⟨v330, rfl, ho0, hb⟩; have n0_ := Aside0.mk (Kd.R_lower ho0 (below_size (bl_ HB.out))); have n1_ := Aside0.mk (below_step (bl_ HB.out) hb); clear HB; have HO331 := n0_; have HB := n1_; clear n0_ n1_; (try clear hb); (try clear hb2); (try clear hk); (try clear hi); (try clear ho0); obtain ⟨Ao12, co12, eo12⟩ := Kd.R_slice HO331.out; subst eo12) | (go_at_call 78; (with_reducible refine (impl_AreasWithin.calls k _ _ t326 t327 t328 t329 t332 t333 _ ?side1 ?side2 A5.out).mono ?_); (case side1 => repeat (first | exact (Kd.R_reads' HO331.out).2.2 | (with_reducible refine Kd.C_alloc ?_ _) | (with_reducible refine Kd.C_drewN ?_ _) | (with_reducible refine Kd.C_drew ?_))); (case side2 => exact (Kd.R_reads' HO331.out).2.1); rintro e w13 ⟨v334, rfl, ho0, hb⟩; have n0_ := Aside0.mk (Kd.R_below (by (with_reducible repeat (first | apply Kd.R_alloc | apply Kd.R_drewN | apply Kd.R_drew)); exact HO331.out) hb); have n1_ := Aside0.mk (Kd.R_lower ho0 (below_size (bl_ HB.out))); have n2_ := Aside0.mk (below_step (bl_ HB.out) hb); clear HO331; clear HB; have HO331 := n0_; have HO335 := n1_; have HB := n2_; clear n0_ n1_ n2_; (try clear hb); (try clear hb2); (try clear hk); (try clear hi); (try clear ho0)) | (go_at_call 79; (with_reducible refine (spec_AreasWithin.calls k _ _ t326 t327 t328 t329 t336 t337 _ ?side1 ?side2 A6.out).mono ?_); (case side1 => repeat (first | exact (Kd.R_reads' HO331.out).2.2 | (with_reducible refine Kd.C_alloc ?_ _) | (with_reducible refine Kd.C_drewN ?_ _) | (with_reducible refine Kd.C_drew ?_))); (case side2 => exact (Kd.R_reads' HO331.out).2.1); rintro e w14 ⟨v338, rfl, ho0, hb⟩; have n0_ := Aside0.mk (Kd.R_below (by (with_reducible repeat (first | apply Kd.R_alloc | apply Kd.R_drewN | apply Kd.R_drew)); exact HO331.out) hb); have n1_ := Aside0.mk (Kd.R_elder' (by (with_reducible repeat (first | apply Kd.R_alloc | apply Kd.R_drewN | apply Kd.R_drew)); exact HO335.out) (Kd.R_base ho0) hb); have n2_ := Aside0.mk (Kd.R_lower (Kd.R_new' ho0 (Kd.R_lt (by (with_reducible repeat (first | apply Kd.R_alloc | apply Kd.R_drewN | apply Kd.R_drew)); exact HO335.out))) (below_size (bl_ HB.out))); have n3_ := Aside0.mk (below_step (bl_ HB.out) hb); clear HO331; clear HO335; clear HB; have HO331 := n0_; have HO335 := n1_; have HO339 := n2_; have HB := n3_; clear n0_ n1_ n2_ n3_; (try clear hb); (try clear hb2); (try clear hk); (try clear hi); (try clear ho0)) | (go_at_call 80; (with_reducible refine (spec_DrawOverlappingAreas.calls k _ _ l0 t340 _ ?side1 ?side2 A7.out).mono ?_); (case side1 => repeat (first | exact (Kd.C_below HR0.out HB.out) | (with_reducible refine Kd.C_alloc ?_ _) | (with_reducible refine Kd.C_drewN ?_ _) | (with_reducible refine Kd.C_drew ?_))); (case side2 => exact HC0.out); rintro e w15 ⟨v341, rfl, ho0, hb⟩; have n0_ := Aside0.mk (Kd.R_elder' (by (with_reducible repeat (first | apply Kd.R_alloc | apply Kd.R_drewN | apply Kd.R_drew)); exact HO331.out) (Kd.R_base ho0) hb); have n1_ := Aside0.mk (Kd.R_below (by (with_reducible repeat (first | apply Kd.R_alloc | apply Kd.R_drewN | apply Kd.R_drew)); exact HO335.out) hb); have n2_ := Aside0.mk (Kd.R_below (by (with_reducible repeat (first | apply Kd.R_alloc | apply Kd.R_drewN | apply Kd.R_drew)); exact HO339.out) hb); have n3_ := Aside0.mk (Kd.R_lower (Kd.R_new' ho0 (Kd.R_lt (by (with_reducible repeat (first | apply Kd.R_alloc | apply Kd.R_drewN | apply Kd.R_drew)); exact HO331.out))) (below_size (bl_ HB.out))); have n4_ := Aside0.mk (below_step (bl_ HB.out) hb); clear HO331; clear HO335; clear HO339; clear HB; have HO331 := n0_; have HO335 := n1_; have HO339 := n2_; have HO342 := n3_; have HB := n4_; clear n0_ n1_ n2_ n3_ n4_; (try clear hb); (try clear hb2); (try clear hk); (try clear hi); (try clear ho0); obtain ⟨Ao16, co16, eo16⟩ := Kd.R_slice HO342.out; subst eo16) | (go_at_call 76; (with_reducible refine (impl_OverlappingAreas.calls k _ _ t340 t343 t344 _ ?side1 ?side2 A8.out).mono ?_); (case side1 => repeat (first | exact (Kd.R_reads' HO342.out).2.2 | (with_reducible refine Kd.C_alloc ?_ _) | (with_reducible refine Kd.C_drewN ?_ _) | (with_reducible refine Kd.C_drew ?_))); (case side2 => exact (Kd.R_reads' HO342.out).2.1); rintro e w17 ⟨v345, rfl, ho0, hb⟩; have n0_ := Aside0.mk (Kd.R_below (by (with_reducible repeat (first | apply Kd.R_alloc | apply Kd.R_drewN | apply Kd.R_drew)); exact HO331.out) hb); have n1_ := Aside0.mk (Kd.R_below (by (with_reducible repeat (first | apply Kd.R_alloc | apply Kd.R_drewN | apply Kd.R_drew)); exact HO335.out) hb); have n2_ := Aside0.mk (Kd.R_below (by (with_reducible repeat (first | apply Kd.R_alloc | apply Kd.R_drewN | apply Kd.R_drew)); exact HO339.out) hb); have n3_ := Aside0.mk (Kd.R_below (by (with_reducible repeat (first | apply Kd.R_alloc | apply Kd.R_drewN | apply Kd.R_drew)); exact HO342.out) hb); have n4_ := Aside0.mk (Kd.S_lower (Kd.S_new' (Kd.S_new' ho0 (Kd.R_lt (by (with_reducible repeat (first | apply Kd.R_alloc | apply Kd.R_drewN | apply Kd.R_drew)); exact HO335.out))) (Kd.R_lt (by (with_reducible repeat (first | apply Kd.R_alloc | apply Kd.R_drewN | apply Kd.R_drew)); exact HO339.out))) (below_size (bl_ HB.out))); have n5_ := Aside0.mk (below_step (bl_ HB.out) hb); clear HO331; clear HO335; clear HO339; clear HO342; clear HB; have HO331 := n0_; have HO335 := n1_; have HO339 := n2_; have HO342 := n3_; have HO346 := n4_; have HB := n5_; clear n0_ n1_ n2_ n3_ n4_ n5_; (try clear hb); (try clear hb2); (try clear hk); (try clear hi); (try clear ho0)) | (go_at_call 75; (with_reducible refine (spec_OverlappingAreas.calls k _ _ t340 t347 t348 _ ?side1 ?side2 A9.out).mono ?_); (case side1 => repeat (first | exact (Kd.R_reads' HO342.out).2.2 | (with_reducible refine Kd.C_alloc ?_ _) | (with_reducible refine Kd.C_drewN ?_ _) | (with_reducible refine Kd.C_drew ?_))); (case side2 => exact (Kd.R_reads' HO342.out).2.1); rintro e w18 ⟨v349, rfl, ho0, hb⟩; have n0_ := Aside0.mk (Kd.R_below (by (with_reducible repeat (first | apply Kd.R_alloc | apply Kd.R_drewN | apply Kd.R_drew)); exact HO331.out) hb); have n1_ := Aside0.mk (Kd.R_below (by (with_reducible repeat (first | apply Kd.R_alloc | apply Kd.R_drewN | apply Kd.R_drew)); exact HO335.out) hb); have n2_ := Aside0.mk (Kd.R_below (by (with_reducible repeat (first | apply Kd.R_alloc | apply Kd.R_drewN | apply Kd.R_drew)); exact HO339.out) hb); have n3_ := Aside0.mk (Kd.R_below (by (with_reducible repeat (first | apply Kd.R_alloc | apply Kd.R_drewN | apply Kd.R_drew)); exact HO342.out) hb); have n4_ := Aside0.mk (Kd.S_elder' (by (with_reducible repeat (first | apply Kd.S_alloc | apply Kd.S_drewN | apply Kd.S_drew)); exact HO346.out) (Kd.S_base ho0) hb); have n5_ := Aside0.mk (Kd.S_lower (Kd.S_new' (Kd.S_new' (Kd.S_new' ho0 (Kd.R_lt (by (with_reducible repeat (first | apply Kd.R_alloc | apply Kd.R_drewN | apply Kd.R_drew)); exact HO335.out))) (Kd.R_lt (by (with_reducible repeat (first | apply Kd.R_alloc | apply Kd.R_drewN | apply Kd.R_drew)); exact HO339.out))) (Kd.S_lt (by (with_reducible repeat (first | apply Kd.S_alloc | apply Kd.S_drewN | apply Kd.S_drew)); exact HO346.out))) (below_size (bl_ HB.out))); have n6_ := Aside0.mk (below_step (bl_ HB.out) hb); clear HO331; clear HO335; clear HO339; clear HO342; clear HO346; clear HB; have HO331 := n0_; have HO335 := n1_; have HO339 := n2_; have HO342 := n3_; have HO346 := n4_; have HO350 := n5_; have HB := n6_; clear n0_ n1_ n2_ n3_ n4_ n5_ n6_; (try clear hb); (try clear hb2); (try clear hk); (try clear hi); (try clear ho0)))
   repeat (go_quiet (first | (go_at_call 29; (with_reducible refine (laws_big.calls _ _ l0 false _ ?side1 ?side2 A2.out).mono ?_); (case side1 => repeat (first | exact HR0.out | (with_reducible refine Kd.C_alloc ?_ _) | (with_reducible refine Kd.C_drewN ?_ _) | (with_reducible refine Kd.C_drew ?_))); (case side2 => exact HC0.out); rintro e w' ⟨rfl, ⟨nd, rfl⟩⟩; (try first | exact ⟨rfl, _, World.drewN_drewN _ _ _⟩ | exact ⟨rfl, _, Eq.trans (World.drewN_drewN _ _ _) (congrArg (World.drewN _) (Nat.add_assoc _ _ _))⟩)) | (go_at_call 77; (with_reducible refine (spec_DrawAreasWithin.calls k _ _ l0 t326 t327 t328 t329 _ ?side1 ?side2 A4.out).mono ?_); (case side1 => repeat (first | exact HR0.out | (with_reducible refine Kd.C_alloc ?_ _) | (with_reducible refine Kd.C_drewN ?_ _) | (with_reducible refine Kd.C_drew ?_))); (case side2 => exact HC0.out); rintro e w11 ⟨v330, rfl, ho0, hb⟩; have n0_ := Aside0.mk (Kd.R_lower ho0 (below_size (bl_ HB.out))); have n1_ := Aside0.mk (below_step (bl_ HB.out) hb); clear HB; have HO331 := n0_; have HB := n1_; clear n0_ n1_; (try clear hb); (try clear hb2); (try clear hk); (try clear hi); (try clear ho0); obtain ⟨Ao12, co12, eo12⟩ := Kd.R_slice HO331.out; subst eo12) | (go_at_call 78; (with_reducible refine (impl_AreasWithin.calls k _ _ t326 t327 t328 t329 t332 t333 _ ?side1 ?side2 A5.out).mono ?_); (case side1 => repeat (first | exact (Kd.R_reads' HO331.out).2.2 | (with_reducible refine Kd.C_alloc ?_ _) | (with_reducible refine Kd.C_drewN ?_ _) | (with_reducible refine Kd.C_drew ?_))); (case side2 => exact (Kd.R_reads' HO331.out).2.1); rintro e w13 ⟨v334, rfl, ho0, hb⟩; have n0_ := Aside0.mk (Kd.R_below (by (with_reducible repeat (first | apply Kd.R_alloc | apply Kd.R_drewN | apply Kd.R_drew)); exact HO331.out) hb); have n1_ := Aside0.mk (Kd.R_lower ho0 (below_size (bl_ HB.out))); have n2_ := Aside0.mk (below_step (bl_ HB.out) hb); clear HO331; clear HB; have HO331 := n0_; have HO335 := n1_; have HB := n2_; clear n0_ n1_ n2_; (try clear hb); (try clear hb2); (try clear hk); (try clear hi); (try clear ho0)) | (go_at_call 79; (with_reducible refine (spec_AreasWithin.calls k _ _ t326 t327 t328 t329 t336 t337 _ ?side1 ?side2 A6.out).mono ?_); (case side1 => repeat (first | exact (Kd.R_reads' HO331.out).2.2 | (with_reducible refine Kd.C_alloc ?_ _) | (with_reducible refine Kd.C_drewN ?_ _) | (with_reducible refine Kd.C_drew ?_))); (case side2 => exact (Kd.R_reads' HO331.out).2.1); rintro e w14 ⟨v338, rfl, ho0, hb⟩; have n0_ := Aside0.mk (Kd.R_below (by (with_reducible repeat (first | apply Kd.R_alloc | apply Kd.R_drewN | apply Kd.R_drew)); exact HO331.out) hb); have n1_ := Aside0.mk (Kd.R_elder' (by (with_reducible repeat (first | apply Kd.R_alloc | apply Kd.R_drewN | apply Kd.R_drew)); exact HO335.out) (Kd.R_base ho0) hb); have n2_ := Aside0.mk (Kd.R_lower (Kd.R_new' ho0 (Kd.R_lt (by (with_reducible repeat (first | apply Kd.R_alloc | apply Kd.R_drewN | apply Kd.R_drew)); exact HO335.out))) (below_size (bl_ HB.out))); have n3_ := Aside0.mk (below_step (bl_ HB.out) hb); clear HO331; clear HO335; clear HB; have HO331 := n0_; have HO335 := n1_; have HO339 := n2_; have HB := n3_; clear n0_ n1_ n2_ n3_; (try clear hb); (try clear hb2); (try clear hk); (try clear hi); (try clear ho0)) | (go_at_call 80; (with_reducible refine (spec_DrawOverlappingAreas.calls k _ _ l0 t340 _ ?side1 ?side2 A7.out).mono ?_); (case side1 => repeat (first | exact (Kd.C_below HR0.out HB.out) | (with_reducible refine Kd.C_alloc ?_ _) | (with_reducible refine Kd.C_drewN ?_ _) | (with_reducible refine Kd.C_drew ?_))); (case side2 => exact HC0.out); rintro e w15 ⟨v341, rfl, ho0, hb⟩; have n0_ := Aside0.mk (Kd.R_elder' (by (with_reducible repeat (first | apply Kd.R_alloc | apply Kd.R_drewN | apply Kd.R_drew)); exact HO331.out) (Kd.R_base ho0) hb); have n1_ := Aside0.mk (Kd.R_below (by (with_reducible repeat (first | apply Kd.R_alloc | apply Kd.R_drewN | apply Kd.R_drew)); exact HO335.out) hb); have n2_ := Aside0.mk (Kd.R_below (by (with_reducible repeat (first | apply Kd.R_alloc | apply Kd.R_drewN | apply Kd.R_drew)); exact HO339.out) hb); have n3_ := Aside0.mk (Kd.R_lower (Kd.R_new' ho0 (Kd.R_lt (by (with_reducible repeat (first | apply Kd.R_alloc | apply Kd.R_drewN | apply Kd.R_drew)); exact HO331.out))) (below_size (bl_ HB.out))); have n4_ := Aside0.mk (below_step (bl_ HB.out) hb); clear HO331; clear HO335; clear HO339; clear HB; have HO331 := n0_; have HO335 := n1_; have HO339 := n2_; have HO342 := n3_; have HB := n4_; clear n0_ n1_ n2_ n3_ n4_; (try clear hb); (try clear hb2); (try clear hk); (try clear hi); (try clear ho0); obtain ⟨Ao16, co16, eo16⟩ := Kd.R_slice HO342.out; subst eo16) | (go_at_call 76; (with_reducible refine (impl_OverlappingAreas.calls k _ _ t340 t343 t344 _ ?side1 ?side2 A8.out).mono ?_); (case side1 => repeat (first | exact (Kd.R_reads' HO342.out).2.2 | (with_reducible refine Kd.C_alloc ?_ _) | (with_reducible refine Kd.C_drewN ?_ _) | (with_reducible refine Kd.C_drew ?_))); (case side2 => exact (Kd.R_reads' HO342.out).2.1); rintro e w17 ⟨v345, rfl, ho0, hb⟩; have n0_ := Aside0.mk (Kd.R_below (by (with_reducible repeat (first | apply Kd.R_alloc | apply Kd.R_drewN | apply Kd.R_drew)); exact HO331.out) hb); have n1_ := Aside0.mk (Kd.R_below (by (with_reducible repeat (first | apply Kd.R_alloc | apply Kd.R_drewN | apply Kd.R_drew)); exact HO335.out) hb); have n2_ := Aside0.mk (Kd.R_below (by (with_reducible repeat (first | apply Kd.R_alloc | apply Kd.R_drewN | apply Kd.R_drew)); exact HO339.out) hb); have n3_ := Aside0.mk (Kd.R_below (by (with_reducible repeat (first | apply Kd.R_alloc | apply Kd.R_drewN | apply Kd.R_drew)); exact HO342.out) hb); have n4_ := Aside0.mk (Kd.S_lower (Kd.S_new' (Kd.S_new' ho0 (Kd.R_lt (by (with_reducible repeat (first | apply Kd.R_alloc | apply Kd.R_drewN | apply Kd.R_drew)); exact HO335.out))) (Kd.R_lt (by (with_reducible repeat (first | apply Kd.R_alloc | apply Kd.R_drewN | apply Kd.R_drew)); exact HO339.out))) (below_size (bl_ HB.out))); have n5_ := Aside0.mk (below_step (bl_ HB.out) hb); clear HO331; clear HO335; clear HO339; clear HO342; clear HB; have HO331 := n0_; have HO335 := n1_; have HO339 := n2_; have HO342 := n3_; have HO346 := n4_; have HB := n5_; clear n0_ n1_ n2_ n3_ n4_ n5_; (try clear hb); (try clear hb2); (try clear hk); (try clear hi); (try clear ho0)) | (go_at_call 75; (with_reducible refine (spec_OverlappingAreas.calls k _ _ t340 t347 t348 _ ?side1 ?side2 A9.out).mono ?_); (case side1 => repeat (first | exact (Kd.R_reads' HO342.out).2.2 | (with_reducible refine Kd.C_alloc ?_ _) | (with_reducible refine Kd.C_drewN ?_ _) | (with_reducible refine Kd.C_drew ?_))); (case side2 => exact (Kd.R_reads' HO342.out).2.1); rintro e w18 ⟨v349, rfl, ho0, hb⟩; have n0_ := Aside0.mk (Kd.R_below (by (with_reducible repeat (first | apply Kd.R_alloc | apply Kd.R_drewN | apply Kd.R_drew)); exact HO331.out) hb); have n1_ := Aside0.mk (Kd.R_below (by (with_reducible repeat (first | apply Kd.R_alloc | apply Kd.R_drewN | apply Kd.R_drew)); exact HO335.out) hb); have n2_ := Aside0.mk (Kd.R_below (by (with_reducible repeat (first | apply Kd.R_alloc | apply Kd.R_drewN | apply Kd.R_drew)); exact HO339.out) hb); have n3_ := Aside0.mk (Kd.R_below (by (with_reducible repeat (first | apply Kd.R_alloc | apply Kd.R_drewN | apply Kd.R_drew)); exact HO342.out) hb); have n4_ := Aside0.mk (Kd.S_elder' (by (with_reducible repeat (first | apply Kd.S_alloc | apply Kd.S_drewN | apply Kd.S_drew)); exact HO346.out) (Kd.S_base ho0) hb); have n5_ := Aside0.mk (Kd.S_lower (Kd.S_new' (Kd.S_new' (Kd.S_new' ho0 (Kd.R_lt (by (with_reducible repeat (first | apply Kd.R_alloc | apply Kd.R_drewN | apply Kd.R_drew)); exact HO335.out))) (Kd.R_lt (by (with_reducible repeat (first | apply Kd.R_alloc | apply Kd.R_drewN | apply Kd.R_drew)); exact HO339.out))) (Kd.S_lt (by (with_reducible repeat (first | apply Kd.S_alloc | apply Kd.S_drewN | apply Kd.S_drew)); exact HO346.out))) (below_size (bl_ HB.out))); have n6_ := Aside0.mk (below_step (bl_ HB.out) hb); clear HO331; clear HO335; clear HO339; clear HO342; clear HO346; clear HB; have HO331 := n0_; have HO335 := n1_; have HO339 := n2_; have HO342 := n3_; have HO346 := n4_; have HO350 := n5_; have HB := n6_; clear n0_ n1_ n2_ n3_ n4_ n5_ n6_; (try clear hb); (try clear hb2); (try clear hk); (try clear hi); (try clear ho0))); go_upto_region 9 with (first | (go_at_call 29; (with_reducible refine (laws_big.calls _ _ l0 false _ ?side1 ?side2 A2.out).mono ?_); (case side1 => repeat (first | exact HR0.out | (with_reducible refine Kd.C_alloc ?_ _) | (with_reducible refine Kd.C_drewN ?_ _) | (with_reducible refine Kd.C_drew ?_))); (case side2 => exact HC0.out); rintro e w' ⟨rfl, ⟨nd, rfl⟩⟩; (try first | exact ⟨rfl, _, World.drewN_drewN _ _ _⟩ | exact ⟨rfl, _, Eq.trans (World.drewN_drewN _ _ _) (congrArg (World.drewN _) (Nat.add_assoc _ _ _))⟩)) | (go_at_call 77; (with_reducible refine (spec_DrawAreasWithin.calls k _ _ l0 t326 t327 t328 t329 _ ?side1 ?side2 A4.out).mono ?_); (case side1 => repeat (first | exact HR0.out | (with_reducible refine Kd.C_alloc ?_ _) | (with_reducible refine Kd.C_drewN ?_ _) | (with_reducible refine Kd.C_drew ?_))); (case side2 => exact HC0.out); rintro e w11 ⟨v330, rfl, ho0, hb⟩; have n0_ := Aside0.mk (Kd.R_lower ho0 (below_size (bl_ HB.out))); have n1_ := Aside0.mk (below_step (bl_ HB.out) hb); clear HB; have HO331 := n0_; have HB := n1_; clear n0_ n1_; (try clear hb); (try clear hb2); (try clear hk); (try clear hi); (try clear ho0); obtain ⟨Ao12, co12, eo12⟩ := Kd.R_slice HO331.out; subst eo12) | (go_at_call 78; (with_reducible refine (impl_AreasWithin.calls k _ _ t326 t327 t328 t329 t332 t333 _ ?side1 ?side2 A5.out).mono ?_); (case side1 => repeat (first | exact (Kd.R_reads' HO331.out).2.2 | (with_reducible refine Kd.C_alloc ?_ _) | (with_reducible refine Kd.C_drewN ?_ _) | (with_reducible refine Kd.C_drew ?_))); (case side2 => exact (Kd.R_reads' HO331.out).2.1); rintro e w13 ⟨v334, rfl, ho0, hb⟩; have n0_ := Aside0.mk (Kd.R_below (by (with_reducible repeat (first | apply Kd.R_alloc | apply Kd.R_drewN | apply Kd.R_drew)); exact HO331.out) hb); have n1_ := Aside0.mk (Kd.R_lower ho0 (below_size (bl_ HB.out))); have n2_ := Aside0.mk (below_step (bl_ HB.out) hb); clear HO331; clear HB; have HO331 := n0_; have HO335 := n1_; have HB := n2_; clear n0_ n1_ n2_; (try clear hb); (try clear hb2); (try clear hk); (try clear hi); (try clear ho0)) | (go_at_call 79; (with_reducible refine (spec_AreasWithin.calls k _ _ t326 t327 t328 t329 t336 t337 _ ?side1 ?side2 A6.out).mono ?_); (case side1 => repeat (first | exact (Kd.R_reads' HO331.out).2.2 | (with_reducible refine Kd.C_alloc ?_ _) | (with_reducible refine Kd.C_drewN ?_ _) | (with_reducible refine Kd.C_drew ?_))); (case side2 => exact (Kd.R_reads' HO331.out).2.1); rintro e w14 ⟨v338, rfl, ho0, hb⟩; have n0_ := Aside0.mk (Kd.R_below (by (with_reducible repeat (first | apply Kd.R_alloc | apply Kd.R_drewN | apply Kd.R_drew)); exact HO331.out) hb); have n1_ := Aside0.mk (Kd.R_elder' (by (with_reducible repeat (first | apply Kd.R_alloc | apply Kd.R_drewN | apply Kd.R_drew)); exact HO335.out) (Kd.R_base ho0) hb); have n2_ := Aside0.mk (Kd.R_lower (Kd.R_new' ho0 (Kd.R_lt (by (with_reducible repeat (first | apply Kd.R_alloc | apply Kd.R_drewN | apply Kd.R_drew)); exact HO335.out))) (below_size (bl_ HB.out))); have n3_ := Aside0.mk (below_step (bl_ HB.out) hb); clear HO331; clear HO335; clear HB; have HO331 := n0_; have HO335 := n1_; have HO339 := n2_; have HB := n3_; clear n0_ n1_ n2_ n3_; (try clear hb); (try clear hb2); (try clear hk); (try clear hi); (try clear ho0)) | (go_at_call 80; (with_reducible refine (spec_DrawOverlappingAreas.calls k _ _ l0 t340 _ ?side1 ?side2 A7.out).mono ?_); (case side1 => repeat (first | exact (Kd.C_below HR0.out HB.out) | (with_reducible refine Kd.C_alloc ?_ _) | (with_reducible refine Kd.C_drewN ?_ _) | (with_reducible refine Kd.C_drew ?_))); (case side2 => exact HC0.out); rintro e w15 ⟨v341, rfl, ho0, hb⟩; have n0_ := Aside0.mk (Kd.R_elder' (by (with_reducible repeat (first | apply Kd.R_alloc | apply Kd.R_drewN | apply Kd.R_drew)); exact HO331.out) (Kd.R_base ho0) hb); have n1_ := Aside0.mk (Kd.R_below (by (with_reducible repeat (first | apply Kd.R_alloc | apply Kd.R_drewN | apply Kd.R_drew)); exact HO335.out) hb); have n2_ := Aside0.mk (Kd.R_below (by (with_reducible repeat (first | apply Kd.R_alloc | apply Kd.R_drewN | apply Kd.R_drew)); exact HO339.out) hb); have n3_ := Aside0.mk (Kd.R_lower (Kd.R_new' ho0 (Kd.R_lt (by (with_reducible repeat (first | apply Kd.R_alloc | apply Kd.R_drewN | apply Kd.R_drew)); exact HO331.out))) (below_size (bl_ HB.out))); have n4_ := Aside0.mk (below_step (bl_ HB.out) hb); clear HO331; clear HO335; clear HO339; clear HB; have HO331 := n0_; have HO335 := n1_; have HO339 := n2_; have HO342 := n3_; have HB := n4_; clear n0_ n1_ n2_ n3_ n4_; (try clear hb); (try clear hb2); (try clear hk); (try clear hi); (try clear ho0); obtain ⟨Ao16, co16, eo16⟩ := Kd.R_slice HO342.out; subst eo16) | (go_at_call 76; (with_reducible refine (impl_OverlappingAreas.calls k _ _ t340 t343 t344 _ ?side1 ?side2 A8.out).mono ?_); (case side1 => repeat (first | exact (Kd.R_reads' HO342.out).2.2 | (with_reducible refine Kd.C_alloc ?_ _) | (with_reducible refine Kd.C_drewN ?_ _) | (with_reducible refine Kd.C_drew ?_))); (case side2 => exact (Kd.R_reads' HO342.out).2.1); rintro e w17 ⟨v345, rfl, ho0, hb⟩; have n0_ := Aside0.mk (Kd.R_below (by (with_reducible repeat (first | apply Kd.R_alloc | apply Kd.R_drewN | apply Kd.R_drew)); exact HO331.out) hb); have n1_ := Aside0.mk (Kd.R_below (by (with_reducible repeat (first | apply Kd.R_alloc | apply Kd.R_drewN | apply Kd.R_drew)); exact HO335.out) hb); have n2_ := Aside0.mk (Kd.R_below (by (with_reducible repeat (first | apply Kd.R_alloc | apply Kd.R_drewN | apply Kd.R_drew)); exact HO339.out) hb); have n3_ := Aside0.mk (Kd.R_below (by (with_reducible repeat (first | apply Kd.R_alloc | apply Kd.R_drewN | apply Kd.R_drew)); exact HO342.out) hb); have n4_ := Aside0.mk (Kd.S_lower (Kd.S_new' (Kd.S_new' ho0 (Kd.R_lt (by (with_reducible repeat (first | apply Kd.R_alloc | apply Kd.R_drewN | apply Kd.R_drew)); exact HO335.out))) (Kd.R_lt (by (with_reducible repeat (first | apply Kd.R_alloc | apply Kd.R_drewN | apply Kd.R_drew)); exact HO339.out))) (below_size (bl_ HB.out))); have n5_ := Aside0.mk (below_step (bl_ HB.out) hb); clear HO331; clear HO335; clear HO339; clear HO342; clear HB; have HO331 := n0_; have HO335 := n1_; have HO339 := n2_; have HO342 := n3_; have HO346 := n4_; have HB := n5_; clear n0_ n1_ n2_ n3_ n4_ n5_; (try clear hb); (try clear hb2); (try clear hk); (try clear hi); (try clear ho0)) | (go_at_call 75; (with_reducible refine (spec_OverlappingAreas.calls k _ _ t340 t347 t348 _ ?side1 ?side2 A9.out).mono ?_); (case side1 => repeat (first | exact (Kd.R_reads' HO342.out).2.2 | (with_reducible refine Kd.C_alloc ?_ _) | (with_reducible refine Kd.C_drewN ?_ _) | (with_reducible refine Kd.C_drew ?_))); (case side2 => exact (Kd.R_reads' HO342.out).2.1); rintro e w18 ⟨v349, rfl, ho0, hb⟩; have n0_ := Aside0.mk (Kd.R_below (by (with_reducible repeat (first | apply Kd.R_alloc | apply Kd.R_drewN | apply Kd.R_drew)); exact HO331.out) hb); have n1_ := Aside0.mk (Kd.R_below (by (with_reducible repeat (first | apply Kd.R_alloc | apply Kd.R_drewN | apply Kd.R_drew)); exact HO335.out) hb); have n2_ := Aside0.mk (Kd.R_below (by (with_reducible repeat (first | apply Kd.R_alloc | apply Kd.R_drewN | apply Kd.R_drew)); exact HO339.out) hb); have n3_ := Aside0.mk (Kd.R_below (by (with_reducible repeat (first | apply Kd.R_alloc | apply Kd.R_drewN | apply Kd.R_drew)); exact HO342.out) hb); have n4_ := Aside0.mk (Kd.S_elder' (by (with_reducible repeat (first | apply Kd.S_alloc | apply Kd.S_drewN | apply Kd.S_drew)); exact HO346.out) (Kd.S_base ho0) hb); have n5_ := Aside0.mk (Kd.S_lower (Kd.S_new' (Kd.S_new' (Kd.S_new' ho0 (Kd.R_lt (by (with_reducible repeat (first | apply Kd.R_alloc | apply Kd.R_drewN | apply Kd.R_drew)); exact HO335.out))) (Kd.R_lt (by (with_reducible repeat (first | apply Kd.R_alloc | apply Kd.R_drewN | apply Kd.R_drew)); exact HO339.out))) (Kd.S_lt (by (with_reducible repeat (first | apply Kd.S_alloc | apply Kd.S_drewN | apply Kd.S_drew)); exact HO346.out))) (below_size (bl_ HB.out))); have n6_ := Aside0.mk (below_step (bl_ HB.out) hb); clear HO331; clear HO335; clear HO339; clear HO342; clear HO346; clear HB; have HO331 := n0_; have HO335 := n1_; have HO339 := n2_; have HO342 := n3_; have HO346 := n4_; have HO350 := n5_; have HB := n6_; clear n0_ n1_ n2_ n3_ n4_ n5_ n6_; (try clear hb); (try clear hb2); (try clear hk); (try clear hi); (try clear ho0))))
   (try simp only [Act.put, List.setIfInBounds_toArray, List.set_cons_zero, List.set_cons_succ])
   go_cut [79] (fun v79 wc => ∃ (kq : Nat) (x79_9 : Bool), v79 = .bool x79_9 ∧ Aside0 (laws_FnAreas.j0 kq t326 t327 t328 t329 t332 t333 t340 t343 t344 x79_9 = some r) ∧ Aside0 (kq ≤ k) ∧ Aside0 (Kd.R k83 83 wc w.heap.size (fun k_ => some k_ ≠ ((.slice Ao16 t340.length co16) : Value).ownBlock) (.slice Ao12 t326.length co12) t326) ∧ Aside0 (Kd.R (Kd.int .i64) 2 wc w.heap.size (fun _ => True) v334 t332) ∧ Aside0 (Kd.R k83 83 wc w.heap.size (fun k_ => some k_ ≠ ((.slice Ao12 t326.length co12) : Value).ownBlock) (.slice Ao16 t340.length co16) t340) ∧ Aside0 (Kd.S (Kd.slice 2 (Kd.int .i64)) 24 wc w.heap.size (fun k_ => some k_ ≠ (v334 : Value).ownBlock) v345 t343) ∧ Aside0 (Below w.heap.size w wc))
   case first =>
    as_aux_lemma =>
     have H := HC10.out
     clear HC10
     by_cases c19 : t333 = t337
     case neg =>
      rw [if_neg c19] at H
      have c19b0 : (t333 == t337) = false := beq_eq_false_iff_ne.mpr c19
      have c19b1 : (t333 != t337) = true := bne_iff_ne.mpr c19
      (first | rw [c19b0] | (simp only [i64_w, i32_w]; rw [c19b0]) | skip)
      exact absurd ((laws_FnAreas.j0_true H).trans hT) (by decide)
     rw [if_pos c19] at H
     have c19b0 : (t333 == t337) = true := beq_iff_eq.mpr c19
     have c19b1 : (t333 != t337) = false := bne_eq_false_iff_eq.mpr c19
     clear c19
     (first | rw [c19b0] | (simp only [i64_w, i32_w]; rw [c19b0]) | skip)
     replace H := Option.bind_eq_some_iff.mp H
     obtain ⟨t351, A200, H⟩ := H
     replace H : (if t351 = true then (if t344 = t348 then ((laws_likeRows.f k t343 t347).bind fun t352 => (laws_FnAreas.j0 k t326 t327 t328 t329 t332 t333 t340 t343 t344 (!t352))) else (laws_FnAreas.j0 k t326 t327 t328 t329 t332 t333 t340 t343 t344 true)) else (laws_FnAreas.j0 k t326 t327 t328 t329 t332 t333 t340 t343 t344 true)) = some r := H
     have A20 := Aside0.mk A200
     clear A200
     by_cases c21 : t351 = true
     ·subst c21
      have H1 : (if t344 = t348 then ((laws_likeRows.f k t343 t347).bind fun t352 => (laws_FnAreas.j0 k t326 t327 t328 t329 t332 t333 t340 t343 t344 (!t352))) else (laws_FnAreas.j0 k t326 t327 t328 t329 t332 t333 t340 t343 t344 true)) = some r := by rw [if_pos rfl] at H; exact H
      clear H
      have H := H1
      clear H1
      by_cases c22 : t344 = t348
      case neg =>
       rw [if_neg c22] at H
       have c22b0 : (t344 == t348) = false := beq_eq_false_iff_ne.mpr c22
       have c22b1 : (t344 != t348) = true := bne_iff_ne.mpr c22
       exact absurd ((laws_FnAreas.j0_true H).trans hT) (by decide)
      rw [if_pos c22] at H
      have c22b0 : (t344 == t348) = true := beq_iff_eq.mpr c22
      have c22b1 : (t344 != t348) = false := bne_eq_false_iff_eq.mpr c22
      clear c22
      replace H := Option.bind_eq_some_iff.mp H
      obtain ⟨t352, A230, H⟩ := H
      replace H : (laws_FnAreas.j0 k t326 t327 t328 t329 t332 t333 t340 t343 t344 (!t352)) = some r := H
      have A23 := Aside0.mk A230
      clear A230
      have H' := Aside0.mk H
      clear H
      obtain ⟨Ao24, co24, eo24⟩ := Kd.R_slice HO335.out
      subst eo24
      obtain ⟨Ao25, co25, eo25⟩ := Kd.R_slice HO339.out
      subst eo25
      go_wp2_with (first | (go_at_call 43; (with_reducible refine (laws_likeInts.calls k _ _ t332 _ _ t336 true _ ?side1 ?side2 ?side3 ?side4 A20.out).mono ?_); (case side1 => repeat (first | exact (Kd.R_reads' HO335.out).2.2 | (with_reducible refine Kd.C_alloc ?_ _) | (with_reducible refine Kd.C_drewN ?_ _) | (with_reducible refine Kd.C_drew ?_))); (case side2 => exact (Kd.R_reads' HO335.out).2.1); (case side3 => repeat (first | exact (Kd.R_reads' HO339.out).2.2 | (with_reducible refine Kd.C_alloc ?_ _) | (with_reducible refine Kd.C_drewN ?_ _) | (with_reducible refine Kd.C_drew ?_))); (case side4 => exact (Kd.R_reads' HO339.out).2.1); rintro e w' ⟨rfl, ⟨nd, rfl⟩⟩; (try first | exact ⟨rfl, _, World.drewN_drewN _ _ _⟩ | exact ⟨rfl, _, Eq.trans (World.drewN_drewN _ _ _) (congrArg (World.drewN _) (Nat.add_assoc _ _ _))⟩); obtain ⟨Ao26, co26, eo26⟩ := Kd.S_slice HO346.out; subst eo26; obtain ⟨Ao27, co27, eo27⟩ := Kd.S_slice HO350.out; subst eo27) | (go_at_call 81; (with_reducible refine (laws_likeRows.calls k _ _ t343 _ _ t347 t352 _ ?side1 ?side2 ?side3 ?side4 A23.out).mono ?_); (case side1 => repeat (first | exact (Kd.S_reads' HO346.out).2.2 | (with_reducible refine Kd.C_alloc ?_ _) | (with_reducible refine Kd.C_drewN ?_ _) | (with_reducible refine Kd.C_drew ?_))); (case side2 => exact (Kd.S_reads' HO346.out).2.1); (case side3 => repeat (first | exact (Kd.S_reads' HO350.out).2.2 | (with_reducible refine Kd.C_alloc ?_ _) | (with_reducible refine Kd.C_drewN ?_ _) | (with_reducible refine Kd.C_drew ?_))); (case side4 => exact (Kd.S_reads' HO350.out).2.1); rintro e w' ⟨rfl, ⟨nd, rfl⟩⟩; (try first | exact ⟨rfl, _, World.drewN_drewN _ _ _⟩ | exact ⟨rfl, _, Eq.trans (World.drewN_drewN _ _ _) (congrArg (World.drewN _) (Nat.add_assoc _ _ _))⟩)))
      repeat (go_quiet (first | (go_at_call 43; (with_reducible refine (laws_likeInts.calls k _ _ t332 _ _ t336 true _ ?side1 ?side2 ?side3 ?side4 A20.out).mono ?_); (case side1 => repeat (first | exact (Kd.R_reads' HO335.out).2.2 | (with_reducible refine Kd.C_alloc ?_ _) | (with_reducible refine Kd.C_drewN ?_ _) | (with_reducible refine Kd.C_drew ?_))); (case side2 => exact (Kd.R_reads' HO335.out).2.1); (case side3 => repeat (first | exact (Kd.R_reads' HO339.out).2.2 | (with_reducible refine Kd.C_alloc ?_ _) | (with_reducible refine Kd.C_drewN ?_ _) | (with_reducible refine Kd.C_drew ?_))); (case side4 => exact (Kd.R_reads' HO339.out).2.1); rintro e w' ⟨rfl, ⟨nd, rfl⟩⟩; (try first | exact ⟨rfl, _, World.drewN_drewN _ _ _⟩ | exact ⟨rfl, _, Eq.trans (World.drewN_drewN _ _ _) (congrArg (World.drewN _) (Nat.add_assoc _ _ _))⟩); obtain ⟨Ao26, co26, eo26⟩ := Kd.S_slice HO346.out; subst eo26; obtain ⟨Ao27, co27, eo27⟩ := Kd.S_slice HO350.out; subst eo27) | (go_at_call 81; (with_reducible refine (laws_likeRows.calls k _ _ t343 _ _ t347 t352 _ ?side1 ?side2 ?side3 ?side4 A23.out).mono ?_); (case side1 => repeat (first | exact (Kd.S_reads' HO346.out).2.2 | (with_reducible refine Kd.C_alloc ?_ _) | (with_reducible refine Kd.C_drewN ?_ _) | (with_reducible refine Kd.C_drew ?_))); (case side2 => exact (Kd.S_reads' HO346.out).2.1); (case side3 => repeat (first | exact (Kd.S_reads' HO350.out).2.2 | (with_reducible refine Kd.C_alloc ?_ _) | (with_reducible refine Kd.C_drewN ?_ _) | (with_reducible refine Kd.C_drew ?_))); (case side4 => exact (Kd.S_reads' HO350.out).2.1); rintro e w' ⟨rfl, ⟨nd, rfl⟩⟩; (try first | exact ⟨rfl, _, World.drewN_drewN _ _ _⟩ | exact ⟨rfl, _, Eq.trans (World.drewN_drewN _ _ _) (congrArg (World.drewN _) (Nat.add_assoc _ _ _))⟩))); try go_wp2_with (first | (go_at_call 43; (with_reducible refine (laws_likeInts.calls k _ _ t332 _ _ t336 true _ ?side1 ?side2 ?side3 ?side4 A20.out).mono ?_); (case side1 => repeat (first | exact (Kd.R_reads' HO335.out).2.2 | (with_reducible refine Kd.C_alloc ?_ _) | (with_reducible refine Kd.C_drewN ?_ _) | (with_reducible refine Kd.C_drew ?_))); (case side2 => exact (Kd.R_reads' HO335.out).2.1); (case side3 => repeat (first | exact (Kd.R_reads' HO339.out).2.2 | (with_reducible refine Kd.C_alloc ?_ _) | (with_reducible refine Kd.C_drewN ?_ _) | (with_reducible refine Kd.C_drew ?_))); (case side4 => exact (Kd.R_reads' HO339.out).2.1); rintro e w' ⟨rfl, ⟨nd, rfl⟩⟩; (try first | exact ⟨rfl, _, World.drewN_drewN _ _ _⟩ | exact ⟨rfl, _, Eq.trans (World.drewN_drewN _ _ _) (congrArg (World.drewN _) (Nat.add_assoc _ _ _))⟩); obtain ⟨Ao26, co26, eo26⟩ := Kd.S_slice HO346.out; subst eo26; obtain ⟨Ao27, co27, eo27⟩ := Kd.S_slice HO350.out; subst eo27) | (go_at_call 81; (with_reducible refine (laws_likeRows.calls k _ _ t343 _ _ t347 t352 _ ?side1 ?side2 ?side3 ?side4 A23.out).mono ?_); (case side1 => repeat (first | exact (Kd.S_reads' HO346.out).2.2 | (with_reducible refine Kd.C_alloc ?_ _) | (with_reducible refine Kd.C_drewN ?_ _) | (with_reducible refine Kd.C_drew ?_))); (case side2 => exact (Kd.S_reads' HO346.out).2.1); (case side3 => repeat (first | exact (Kd.S_reads' HO350.out).2.2 | (with_reducible refine Kd.C_alloc ?_ _) | (with_reducible refine Kd.C_drewN ?_ _) | (with_reducible refine Kd.C_drew ?_))); (case side4 => exact (Kd.S_reads' HO350.out).2.1); rintro e w' ⟨rfl, ⟨nd, rfl⟩⟩; (try first | exact ⟨rfl, _, World.drewN_drewN _ _ _⟩ | exact ⟨rfl, _, Eq.trans (World.drewN_drewN _ _ _) (congrArg (World.drewN _) (Nat.add_assoc _ _ _))⟩))))
      go_meet
      case rel => exact ⟨_, (!t352), (by first | rfl | (simp; done) | (simp [*]; done)), H', ⟨by first | omega | exact Nat.le_refl _⟩, ⟨by (with_reducible repeat (first | apply Kd.R_alloc | apply Kd.R_drewN | apply Kd.R_drew)); exact Kd.R_mono HO331.out (fun _ hk => hk.2)⟩, ⟨by (with_reducible repeat (first | apply Kd.R_alloc | apply Kd.R_drewN | apply Kd.R_drew)); exact Kd.R_mono HO335.out (fun _ hk => trivial)⟩, ⟨by (with_reducible repeat (first | apply Kd.R_alloc | apply Kd.R_drewN | apply Kd.R_drew)); exact Kd.R_mono HO342.out (fun _ hk => hk.2)⟩, ⟨by (with_reducible repeat (first | apply Kd.S_alloc | apply Kd.S_drewN | apply Kd.S_drew)); exact Kd.S_mono HO346.out (fun _ hk => hk.1.1.2)⟩, ⟨bl_ HB.out⟩⟩
     ·replace c21 := Bool.eq_false_iff.mpr c21
      subst c21
      have H1 : (laws_FnAreas.j0 k t326 t327 t328 t329 t332 t333 t340 t343 t344 true) = some r := by rw [if_neg (show ¬ (false = true) by decide)] at H; exact H
      clear H
      have H := H1
      clear H1
      exact absurd ((laws_FnAreas.j0_true H).trans hT) (by decide)
   case rest =>
    as_aux_lemma =>
     clear HC10
     try clear c1
     try clear c2
     try clear p2
     try clear c3
     try clear c10
     try clear c19
     try clear c19b0
     try clear c19b1
     try clear c21
     try clear c22
     try clear c22b0
     try clear c22b1
     obtain ⟨kq, x79_9, rfl, HA, HJ9, HO_3, HO_7, HO_11, HO_12, HB⟩ := hcut
     cases kq with
     | zero => exact absurd HA.out (by simp [laws_FnAreas.j0])
     | succ kj9 =>
      have H := HA.out
      clear HA
      simp only [laws_FnAreas.j0] at H
      by_cases c32 : x79_9 = true
      case pos =>
       subst c32
       have H1 : (some false) = some r := by rw [if_pos rfl] at H; exact H
       clear H
       have H := H1
       clear H1
       exact absurd ((Option.some.inj H).trans hT) (by decide)
      replace c32 := Bool.eq_false_iff.mpr c32
      subst c32
      have H1 : (laws_FnAreas.l0 kj9 t326 t327 t328 t329 t332 t333 t340 t343 t344 0) = some r := by rw [if_neg (show ¬ (false = true) by decide)] at H; exact H
      clear H
      have H := H1
      clear H1
      have H' := Aside0.mk H
      clear H
      go_wp2
      repeat (go_quiet (fail); try go_wp2)
      go_loopg [16] kj9 (fun kq v16 w' => ∃ (x16_2 : Int), v16 = .int .i64 x16_2 ∧ Aside0 (laws_FnAreas.l0 kq t326 t327 t328 t329 t332 t333 t340 t343 t344 x16_2 = some r) ∧ Aside0 (kq ≤ kj9) ∧ Aside0 (Kd.R k83 83 w' w.heap.size (fun k_ => some k_ ≠ ((.slice Ao16 t340.length co16) : Value).ownBlock) (.slice Ao12 t326.length co12) t326) ∧ Aside0 (Kd.R (Kd.int .i64) 2 w' w.heap.size (fun _ => True) v334 t332) ∧ Aside0 (Kd.R k83 83 w' w.heap.size (fun k_ => some k_ ≠ ((.slice Ao12 t326.length co12) : Value).ownBlock) (.slice Ao16 t340.length co16) t340) ∧ Aside0 (Kd.S (Kd.slice 2 (Kd.int .i64)) 24 w' w.heap.size (fun k_ => some k_ ≠ (v334 : Value).ownBlock) v345 t343) ∧ Aside0 (Below w.heap.size w w'))
      case atStart => exact ⟨(0), (by first | rfl | (simp; done) | (simp [*]; done)), H', ⟨Nat.le_refl _⟩, ⟨by (with_reducible repeat (first | apply Kd.R_alloc | apply Kd.R_drewN | apply Kd.R_drew)); exact HO_3.out⟩, ⟨by (with_reducible repeat (first | apply Kd.R_alloc | apply Kd.R_drewN | apply Kd.R_drew)); exact HO_7.out⟩, ⟨by (with_reducible repeat (first | apply Kd.R_alloc | apply Kd.R_drewN | apply Kd.R_drew)); exact HO_11.out⟩, ⟨by (with_reducible repeat (first | apply Kd.S_alloc | apply Kd.S_drewN | apply Kd.S_drew)); exact HO_12.out⟩, ⟨bl_ HB.out⟩⟩
      case round =>
       clear H'
       try clear c1
       try clear c2
       try clear p2
       try clear c3
       try clear c10
       try clear c19
       try clear c19b0
       try clear c19b1
       try clear c21
       try clear c22
       try clear c22b0
       try clear c22b1
       try clear c32
       try clear p2
       obtain ⟨x16_2, rfl, HA, HK2, HO_3, HO_7, HO_11, HO_12, HB⟩ := hrel
       cases gk with
       | zero => exact absurd HA.out (by simp [laws_FnAreas.l0])
       | succ k2 =>
        have H := HA.out
        clear HA
        simp only [laws_FnAreas.l0] at H
        have HC33 := Aside0.mk H
        clear H
        go_upto_region 12 with (fail)
        repeat (go_quiet (fail); go_upto_region 12 with (fail))
        go_cut [87] (fun v87 wc => ∃ (kq : Nat) (x87_32 : Bool), v87 = .bool x87_32 ∧ Aside0 (laws_FnAreas.j2 kq t326 t327 t328 t329 t332 t333 t340 t343 t344 x16_2 x87_32 = some r) ∧ Aside0 (kq ≤ k2) ∧ Aside0 (Kd.R k83 83 wc w.heap.size (fun k_ => some k_ ≠ ((.slice Ao16 t340.length co16) : Value).ownBlock) (.slice Ao12 t326.length co12) t326) ∧ Aside0 (Kd.R (Kd.int .i64) 2 wc w.heap.size (fun _ => True) v334 t332) ∧ Aside0 (Kd.R k83 83 wc w.heap.size (fun k_ => some k_ ≠ ((.slice Ao12 t326.length co12) : Value).ownBlock) (.slice Ao16 t340.length co16) t340) ∧ Aside0 (Kd.S (Kd.slice 2 (Kd.int .i64)) 24 wc w.heap.size (fun k_ => some k_ ≠ (v334 : Value).ownBlock) v345 t343) ∧ Aside0 (Below w.heap.size w wc))
        case first =>
         have H := HC33.out
         clear HC33
         by_cases c34 : t333 = 0
         ·rw [if_pos c34] at H
          have c34b0 : (t333 == 0) = true := beq_iff_eq.mpr c34
          have c34b1 : (t333 != 0) = false := bne_eq_false_iff_eq.mpr c34
          clear c34
          (first | rw [c34b0] | (simp only [i64_w, i32_w]; rw [c34b0]) | skip)
          have H' := Aside0.mk H
          clear H
          go_wp2
          repeat (go_quiet (fail); try go_wp2)
          go_meet
          case rel => exact ⟨_, (decide (x16_2 < (t326.length : Int))), (by first | rfl | (simp; done) | (simp [*]; done)), H', ⟨by have := HJ9.out; have := HK2.out; first | omega | exact Nat.le_refl _⟩, ⟨by (with_reducible repeat (first | apply Kd.R_alloc | apply Kd.R_drewN | apply Kd.R_drew)); exact HO_3.out⟩, ⟨by (with_reducible repeat (first | apply Kd.R_alloc | apply Kd.R_drewN | apply Kd.R_drew)); exact HO_7.out⟩, ⟨by (with_reducible repeat (first | apply Kd.R_alloc | apply Kd.R_drewN | apply Kd.R_drew)); exact HO_11.out⟩, ⟨by (with_reducible repeat (first | apply Kd.S_alloc | apply Kd.S_drewN | apply Kd.S_drew)); exact HO_12.out⟩, ⟨bl_ HB.out⟩⟩
         ·rw [if_neg c34] at H
          have c34b0 : (t333 == 0) = false := beq_eq_false_iff_ne.mpr c34
          have c34b1 : (t333 != 0) = true := bne_iff_ne.mpr c34
          (first | rw [c34b0] | (simp only [i64_w, i32_w]; rw [c34b0]) | skip)
          have H' := Aside0.mk H
          clear H
          go_wp2
          repeat (go_quiet (fail); try go_wp2)
          go_meet
          case rel => exact ⟨_, (false), (by first | rfl | (simp; done) | (simp [*]; done)), H', ⟨by have := HJ9.out; have := HK2.out; first | omega | exact Nat.le_refl _⟩, ⟨by (with_reducible repeat (first | apply Kd.R_alloc | apply Kd.R_drewN | apply Kd.R_drew)); exact HO_3.out⟩, ⟨by (with_reducible repeat (first | apply Kd.R_alloc | apply Kd.R_drewN | apply Kd.R_drew)); exact HO_7.out⟩, ⟨by (with_reducible repeat (first | apply Kd.R_alloc | apply Kd.R_drewN | apply Kd.R_drew)); exact HO_11.out⟩, ⟨by (with_reducible repeat (first | apply Kd.S_alloc | apply Kd.S_drewN | apply Kd.S_drew)); exact HO_12.out⟩, ⟨bl_ HB.out⟩⟩
        case rest =>
         as_aux_lemma =>
          clear HC33
          try clear c1
          try clear c2
          try clear p2
          try clear c3
          try clear c10
          try clear c19
          try clear c19b0
          try clear c19b1
          try clear c21
          try clear c22
          try clear c22b0
          try clear c22b1
          try clear c32
          try clear c34
          try clear c34b0
          try clear c34b1
          try clear p2
          obtain ⟨kq, x87_32, rfl, HA, HJ32, HO_3, HO_7, HO_11, HO_12, HB⟩ := hcut
          cases kq with
          | zero => exact absurd HA.out (by simp [laws_FnAreas.j2])
          | succ kj32 =>
           have H := HA.out
           clear HA
           simp only [laws_FnAreas.j2] at H
           by_cases c35 : x87_32 = true
           ·as_aux_lemma =>
             subst c35
             have H1 : (if 0 ≤ x16_2 then (if x16_2 < (t326.length : Int) then ((impl_SquareTo.f ((rd_T83 t326 x16_2).f0) ((rd_T83 t326 x16_2).f1) ((rd_T83 t326 x16_2).f2) ((rd_T83 t326 x16_2).f3) ((rd_T83 t326 x16_2).f4) t327 t328).bind fun bt354 => (if bt354.2 = 0 then ((laws_hasInt.f kj32 t332 x16_2).bind fun t356 => (if (t356 != (decide (bt354.1 ≤ (wrap64 (t329 * t329))))) = true then (some false) else (laws_FnAreas.l0 kj32 t326 t327 t328 t329 t332 t333 t340 t343 t344 (wrap64 (x16_2 + 1))))) else (some false))) else (none)) else (none)) = some r := by rw [if_pos rfl] at H; exact H
             clear H
             have H := H1
             clear H1
             by_cases c36 : 0 ≤ x16_2
             case neg =>
              rw [if_neg c36] at H
              exact absurd H (by simp)
             rw [if_pos c36] at H
             have c36b0 : decide (0 ≤ x16_2) = true := decide_eq_true c36
             clear c36
             by_cases c37 : x16_2 < (t326.length : Int)
             case neg =>
              rw [if_neg c37] at H
              exact absurd H (by simp)
             rw [if_pos c37] at H
             have c37b0 : decide (x16_2 < (t326.length : Int)) = true := decide_eq_true c37
             clear c37
             replace H := Option.bind_eq_some_iff.mp H
             obtain ⟨⟨t354, t355⟩, A380, H⟩ := H
             replace H : (if t355 = 0 then ((laws_hasInt.f kj32 t332 x16_2).bind fun t356 => (if (t356 != (decide (t354 ≤ (wrap64 (t329 * t329))))) = true then (some false) else (laws_FnAreas.l0 kj32 t326 t327 t328 t329 t332 t333 t340 t343 t344 (wrap64 (x16_2 + 1))))) else (some false)) = some r := H
             have A38 := Aside0.mk A380
             clear A380
             by_cases c39 : t355 = 0
             case neg =>
              rw [if_neg c39] at H
              have c39b0 : (t355 == 0) = false := beq_eq_false_iff_ne.mpr c39
              have c39b1 : (t355 != 0) = true := bne_iff_ne.mpr c39
              exact absurd ((Option.some.inj H).trans hT) (by decide)
             rw [if_pos c39] at H
             have c39b0 : (t355 == 0) = true := beq_iff_eq.mpr c39
             have c39b1 : (t355 != 0) = false := bne_eq_false_iff_eq.mpr c39
             clear c39
             replace H := Option.bind_eq_some_iff.mp H
             obtain ⟨t356, A400, H⟩ := H
             replace H : (if (t356 != (decide (t354 ≤ (wrap64 (t329 * t329))))) = true then (some false) else (laws_FnAreas.l0 kj32 t326 t327 t328 t329 t332 t333 t340 t343 t344 (wrap64 (x16_2 + 1)))) = some r := H
             have A40 := Aside0.mk A400
             clear A400
             by_cases c41 : (t356 != (decide (t354 ≤ (wrap64 (t329 * t329))))) = true
             ·rw [if_pos c41] at H
              have c41b0 : (t356 != (decide (t354 ≤ (wrap64 (t329 * t329))))) = true := c41
              (try (have c41b1 : decide (t356 = (decide (t354 ≤ (wrap64 (t329 * t329))))) = false := by simpa using c41))
              (try (have c41b2 : (t356 == (decide (t354 ≤ (wrap64 (t329 * t329))))) = false := by simpa using c41))
              (try (have c41b3 : ¬ (t356 = (decide (t354 ≤ (wrap64 (t329 * t329))))) := by simpa using c41))
              clear c41
              exact absurd ((Option.some.inj H).trans hT) (by decide)
             ·rw [if_neg c41] at H
              have c41b0 : (t356 != (decide (t354 ≤ (wrap64 (t329 * t329))))) = false := by simpa using c41
              (try (have c41b1 : decide (t356 = (decide (t354 ≤ (wrap64 (t329 * t329))))) = true := by simpa using c41))
              (try (have c41b2 : (t356 == (decide (t354 ≤ (wrap64 (t329 * t329))))) = true := by simpa using c41))
              clear c41
              have H' := Aside0.mk H
              clear H
              have p353 : 0 ≤ (x16_2 : Int) := od_
              have q353 : x16_2 < (t326.length : Int) := od_
              obtain ⟨ad353, e353, hx353_0, hx353_1, hx353_2, hx353_3, hx353_4⟩ := at_T83 (Kd.R_reads' HO_3.out).2.2 x16_2 p353 q353
              cases e353
              replace p353 := eq_true p353
              replace q353 := eq_true q353
              go_wp2_with (first | (go_at_call 82; (with_reducible refine (impl_SquareTo.calls ((rd_T83 t326 x16_2).f0) ((rd_T83 t326 x16_2).f1) ((rd_T83 t326 x16_2).f2) ((rd_T83 t326 x16_2).f3) ((rd_T83 t326 x16_2).f4) t327 t328 t354 t355 _ A38.out).mono ?_); rintro e w44 ⟨rfl, hb⟩; have n0_ := Aside0.mk (Kd.R_below (by (with_reducible repeat (first | apply Kd.R_alloc | apply Kd.R_drewN | apply Kd.R_drew)); exact HO_3.out) hb); have n1_ := Aside0.mk (Kd.R_below (by (with_reducible repeat (first | apply Kd.R_alloc | apply Kd.R_drewN | apply Kd.R_drew)); exact HO_7.out) hb); have n2_ := Aside0.mk (Kd.R_below (by (with_reducible repeat (first | apply Kd.R_alloc | apply Kd.R_drewN | apply Kd.R_drew)); exact HO_11.out) hb); have n3_ := Aside0.mk (Kd.S_below (by (with_reducible repeat (first | apply Kd.S_alloc | apply Kd.S_drewN | apply Kd.S_drew)); exact HO_12.out) hb); have n4_ := Aside0.mk (below_step (bl_ HB.out) hb); clear HO_3; clear HO_7; clear HO_11; clear HO_12; clear HB; have HO_3 := n0_; have HO_7 := n1_; have HO_11 := n2_; have HO_12 := n3_; have HB := n4_; clear n0_ n1_ n2_ n3_ n4_; (try clear hb); (try clear hb2); (try clear hk); (try clear hi); obtain ⟨Ao45, co45, eo45⟩ := Kd.R_slice HO_7.out; subst eo45) | (go_at_call 56; (with_reducible refine (laws_hasInt.calls kj32 _ _ t332 x16_2 t356 _ ?side1 ?side2 A40.out).mono ?_); (case side1 => repeat (first | exact (Kd.R_reads' HO_7.out).2.2 | (with_reducible refine Kd.C_alloc ?_ _) | (with_reducible refine Kd.C_drewN ?_ _) | (with_reducible refine Kd.C_drew ?_))); (case side2 => exact (Kd.R_reads' HO_7.out).2.1); rintro e w' ⟨rfl, ⟨nd, rfl⟩⟩; (try first | exact ⟨rfl, _, World.drewN_drewN _ _ _⟩ | exact ⟨rfl, _, Eq.trans (World.drewN_drewN _ _ _) (congrArg (World.drewN _) (Nat.add_assoc _ _ _))⟩)))
              repeat (go_quiet (first | (go_at_call 82; (with_reducible refine (impl_SquareTo.calls ((rd_T83 t326 x16_2).f0) ((rd_T83 t326 x16_2).f1) ((rd_T83 t326 x16_2).f2) ((rd_T83 t326 x16_2).f3) ((rd_T83 t326 x16_2).f4) t327 t328 t354 t355 _ A38.out).mono ?_); rintro e w44 ⟨rfl, hb⟩; have n0_ := Aside0.mk (Kd.R_below (by (with_reducible repeat (first | apply Kd.R_alloc | apply Kd.R_drewN | apply Kd.R_drew)); exact HO_3.out) hb); have n1_ := Aside0.mk (Kd.R_below (by (with_reducible repeat (first | apply Kd.R_alloc | apply Kd.R_drewN | apply Kd.R_drew)); exact HO_7.out) hb); have n2_ := Aside0.mk (Kd.R_below (by (with_reducible repeat (first | apply Kd.R_alloc | apply Kd.R_drewN | apply Kd.R_drew)); exact HO_11.out) hb); have n3_ := Aside0.mk (Kd.S_below (by (with_reducible repeat (first | apply Kd.S_alloc | apply Kd.S_drewN | apply Kd.S_drew)); exact HO_12.out) hb); have n4_ := Aside0.mk (below_step (bl_ HB.out) hb); clear HO_3; clear HO_7; clear HO_11; clear HO_12; clear HB; have HO_3 := n0_; have HO_7 := n1_; have HO_11 := n2_; have HO_12 := n3_; have HB := n4_; clear n0_ n1_ n2_ n3_ n4_; (try clear hb); (try clear hb2); (try clear hk); (try clear hi); obtain ⟨Ao45, co45, eo45⟩ := Kd.R_slice HO_7.out; subst eo45) | (go_at_call 56; (with_reducible refine (laws_hasInt.calls kj32 _ _ t332 x16_2 t356 _ ?side1 ?side2 A40.out).mono ?_); (case side1 => repeat (first | exact (Kd.R_reads' HO_7.out).2.2 | (with_reducible refine Kd.C_alloc ?_ _) | (with_reducible refine Kd.C_drewN ?_ _) | (with_reducible refine Kd.C_drew ?_))); (case side2 => exact (Kd.R_reads' HO_7.out).2.1); rintro e w' ⟨rfl, ⟨nd, rfl⟩⟩; (try first | exact ⟨rfl, _, World.drewN_drewN _ _ _⟩ | exact ⟨rfl, _, Eq.trans (World.drewN_drewN _ _ _) (congrArg (World.drewN _) (Nat.add_assoc _ _ _))⟩))); try go_wp2_with (first | (go_at_call 82; (with_reducible refine (impl_SquareTo.calls ((rd_T83 t326 x16_2).f0) ((rd_T83 t326 x16_2).f1) ((rd_T83 t326 x16_2).f2) ((rd_T83 t326 x16_2).f3) ((rd_T83 t326 x16_2).f4) t327 t328 t354 t355 _ A38.out).mono ?_); rintro e w44 ⟨rfl, hb⟩; have n0_ := Aside0.mk (Kd.R_below (by (with_reducible repeat (first | apply Kd.R_alloc | apply Kd.R_drewN | apply Kd.R_drew)); exact HO_3.out) hb); have n1_ := Aside0.mk (Kd.R_below (by (with_reducible repeat (first | apply Kd.R_alloc | apply Kd.R_drewN | apply Kd.R_drew)); exact HO_7.out) hb); have n2_ := Aside0.mk (Kd.R_below (by (with_reducible repeat (first | apply Kd.R_alloc | apply Kd.R_drewN | apply Kd.R_drew)); exact HO_11.out) hb); have n3_ := Aside0.mk (Kd.S_below (by (with_reducible repeat (first | apply Kd.S_alloc | apply Kd.S_drewN | apply Kd.S_drew)); exact HO_12.out) hb); have n4_ := Aside0.mk (below_step (bl_ HB.out) hb); clear HO_3; clear HO_7; clear HO_11; clear HO_12; clear HB; have HO_3 := n0_; have HO_7 := n1_; have HO_11 := n2_; have HO_12 := n3_; have HB := n4_; clear n0_ n1_ n2_ n3_ n4_; (try clear hb); (try clear hb2); (try clear hk); (try clear hi); obtain ⟨Ao45, co45, eo45⟩ := Kd.R_slice HO_7.out; subst eo45) | (go_at_call 56; (with_reducible refine (laws_hasInt.calls kj32 _ _ t332 x16_2 t356 _ ?side1 ?side2 A40.out).mono ?_); (case side1 => repeat (first | exact (Kd.R_reads' HO_7.out).2.2 | (with_reducible refine Kd.C_alloc ?_ _) | (with_reducible refine Kd.C_drewN ?_ _) | (with_reducible refine Kd.C_drew ?_))); (case side2 => exact (Kd.R_reads' HO_7.out).2.1); rintro e w' ⟨rfl, ⟨nd, rfl⟩⟩; (try first | exact ⟨rfl, _, World.drewN_drewN _ _ _⟩ | exact ⟨rfl, _, Eq.trans (World.drewN_drewN _ _ _) (congrArg (World.drewN _) (Nat.add_assoc _ _ _))⟩))))
              go_roundg kj32
              case measure => have := HJ9.out; have := HK2.out; have := HJ32.out; omega
              case rel => exact ⟨(wrap64 (x16_2 + 1)), (by first | rfl | (simp; done) | (simp [*]; done)), H', ⟨by have := HJ9.out; have := HK2.out; have := HJ32.out; omega⟩, ⟨by (with_reducible repeat (first | apply Kd.R_alloc | apply Kd.R_drewN | apply Kd.R_drew)); exact HO_3.out⟩, ⟨by (with_reducible repeat (first | apply Kd.R_alloc | apply Kd.R_drewN | apply Kd.R_drew)); exact HO_7.out⟩, ⟨by (with_reducible repeat (first | apply Kd.R_alloc | apply Kd.R_drewN | apply Kd.R_drew)); exact HO_11.out⟩, ⟨by (with_reducible repeat (first | apply Kd.S_alloc | apply Kd.S_drewN | apply Kd.S_drew)); exact HO_12.out⟩, ⟨bl_ HB.out⟩⟩
           ·as_aux_lemma =>
             replace c35 := Bool.eq_false_iff.mpr c35
             subst c35
             have H1 : (laws_FnAreas.l1 kj32 t340 t343 t344 0 0) = some r := by rw [if_neg (show ¬ (false = true) by decide)] at H; exact H
             clear H
             have H := H1
             clear H1
             have H' := Aside0.mk H
             clear H
             go_wp2
             repeat (go_quiet (fail); try go_wp2)
             go_loopg [19, 20] kj32 (fun kq v19 v20 w' => ∃ (x19_4 : Int) (x20_4 : Int), v19 = .int .i64 x19_4 ∧ v20 = .int .i64 x20_4 ∧ Aside0 (laws_FnAreas.l1 kq t340 t343 t344 x19_4 x20_4 = some r) ∧ Aside0 (kq ≤ kj32) ∧ Aside0 (Kd.R k83 83 w' w.heap.size (fun _ => True) (.slice Ao16 t340.length co16) t340) ∧ Aside0 (Kd.S (Kd.slice 2 (Kd.int .i64)) 24 w' w.heap.size (fun _ => True) v345 t343) ∧ Aside0 (Below w.heap.size w w'))
             case atStart => exact ⟨(0), (0), (by first | rfl | (simp; done) | (simp [*]; done)), (by first | rfl | (simp; done) | (simp [*]; done)), H', ⟨Nat.le_refl _⟩, ⟨by (with_reducible repeat (first | apply Kd.R_alloc | apply Kd.R_drewN | apply Kd.R_drew)); exact Kd.R_mono HO_11.out (fun _ hk => trivial)⟩, ⟨by (with_reducible repeat (first | apply Kd.S_alloc | apply Kd.S_drewN | apply Kd.S_drew)); exact Kd.S_mono HO_12.out (fun _ hk => trivial)⟩, ⟨bl_ HB.out⟩⟩
             case round =>
              clear H'
              try clear c1
              try clear c2
              try clear p2
              try clear c3
              try clear p3
              try clear q3
              try clear hx3
              try clear c4
              try clear p6
              try clear c10
              try clear c19
              try clear c19b0
              try clear c19b1
              try clear c21
              try clear c22
              try clear c22b0
              try clear c22b1
              try clear c32
              try clear c34
              try clear c34b0
              try clear c34b1
              try clear c35
              try clear p35
              try clear q35
              try clear hx35
              try clear c36
              try clear c36b0
              try clear c37
              try clear c37b0
              try clear c39
              try clear c39b0
              try clear c39b1
              try clear c41
              try clear c41b0
              try clear c41b1
              try clear c41b2
              try clear hx353_0
              try clear hx353_1
              try clear hx353_2
              try clear hx353_3
              try clear hx353_4
              try clear p2
              try clear p353
              try clear q353
              obtain ⟨x19_4, x20_4, rfl, rfl, HA, HK4, HO_11, HO_12, HB⟩ := hrel
              cases gk with
              | zero => exact absurd HA.out (by simp [laws_FnAreas.l1])
              | succ k4 =>
               have H := HA.out
               clear HA
               simp only [laws_FnAreas.l1] at H
               have HC47 := Aside0.mk H
               clear H
               go_upto_region 19 with (fail)
               repeat (go_quiet (fail); go_upto_region 19 with (fail))
               go_cut [120] (fun v120 wc => ∃ (kq : Nat) (x120_46 : Bool), v120 = .bool x120_46 ∧ Aside0 (laws_FnAreas.j4 kq t340 t343 t344 x19_4 x20_4 x120_46 = some r) ∧ Aside0 (kq ≤ k4) ∧ Aside0 (Kd.R k83 83 wc w.heap.size (fun _ => True) (.slice Ao16 t340.length co16) t340) ∧ Aside0 (Kd.S (Kd.slice 2 (Kd.int .i64)) 24 wc w.heap.size (fun _ => True) v345 t343) ∧ Aside0 (Below w.heap.size w wc))
               case first =>
                have H := HC47.out
                clear HC47
                by_cases c48 : t344 = 0
                ·rw [if_pos c48] at H
                 have c48b0 : (t344 == 0) = true := beq_iff_eq.mpr c48
                 have c48b1 : (t344 != 0) = false := bne_eq_false_iff_eq.mpr c48
                 clear c48
                 (first | rw [c48b0] | (simp only [i64_w, i32_w]; rw [c48b0]) | skip)
                 have H' := Aside0.mk H
                 clear H
                 go_wp2
                 repeat (go_quiet (fail); try go_wp2)
                 go_meet
                 case rel => exact ⟨_, (decide (x20_4 < (t340.length : Int))), (by first | rfl | (simp; done) | (simp [*]; done)), H', ⟨by have := HJ9.out; have := HK2.out; have := HJ32.out; have := HK4.out; first | omega | exact Nat.le_refl _⟩, ⟨by (with_reducible repeat (first | apply Kd.R_alloc | apply Kd.R_drewN | apply Kd.R_drew)); exact HO_11.out⟩, ⟨by (with_reducible repeat (first | apply Kd.S_alloc | apply Kd.S_drewN | apply Kd.S_drew)); exact HO_12.out⟩, ⟨bl_ HB.out⟩⟩
                ·rw [if_neg c48] at H
                 have c48b0 : (t344 == 0) = false := beq_eq_false_iff_ne.mpr c48
                 have c48b1 : (t344 != 0) = true := bne_iff_ne.mpr c48
                 (first | rw [c48b0] | (simp only [i64_w, i32_w]; rw [c48b0]) | skip)
                 have H' := Aside0.mk H
                 clear H
                 go_wp2
                 repeat (go_quiet (fail); try go_wp2)
                 go_meet
                 case rel => exact ⟨_, (false), (by first | rfl | (simp; done) | (simp [*]; done)), H', ⟨by have := HJ9.out; have := HK2.out; have := HJ32.out; have := HK4.out; first | omega | exact Nat.le_refl _⟩, ⟨by (with_reducible repeat (first | apply Kd.R_alloc | apply Kd.R_drewN | apply Kd.R_drew)); exact HO_11.out⟩, ⟨by (with_reducible repeat (first | apply Kd.S_alloc | apply Kd.S_drewN | apply Kd.S_drew)); exact HO_12.out⟩, ⟨bl_ HB.out⟩⟩
               case rest =>
                as_aux_lemma =>
                 clear HC47
                 try clear c1
                 try clear c2
                 try clear p2
                 try clear c3
                 try clear p3
                 try clear q3
                 try clear hx3
                 try clear c4
                 try clear p6
                 try clear c10
                 try clear c19
                 try clear c19b0
                 try clear c19b1
                 try clear c21
                 try clear c22
                 try clear c22b0
                 try clear c22b1
                 try clear c32
                 try clear c34
                 try clear c34b0
                 try clear c34b1
                 try clear c35
                 try clear p35
                 try clear q35
                 try clear hx35
                 try clear c36
                 try clear c36b0
                 try clear c37
                 try clear c37b0
                 try clear c39
                 try clear c39b0
                 try clear c39b1
                 try clear c41
                 try clear c41b0
                 try clear c41b1
                 try clear c41b2
                 try clear c48
                 try clear c48b0
                 try clear c48b1
                 try clear hx353_0
                 try clear hx353_1
                 try clear hx353_2
                 try clear hx353_3
                 try clear hx353_4
                 try clear p2
                 try clear p3
                 try clear p35
                 try clear p353
                 try clear p6
                 try clear q3
                 try clear q35
                 try clear q353
                 obtain ⟨kq, x120_46, rfl, HA, HJ46, HO_11, HO_12, HB⟩ := hcut
                 cases kq with
                 | zero => exact absurd HA.out (by simp [laws_FnAreas.j4])
                 | succ kj46 =>
                  have H := HA.out
                  clear HA
                  simp only [laws_FnAreas.j4] at H
                  by_cases c49 : x120_46 = true
                  ·as_aux_lemma =>
                    subst c49
                    have H1 : (laws_FnAreas.l2 kj46 t340 t343 t344 x19_4 x20_4 0) = some r := by rw [if_pos rfl] at H; exact H
                    clear H
                    have H := H1
                    clear H1
                    have H' := Aside0.mk H
                    clear H
                    go_wp2
                    repeat (go_quiet (fail); try go_wp2)
                    go_loopg [19, 21] kj46 (fun kq v19 v21 w' => ∃ (x19_6 : Int) (x21_6 : Int), v19 = .int .i64 x19_6 ∧ v21 = .int .i64 x21_6 ∧ Aside0 (laws_FnAreas.l2 kq t340 t343 t344 x19_6 x20_4 x21_6 = some r) ∧ Aside0 (kq ≤ kj46) ∧ Aside0 (Kd.R k83 83 w' w.heap.size (fun _ => True) (.slice Ao16 t340.length co16) t340) ∧ Aside0 (Kd.S (Kd.slice 2 (Kd.int .i64)) 24 w' w.heap.size (fun _ => True) v345 t343) ∧ Aside0 (Below w.heap.size w w'))
                    case atStart => exact ⟨(x19_4), (0), (by first | rfl | (simp; done) | (simp [*]; done)), (by first | rfl | (simp; done) | (simp [*]; done)), H', ⟨Nat.le_refl _⟩, ⟨by (with_reducible repeat (first | apply Kd.R_alloc | apply Kd.R_drewN | apply Kd.R_drew)); exact HO_11.out⟩, ⟨by (with_reducible repeat (first | apply Kd.S_alloc | apply Kd.S_drewN | apply Kd.S_drew)); exact HO_12.out⟩, ⟨bl_ HB.out⟩⟩
                    case round =>
                     clear H'
                     try clear c1
                     try clear c2
                     try clear p2
                     try clear c3
                     try clear p3
                     try clear q3
                     try clear hx3
                     try clear c4
                     try clear p6
                     try clear c10
                     try clear c19
                     try clear c19b0
                     try clear c19b1
                     try clear c21
                     try clear c22
                     try clear c22b0
                     try clear c22b1
                     try clear c32
                     try clear c34
                     try clear c34b0
                     try clear c34b1
                     try clear c35
                     try clear p35
                     try clear q35
                     try clear hx35
                     try clear c36
                     try clear c36b0
                     try clear c37
                     try clear c37b0
                     try clear c39
                     try clear c39b0
                     try clear c39b1
                     try clear c41
                     try clear c41b0
                     try clear c41b1
                     try clear c41b2
                     try clear c48
                     try clear c48b0
                     try clear c48b1
                     try clear c49
                     try clear hx353_0
                     try clear hx353_1
                     try clear hx353_2
                     try clear hx353_3
                     try clear hx353_4
                     try clear p2
                     try clear p3
                     try clear p35
                     try clear p353
                     try clear p6
                     try clear q3
                     try clear q35
                     try clear q353
                     obtain ⟨x19_6, x21_6, rfl, rfl, HA, HK6, HO_11, HO_12, HB⟩ := hrel
                     cases gk with
                     | zero => exact absurd HA.out (by simp [laws_FnAreas.l2])
                     | succ k6 =>
                      have H := HA.out
                      clear HA
                      simp only [laws_FnAreas.l2] at H
                      by_cases c50 : x21_6 < x20_4
                      ·as_aux_lemma =>
                        rw [if_pos c50] at H
                        have c50b0 : decide (x21_6 < x20_4) = true := decide_eq_true c50
                        clear c50
                        have HC51 := Aside0.mk H
                        clear H
                        go_upto_region 24 with (fail)
                        repeat (go_quiet (fail); go_upto_region 24 with (fail))
                        go_cut [22] (fun v22 wc => ∃ (kq : Nat) (x22_50 : Bool), v22 = .bool x22_50 ∧ Aside0 (laws_FnAreas.j6 kq t340 t343 t344 x19_6 x20_4 x21_6 x22_50 = some r) ∧ Aside0 (kq ≤ k6) ∧ Aside0 (Kd.R k83 83 wc w.heap.size (fun _ => True) (.slice Ao16 t340.length co16) t340) ∧ Aside0 (Kd.S (Kd.slice 2 (Kd.int .i64)) 24 wc w.heap.size (fun _ => True) v345 t343) ∧ Aside0 (Below w.heap.size w wc))
                        case first =>
                         as_aux_lemma =>
                          have H := HC51.out
                          clear HC51
                          by_cases c52 : 0 ≤ x20_4
                          case neg =>
                           rw [if_neg c52] at H
                           exact absurd H (by simp)
                          rw [if_pos c52] at H
                          have c52b0 : decide (0 ≤ x20_4) = true := decide_eq_true c52
                          clear c52
                          (first | rw [c52b0] | (simp only [i64_w, i32_w]; rw [c52b0]) | skip)
                          by_cases c53 : x20_4 < (t340.length : Int)
                          case neg =>
                           rw [if_neg c53] at H
                           exact absurd H (by simp)
                          rw [if_pos c53] at H
                          have c53b0 : decide (x20_4 < (t340.length : Int)) = true := decide_eq_true c53
                          clear c53
                          by_cases c54 : 0 ≤ x21_6
                          case neg =>
                           rw [if_neg c54] at H
                           exact absurd H (by simp)
                          rw [if_pos c54] at H
                          have c54b0 : decide (0 ≤ x21_6) = true := decide_eq_true c54
                          clear c54
                          by_cases c55 : x21_6 < (t340.length : Int)
                          case neg =>
                           rw [if_neg c55] at H
                           exact absurd H (by simp)
                          rw [if_pos c55] at H
                          have c55b0 : decide (x21_6 < (t340.length : Int)) = true := decide_eq_true c55
                          clear c55
                          by_cases c56 : ((rd_T83 t340 x20_4).f1) ≤ (wrap64 (((rd_T83 t340 x21_6).f1) + ((rd_T83 t340 x21_6).f3)))
                          ·rw [if_pos c56] at H
                           have c56b0 : decide (((rd_T83 t340 x20_4).f1) ≤ (wrap64 (((rd_T83 t340 x21_6).f1) + ((rd_T83 t340 x21_6).f3)))) = true := decide_eq_true c56
                           clear c56
                           by_cases c57 : ((rd_T83 t340 x21_6).f1) ≤ (wrap64 (((rd_T83 t340 x20_4).f1) + ((rd_T83 t340 x20_4).f3)))
                           ·as_aux_lemma =>
                             rw [if_pos c57] at H
                             have c57b0 : decide (((rd_T83 t340 x21_6).f1) ≤ (wrap64 (((rd_T83 t340 x20_4).f1) + ((rd_T83 t340 x20_4).f3)))) = true := decide_eq_true c57
                             clear c57
                             by_cases c58 : ((rd_T83 t340 x20_4).f2) ≤ (wrap64 (((rd_T83 t340 x21_6).f2) + ((rd_T83 t340 x21_6).f4)))
                             ·rw [if_pos c58] at H
                              have c58b0 : decide (((rd_T83 t340 x20_4).f2) ≤ (wrap64 (((rd_T83 t340 x21_6).f2) + ((rd_T83 t340 x21_6).f4)))) = true := decide_eq_true c58
                              clear c58
                              have H' := Aside0.mk H
                              clear H
                              have p357 : 0 ≤ (x20_4 : Int) := od_
                              have q357 : x20_4 < (t340.length : Int) := od_
                              obtain ⟨ad357, e357, hx357_0, hx357_1, hx357_2, hx357_3, hx357_4⟩ := at_T83 (Kd.R_reads' HO_11.out).2.2 x20_4 p357 q357
                              cases e357
                              replace p357 := eq_true p357
                              replace q357 := eq_true q357
                              have p358 : 0 ≤ (x21_6 : Int) := od_
                              have q358 : x21_6 < (t340.length : Int) := od_
                              obtain ⟨ad358, e358, hx358_0, hx358_1, hx358_2, hx358_3, hx358_4⟩ := at_T83 (Kd.R_reads' HO_11.out).2.2 x21_6 p358 q358
                              obtain rfl : ad357 = ad358 := (by injection e358)
                              replace p358 := eq_true p358
                              replace q358 := eq_true q358
                              have p359 : 0 ≤ (x21_6 : Int) := od_
                              have q359 : x21_6 < (t340.length : Int) := od_
                              obtain ⟨ad359, e359, hx359_0, hx359_1, hx359_2, hx359_3, hx359_4⟩ := at_T83 (Kd.R_reads' HO_11.out).2.2 x21_6 p359 q359
                              obtain rfl : ad357 = ad359 := (by injection e359)
                              replace p359 := eq_true p359
                              replace q359 := eq_true q359
                              have p360 : 0 ≤ (x21_6 : Int) := od_
                              have q360 : x21_6 < (t340.length : Int) := od_
                              obtain ⟨ad360, e360, hx360_0, hx360_1, hx360_2, hx360_3, hx360_4⟩ := at_T83 (Kd.R_reads' HO_11.out).2.2 x21_6 p360 q360
                              obtain rfl : ad357 = ad360 := (by injection e360)
                              replace p360 := eq_true p360
                              replace q360 := eq_true q360
                              have p361 : 0 ≤ (x20_4 : Int) := od_
                              have q361 : x20_4 < (t340.length : Int) := od_
                              obtain ⟨ad361, e361, hx361_0, hx361_1, hx361_2, hx361_3, hx361_4⟩ := at_T83 (Kd.R_reads' HO_11.out).2.2 x20_4 p361 q361
                              obtain rfl : ad357 = ad361 := (by injection e361)
                              replace p361 := eq_true p361
                              replace q361 := eq_true q361
                              have p362 : 0 ≤ (x20_4 : Int) := od_
                              have q362 : x20_4 < (t340.length : Int) := od_
                              obtain ⟨ad362, e362, hx362_0, hx362_1, hx362_2, hx362_3, hx362_4⟩ := at_T83 (Kd.R_reads' HO_11.out).2.2 x20_4 p362 q362
                              obtain rfl : ad357 = ad362 := (by injection e362)
                              replace p362 := eq_true p362
                              replace q362 := eq_true q362
                              have p363 : 0 ≤ (x20_4 : Int) := od_
                              have q363 : x20_4 < (t340.length : Int) := od_
                              obtain ⟨ad363, e363, hx363_0, hx363_1, hx363_2, hx363_3, hx363_4⟩ := at_T83 (Kd.R_reads' HO_11.out).2.2 x20_4 p363 q363
                              obtain rfl : ad357 = ad363 := (by injection e363)
                              replace p363 := eq_true p363
                              replace q363 := eq_true q363
                              have p364 : 0 ≤ (x21_6 : Int) := od_
                              have q364 : x21_6 < (t340.length : Int) := od_
                              obtain ⟨ad364, e364, hx364_0, hx364_1, hx364_2, hx364_3, hx364_4⟩ := at_T83 (Kd.R_reads' HO_11.out).2.2 x21_6 p364 q364
                              obtain rfl : ad357 = ad364 := (by injection e364)
                              replace p364 := eq_true p364
                              replace q364 := eq_true q364
                              have p365 : 0 ≤ (x21_6 : Int) := od_
                              have q365 : x21_6 < (t340.length : Int) := od_
                              obtain ⟨ad365, e365, hx365_0, hx365_1, hx365_2, hx365_3, hx365_4⟩ := at_T83 (Kd.R_reads' HO_11.out).2.2 x21_6 p365 q365
                              obtain rfl : ad357 = ad365 := (by injection e365)
                              replace p365 := eq_true p365
                              replace q365 := eq_true q365
                              have p366 : 0 ≤ (x21_6 : Int) := od_
                              have q366 : x21_6 < (t340.length : Int) := od_
                              obtain ⟨ad366, e366, hx366_0, hx366_1, hx366_2, hx366_3, hx366_4⟩ := at_T83 (Kd.R_reads' HO_11.out).2.2 x21_6 p366 q366
                              obtain rfl : ad357 = ad366 := (by injection e366)
                              replace p366 := eq_true p366
                              replace q366 := eq_true q366
                              have p367 : 0 ≤ (x20_4 : Int) := od_
                              have q367 : x20_4 < (t340.length : Int) := od_
                              obtain ⟨ad367, e367, hx367_0, hx367_1, hx367_2, hx367_3, hx367_4⟩ := at_T83 (Kd.R_reads' HO_11.out).2.2 x20_4 p367 q367
                              obtain rfl : ad357 = ad367 := (by injection e367)
                              replace p367 := eq_true p367
                              replace q367 := eq_true q367
                              have p368 : 0 ≤ (x20_4 : Int) := od_
                              have q368 : x20_4 < (t340.length : Int) := od_
                              obtain ⟨ad368, e368, hx368_0, hx368_1, hx368_2, hx368_3, hx368_4⟩ := at_T83 (Kd.R_reads' HO_11.out).2.2 x20_4 p368 q368
                              obtain rfl : ad357 = ad368 := (by injection e368)
                              replace p368 := eq_true p368
                              replace q368 := eq_true q368
                              go_wp2
                              repeat (go_quiet (fail); try go_wp2)
                              go_meet
                              case rel => exact ⟨_, (decide (((rd_T83 t340 x21_6).f2) ≤ (wrap64 (((rd_T83 t340 x20_4).f2) + ((rd_T83 t340 x20_4).f4))))), (by first | rfl | (simp; done) | (simp [*]; done)), H', ⟨by have := HJ9.out; have := HK2.out; have := HJ32.out; have := HK4.out; have := HJ46.out; have := HK6.out; first | omega | exact Nat.le_refl _⟩, ⟨by (with_reducible repeat (first | apply Kd.R_alloc | apply Kd.R_drewN | apply Kd.R_drew)); exact HO_11.out⟩, ⟨by (with_reducible repeat (first | apply Kd.S_alloc | apply Kd.S_drewN | apply Kd.S_drew)); exact HO_12.out⟩, ⟨bl_ HB.out⟩⟩
                             ·as_aux_lemma =>
                               rw [if_neg c58] at H
                               have c58b0 : decide (((rd_T83 t340 x20_4).f2) ≤ (wrap64 (((rd_T83 t340 x21_6).f2) + ((rd_T83 t340 x21_6).f4)))) = false := decide_eq_false c58
                               clear c58
                               have H' := Aside0.mk H
                               clear H
                               have p357 : 0 ≤ (x20_4 : Int) := od_
                               have q357 : x20_4 < (t340.length : Int) := od_
                               obtain ⟨ad357, e357, hx357_0, hx357_1, hx357_2, hx357_3, hx357_4⟩ := at_T83 (Kd.R_reads' HO_11.out).2.2 x20_4 p357 q357
                               cases e357
                               replace p357 := eq_true p357
                               replace q357 := eq_true q357
                               have p358 : 0 ≤ (x21_6 : Int) := od_
                               have q358 : x21_6 < (t340.length : Int) := od_
                               obtain ⟨ad358, e358, hx358_0, hx358_1, hx358_2, hx358_3, hx358_4⟩ := at_T83 (Kd.R_reads' HO_11.out).2.2 x21_6 p358 q358
                               obtain rfl : ad357 = ad358 := (by injection e358)
                               replace p358 := eq_true p358
                               replace q358 := eq_true q358
                               have p359 : 0 ≤ (x21_6 : Int) := od_
                               have q359 : x21_6 < (t340.length : Int) := od_
                               obtain ⟨ad359, e359, hx359_0, hx359_1, hx359_2, hx359_3, hx359_4⟩ := at_T83 (Kd.R_reads' HO_11.out).2.2 x21_6 p359 q359
                               obtain rfl : ad357 = ad359 := (by injection e359)
                               replace p359 := eq_true p359
                               replace q359 := eq_true q359
                               have p360 : 0 ≤ (x21_6 : Int) := od_
                               have q360 : x21_6 < (t340.length : Int) := od_
                               obtain ⟨ad360, e360, hx360_0, hx360_1, hx360_2, hx360_3, hx360_4⟩ := at_T83 (Kd.R_reads' HO_11.out).2.2 x21_6 p360 q360
                               obtain rfl : ad357 = ad360 := (by injection e360)
                               replace p360 := eq_true p360
                               replace q360 := eq_true q360
                               have p361 : 0 ≤ (x20_4 : Int) := od_
                               have q361 : x20_4 < (t340.length : Int) := od_
                               obtain ⟨ad361, e361, hx361_0, hx361_1, hx361_2, hx361_3, hx361_4⟩ := at_T83 (Kd.R_reads' HO_11.out).2.2 x20_4 p361 q361
                               obtain rfl : ad357 = ad361 := (by injection e361)
                               replace p361 := eq_true p361
                               replace q361 := eq_true q361
                               have p362 : 0 ≤ (x20_4 : Int) := od_
                               have q362 : x20_4 < (t340.length : Int) := od_
                               obtain ⟨ad362, e362, hx362_0, hx362_1, hx362_2, hx362_3, hx362_4⟩ := at_T83 (Kd.R_reads' HO_11.out).2.2 x20_4 p362 q362
                               obtain rfl : ad357 = ad362 := (by injection e362)
                               replace p362 := eq_true p362
                               replace q362 := eq_true q362
                               have p363 : 0 ≤ (x20_4 : Int) := od_
                               have q363 : x20_4 < (t340.length : Int) := od_
                               obtain ⟨ad363, e363, hx363_0, hx363_1, hx363_2, hx363_3, hx363_4⟩ := at_T83 (Kd.R_reads' HO_11.out).2.2 x20_4 p363 q363
                               obtain rfl : ad357 = ad363 := (by injection e363)
                               replace p363 := eq_true p363
                               replace q363 := eq_true q363
                               have p364 : 0 ≤ (x21_6 : Int) := od_
                               have q364 : x21_6 < (t340.length : Int) := od_
                               obtain ⟨ad364, e364, hx364_0, hx364_1, hx364_2, hx364_3, hx364_4⟩ := at_T83 (Kd.R_reads' HO_11.out).2.2 x21_6 p364 q364
                               obtain rfl : ad357 = ad364 := (by injection e364)
                               replace p364 := eq_true p364
                               replace q364 := eq_true q364
                               have p365 : 0 ≤ (x21_6 : Int) := od_
                               have q365 : x21_6 < (t340.length : Int) := od_
                               obtain ⟨ad365, e365, hx365_0, hx365_1, hx365_2, hx365_3, hx365_4⟩ := at_T83 (Kd.R_reads' HO_11.out).2.2 x21_6 p365 q365
                               obtain rfl : ad357 = ad365 := (by injection e365)
                               replace p365 := eq_true p365
                               replace q365 := eq_true q365
                               go_wp2
                               repeat (go_quiet (fail); try go_wp2)
                               go_meet
                               case rel => exact ⟨_, (false), (by first | rfl | (simp; done) | (simp [*]; done)), H', ⟨by have := HJ9.out; have := HK2.out; have := HJ32.out; have := HK4.out; have := HJ46.out; have := HK6.out; first | omega | exact Nat.le_refl _⟩, ⟨by (with_reducible repeat (first | apply Kd.R_alloc | apply Kd.R_drewN | apply Kd.R_drew)); exact HO_11.out⟩, ⟨by (with_reducible repeat (first | apply Kd.S_alloc | apply Kd.S_drewN | apply Kd.S_drew)); exact HO_12.out⟩, ⟨bl_ HB.out⟩⟩
                           ·as_aux_lemma =>
                             rw [if_neg c57] at H
                             have c57b0 : decide (((rd_T83 t340 x21_6).f1) ≤ (wrap64 (((rd_T83 t340 x20_4).f1) + ((rd_T83 t340 x20_4).f3)))) = false := decide_eq_false c57
                             clear c57
                             have H' := Aside0.mk H
                             clear H
                             have p357 : 0 ≤ (x20_4 : Int) := od_
                             have q357 : x20_4 < (t340.length : Int) := od_
                             obtain ⟨ad357, e357, hx357_0, hx357_1, hx357_2, hx357_3, hx357_4⟩ := at_T83 (Kd.R_reads' HO_11.out).2.2 x20_4 p357 q357
                             cases e357
                             replace p357 := eq_true p357
                             replace q357 := eq_true q357
                             have p358 : 0 ≤ (x21_6 : Int) := od_
                             have q358 : x21_6 < (t340.length : Int) := od_
                             obtain ⟨ad358, e358, hx358_0, hx358_1, hx358_2, hx358_3, hx358_4⟩ := at_T83 (Kd.R_reads' HO_11.out).2.2 x21_6 p358 q358
                             obtain rfl : ad357 = ad358 := (by injection e358)
                             replace p358 := eq_true p358
                             replace q358 := eq_true q358
                             have p359 : 0 ≤ (x21_6 : Int) := od_
                             have q359 : x21_6 < (t340.length : Int) := od_
                             obtain ⟨ad359, e359, hx359_0, hx359_1, hx359_2, hx359_3, hx359_4⟩ := at_T83 (Kd.R_reads' HO_11.out).2.2 x21_6 p359 q359
                             obtain rfl : ad357 = ad359 := (by injection e359)
                             replace p359 := eq_true p359
                             replace q359 := eq_true q359
                             have p360 : 0 ≤ (x21_6 : Int) := od_
                             have q360 : x21_6 < (t340.length : Int) := od_
                             obtain ⟨ad360, e360, hx360_0, hx360_1, hx360_2, hx360_3, hx360_4⟩ := at_T83 (Kd.R_reads' HO_11.out).2.2 x21_6 p360 q360
                             obtain rfl : ad357 = ad360 := (by injection e360)
                             replace p360 := eq_true p360
                             replace q360 := eq_true q360
                             have p361 : 0 ≤ (x20_4 : Int) := od_
                             have q361 : x20_4 < (t340.length : Int) := od_
                             obtain ⟨ad361, e361, hx361_0, hx361_1, hx361_2, hx361_3, hx361_4⟩ := at_T83 (Kd.R_reads' HO_11.out).2.2 x20_4 p361 q361
                             obtain rfl : ad357 = ad361 := (by injection e361)
                             replace p361 := eq_true p361
                             replace q361 := eq_true q361
                             have p362 : 0 ≤ (x20_4 : Int) := od_
                             have q362 : x20_4 < (t340.length : Int) := od_
                             obtain ⟨ad362, e362, hx362_0, hx362_1, hx362_2, hx362_3, hx362_4⟩ := at_T83 (Kd.R_reads' HO_11.out).2.2 x20_4 p362 q362
                             obtain rfl : ad357 = ad362 := (by injection e362)
                             replace p362 := eq_true p362
                             replace q362 := eq_true q362
                             go_wp2
                             repeat (go_quiet (fail); try go_wp2)
                             go_meet
                             case rel => exact ⟨_, (false), (by first | rfl | (simp; done) | (simp [*]; done)), H', ⟨by have := HJ9.out; have := HK2.out; have := HJ32.out; have := HK4.out; have := HJ46.out; have := HK6.out; first | omega | exact Nat.le_refl _⟩, ⟨by (with_reducible repeat (first | apply Kd.R_alloc | apply Kd.R_drewN | apply Kd.R_drew)); exact HO_11.out⟩, ⟨by (with_reducible repeat (first | apply Kd.S_alloc | apply Kd.S_drewN | apply Kd.S_drew)); exact HO_12.out⟩, ⟨bl_ HB.out⟩⟩
                          ·rw [if_neg c56] at H
                           have c56b0 : decide (((rd_T83 t340 x20_4).f1) ≤ (wrap64 (((rd_T83 t340 x21_6).f1) + ((rd_T83 t340 x21_6).f3)))) = false := decide_eq_false c56
                           clear c56
                           have H' := Aside0.mk H
                           clear H
                           have p357 : 0 ≤ (x20_4 : Int) := od_
                           have q357 : x20_4 < (t340.length : Int) := od_
                           obtain ⟨ad357, e357, hx357_0, hx357_1, hx357_2, hx357_3, hx357_4⟩ := at_T83 (Kd.R_reads' HO_11.out).2.2 x20_4 p357 q357
                           cases e357
                           replace p357 := eq_true p357
                           replace q357 := eq_true q357
                           have p358 : 0 ≤ (x21_6 : Int) := od_
                           have q358 : x21_6 < (t340.length : Int) := od_
                           obtain ⟨ad358, e358, hx358_0, hx358_1, hx358_2, hx358_3, hx358_4⟩ := at_T83 (Kd.R_reads' HO_11.out).2.2 x21_6 p358 q358
                           obtain rfl : ad357 = ad358 := (by injection e358)
                           replace p358 := eq_true p358
                           replace q358 := eq_true q358
                           have p359 : 0 ≤ (x21_6 : Int) := od_
                           have q359 : x21_6 < (t340.length : Int) := od_
                           obtain ⟨ad359, e359, hx359_0, hx359_1, hx359_2, hx359_3, hx359_4⟩ := at_T83 (Kd.R_reads' HO_11.out).2.2 x21_6 p359 q359
                           obtain rfl : ad357 = ad359 := (by injection e359)
                           replace p359 := eq_true p359
                           replace q359 := eq_true q359
                           go_wp2
                           repeat (go_quiet (fail); try go_wp2)
                           go_meet
                           case rel => exact ⟨_, (false), (by first | rfl | (simp; done) | (simp [*]; done)), H', ⟨by have := HJ9.out; have := HK2.out; have := HJ32.out; have := HK4.out; have := HJ46.out; have := HK6.out; first | omega | exact Nat.le_refl _⟩, ⟨by (with_reducible repeat (first | apply Kd.R_alloc | apply Kd.R_drewN | apply Kd.R_drew)); exact HO_11.out⟩, ⟨by (with_reducible repeat (first | apply Kd.S_alloc | apply Kd.S_drewN | apply Kd.S_drew)); exact HO_12.out⟩, ⟨bl_ HB.out⟩⟩
                        case rest =>
                         as_aux_lemma =>
                          clear HC51
                          try clear c1
                          try clear c2
                          try clear p2
                          try clear c3
                          try clear p3
                          try clear q3
                          try clear hx3
                          try clear c4
                          try clear c5
                          try clear p6
                          try clear c10
                          try clear c19
                          try clear c19b0
                          try clear c19b1
                          try clear c21
                          try clear c22
                          try clear c22b0
                          try clear c22b1
                          try clear c32
                          try clear c34
                          try clear c34b0
                          try clear c34b1
                          try clear c35
                          try clear p35
                          try clear q35
                          try clear hx35
                          try clear c36
                          try clear c36b0
                          try clear p36
                          try clear q36
                          try clear hx36
                          try clear c37
                          try clear c37b0
                          try clear c39
                          try clear c39b0
                          try clear c39b1
                          try clear c41
                          try clear c41b0
                          try clear c41b1
                          try clear c41b2
                          try clear c48
                          try clear c48b0
                          try clear c48b1
                          try clear c49
                          try clear c50
                          try clear c50b0
                          try clear c52
                          try clear c52b0
                          try clear c53
                          try clear c53b0
                          try clear c54
                          try clear c54b0
                          try clear c55
                          try clear c55b0
                          try clear c56
                          try clear c56b0
                          try clear c57
                          try clear c57b0
                          try clear c58
                          try clear c58b0
                          try clear hx353_0
                          try clear hx353_1
                          try clear hx353_2
                          try clear hx353_3
                          try clear hx353_4
                          try clear hx357_0
                          try clear hx357_1
                          try clear hx357_2
                          try clear hx357_3
                          try clear hx357_4
                          try clear hx358_0
                          try clear hx358_1
                          try clear hx358_2
                          try clear hx358_3
                          try clear hx358_4
                          try clear hx359_0
                          try clear hx359_1
                          try clear hx359_2
                          try clear hx359_3
                          try clear hx359_4
                          try clear hx360_0
                          try clear hx360_1
                          try clear hx360_2
                          try clear hx360_3
                          try clear hx360_4
                          try clear hx361_0
                          try clear hx361_1
                          try clear hx361_2
                          try clear hx361_3
                          try clear hx361_4
                          try clear hx362_0
                          try clear hx362_1
                          try clear hx362_2
                          try clear hx362_3
                          try clear hx362_4
                          try clear hx363_0
                          try clear hx363_1
                          try clear hx363_2
                          try clear hx363_3
                          try clear hx363_4
                          try clear hx364_0
                          try clear hx364_1
                          try clear hx364_2
                          try clear hx364_3
                          try clear hx364_4
                          try clear hx365_0
                          try clear hx365_1
                          try clear hx365_2
                          try clear hx365_3
                          try clear hx365_4
                          try clear hx366_0
                          try clear hx366_1
                          try clear hx366_2
                          try clear hx366_3
                          try clear hx366_4
                          try clear hx367_0
                          try clear hx367_1
                          try clear hx367_2
                          try clear hx367_3
                          try clear hx367_4
                          try clear hx368_0
                          try clear hx368_1
                          try clear hx368_2
                          try clear hx368_3
                          try clear hx368_4
                          try clear p2
                          try clear p3
                          try clear p35
                          try clear p353
                          try clear p357
                          try clear p358
                          try clear p359
                          try clear p360
                          try clear p361
                          try clear p362
                          try clear p363
                          try clear p364
                          try clear p365
                          try clear p366
                          try clear p367
                          try clear p368
                          try clear p6
                          try clear q3
                          try clear q35
                          try clear q353
                          try clear q357
                          try clear q358
                          try clear q359
                          try clear q360
                          try clear q361
                          try clear q362
                          try clear q363
                          try clear q364
                          try clear q365
                          try clear q366
                          try clear q367
                          try clear q368
                          obtain ⟨kq, x22_50, rfl, HA, HJ50, HO_11, HO_12, HB⟩ := hcut
                          cases kq with
                          | zero => exact absurd HA.out (by simp [laws_FnAreas.j6])
                          | succ kj50 =>
                           have H := HA.out
                           clear HA
                           simp only [laws_FnAreas.j6] at H
                           replace H := Option.bind_eq_some_iff.mp H
                           obtain ⟨t369, A590, H⟩ := H
                           replace H : (if (x22_50 != t369) = true then (some false) else (if x22_50 = true then (laws_FnAreas.l2 kj50 t340 t343 t344 (wrap64 (x19_6 + 1)) x20_4 (wrap64 (x21_6 + 1))) else (laws_FnAreas.l2 kj50 t340 t343 t344 x19_6 x20_4 (wrap64 (x21_6 + 1))))) = some r := H
                           have A59 := Aside0.mk A590
                           clear A590
                           by_cases c60 : (x22_50 != t369) = true
                           ·rw [if_pos c60] at H
                            have c60b0 : (x22_50 != t369) = true := c60
                            (try (have c60b1 : decide (x22_50 = t369) = false := by simpa using c60))
                            (try (have c60b2 : (x22_50 == t369) = false := by simpa using c60))
                            (try (have c60b3 : ¬ (x22_50 = t369) := by simpa using c60))
                            clear c60
                            exact absurd ((Option.some.inj H).trans hT) (by decide)
                           ·rw [if_neg c60] at H
                            have c60b0 : (x22_50 != t369) = false := by simpa using c60
                            (try (have c60b1 : decide (x22_50 = t369) = true := by simpa using c60))
                            (try (have c60b2 : (x22_50 == t369) = true := by simpa using c60))
                            clear c60
                            by_cases c62 : x22_50 = true
                            ·subst c62
                             have H1 : (laws_FnAreas.l2 kj50 t340 t343 t344 (wrap64 (x19_6 + 1)) x20_4 (wrap64 (x21_6 + 1))) = some r := by rw [if_pos rfl] at H; exact H
                             clear H
                             have H := H1
                             clear H1
                             have H' := Aside0.mk H
                             clear H
                             obtain ⟨Ao63, co63, eo63⟩ := Kd.S_slice HO_12.out
                             subst eo63
                             go_wp2_with (first | (go_at_call 83; (with_reducible refine (laws_hasRow.calls kj50 _ _ t343 x21_6 x20_4 t369 _ ?side1 ?side2 A59.out).mono ?_); (case side1 => repeat (first | exact (Kd.S_reads' HO_12.out).2.2 | (with_reducible refine Kd.C_alloc ?_ _) | (with_reducible refine Kd.C_drewN ?_ _) | (with_reducible refine Kd.C_drew ?_))); (case side2 => exact (Kd.S_reads' HO_12.out).2.1); rintro e w' ⟨rfl, ⟨nd, rfl⟩⟩; (try first | exact ⟨rfl, _, World.drewN_drewN _ _ _⟩ | exact ⟨rfl, _, Eq.trans (World.drewN_drewN _ _ _) (congrArg (World.drewN _) (Nat.add_assoc _ _ _))⟩)))
                             repeat (go_quiet (first | (go_at_call 83; (with_reducible refine (laws_hasRow.calls kj50 _ _ t343 x21_6 x20_4 t369 _ ?side1 ?side2 A59.out).mono ?_); (case side1 => repeat (first | exact (Kd.S_reads' HO_12.out).2.2 | (with_reducible refine Kd.C_alloc ?_ _) | (with_reducible refine Kd.C_drewN ?_ _) | (with_reducible refine Kd.C_drew ?_))); (case side2 => exact (Kd.S_reads' HO_12.out).2.1); rintro e w' ⟨rfl, ⟨nd, rfl⟩⟩; (try first | exact ⟨rfl, _, World.drewN_drewN _ _ _⟩ | exact ⟨rfl, _, Eq.trans (World.drewN_drewN _ _ _) (congrArg (World.drewN _) (Nat.add_assoc _ _ _))⟩))); try go_wp2_with (first | (go_at_call 83; (with_reducible refine (laws_hasRow.calls kj50 _ _ t343 x21_6 x20_4 t369 _ ?side1 ?side2 A59.out).mono ?_); (case side1 => repeat (first | exact (Kd.S_reads' HO_12.out).2.2 | (with_reducible refine Kd.C_alloc ?_ _) | (with_reducible refine Kd.C_drewN ?_ _) | (with_reducible refine Kd.C_drew ?_))); (case side2 => exact (Kd.S_reads' HO_12.out).2.1); rintro e w' ⟨rfl, ⟨nd, rfl⟩⟩; (try first | exact ⟨rfl, _, World.drewN_drewN _ _ _⟩ | exact ⟨rfl, _, Eq.trans (World.drewN_drewN _ _ _) (congrArg (World.drewN _) (Nat.add_assoc _ _ _))⟩))))
                             go_roundg kj50
                             case measure => have := HJ9.out; have := HK2.out; have := HJ32.out; have := HK4.out; have := HJ46.out; have := HK6.out; have := HJ50.out; omega
                             case rel => exact ⟨(wrap64 (x19_6 + 1)), (wrap64 (x21_6 + 1)), (by first | rfl | (simp; done) | (simp [*]; done)), (by first | rfl | (simp; done) | (simp [*]; done)), H', ⟨by have := HJ9.out; have := HK2.out; have := HJ32.out; have := HK4.out; have := HJ46.out; have := HK6.out; have := HJ50.out; omega⟩, ⟨by (with_reducible repeat (first | apply Kd.R_alloc | apply Kd.R_drewN | apply Kd.R_drew)); exact HO_11.out⟩, ⟨by (with_reducible repeat (first | apply Kd.S_alloc | apply Kd.S_drewN | apply Kd.S_drew)); exact HO_12.out⟩, ⟨bl_ HB.out⟩⟩
                            ·replace c62 := Bool.eq_false_iff.mpr c62
                             subst c62
                             have H1 : (laws_FnAreas.l2 kj50 t340 t343 t344 x19_6 x20_4 (wrap64 (x21_6 + 1))) = some r := by rw [if_neg (show ¬ (false = true) by decide)] at H; exact H
                             clear H
                             have H := H1
                             clear H1
                             have H' := Aside0.mk H
                             clear H
                             obtain ⟨Ao64, co64, eo64⟩ := Kd.S_slice HO_12.out
                             subst eo64
                             go_wp2_with (first | (go_at_call 83; (with_reducible refine (laws_hasRow.calls kj50 _ _ t343 x21_6 x20_4 t369 _ ?side1 ?side2 A59.out).mono ?_); (case side1 => repeat (first | exact (Kd.S_reads' HO_12.out).2.2 | (with_reducible refine Kd.C_alloc ?_ _) | (with_reducible refine Kd.C_drewN ?_ _) | (with_reducible refine Kd.C_drew ?_))); (case side2 => exact (Kd.S_reads' HO_12.out).2.1); rintro e w' ⟨rfl, ⟨nd, rfl⟩⟩; (try first | exact ⟨rfl, _, World.drewN_drewN _ _ _⟩ | exact ⟨rfl, _, Eq.trans (World.drewN_drewN _ _ _) (congrArg (World.drewN _) (Nat.add_assoc _ _ _))⟩)))
                             repeat (go_quiet (first | (go_at_call 83; (with_reducible refine (laws_hasRow.calls kj50 _ _ t343 x21_6 x20_4 t369 _ ?side1 ?side2 A59.out).mono ?_); (case side1 => repeat (first | exact (Kd.S_reads' HO_12.out).2.2 | (with_reducible refine Kd.C_alloc ?_ _) | (with_reducible refine Kd.C_drewN ?_ _) | (with_reducible refine Kd.C_drew ?_))); (case side2 => exact (Kd.S_reads' HO_12.out).2.1); rintro e w' ⟨rfl, ⟨nd, rfl⟩⟩; (try first | exact ⟨rfl, _, World.drewN_drewN _ _ _⟩ | exact ⟨rfl, _, Eq.trans (World.drewN_drewN _ _ _) (congrArg (World.drewN _) (Nat.add_assoc _ _ _))⟩))); try go_wp2_with (first | (go_at_call 83; (with_reducible refine (laws_hasRow.calls kj50 _ _ t343 x21_6 x20_4 t369 _ ?side1 ?side2 A59.out).mono ?_); (case side1 => repeat (first | exact (Kd.S_reads' HO_12.out).2.2 | (with_reducible refine Kd.C_alloc ?_ _) | (with_reducible refine Kd.C_drewN ?_ _) | (with_reducible refine Kd.C_drew ?_))); (case side2 => exact (Kd.S_reads' HO_12.out).2.1); rintro e w' ⟨rfl, ⟨nd, rfl⟩⟩; (try first | exact ⟨rfl, _, World.drewN_drewN _ _ _⟩ | exact ⟨rfl, _, Eq.trans (World.drewN_drewN _ _ _) (congrArg (World.drewN _) (Nat.add_assoc _ _ _))⟩))))
                             go_roundg kj50
                             case measure => have := HJ9.out; have := HK2.out; have := HJ32.out; have := HK4.out; have := HJ46.out; have := HK6.out; have := HJ50.out; omega
                             case rel => exact ⟨(x19_6), (wrap64 (x21_6 + 1)), (by first | rfl | (simp; done) | (simp [*]; done)), (by first | rfl | (simp; done) | (simp [*]; done)), H', ⟨by have := HJ9.out; have := HK2.out; have := HJ32.out; have := HK4.out; have := HJ46.out; have := HK6.out; have := HJ50.out; omega⟩, ⟨by (with_reducible repeat (first | apply Kd.R_alloc | apply Kd.R_drewN | apply Kd.R_drew)); exact HO_11.out⟩, ⟨by (with_reducible repeat (first | apply Kd.S_alloc | apply Kd.S_drewN | apply Kd.S_drew)); exact HO_12.out⟩, ⟨bl_ HB.out⟩⟩
                      ·rw [if_neg c50] at H
                       have c50b0 : decide (x21_6 < x20_4) = false := decide_eq_false c50
                       clear c50
                       have H' := Aside0.mk H
                       clear H
                       go_wp2
                       repeat (go_quiet (fail); try go_wp2)
                       go_roundg k6
                       case measure => have := HJ9.out; have := HK2.out; have := HJ32.out; have := HK4.out; have := HJ46.out; have := HK6.out; omega
                       case rel => exact ⟨(x19_6), (wrap64 (x20_4 + 1)), (by first | rfl | (simp; done) | (simp [*]; done)), (by first | rfl | (simp; done) | (simp [*]; done)), H', ⟨by have := HJ9.out; have := HK2.out; have := HJ32.out; have := HK4.out; have := HJ46.out; have := HK6.out; omega⟩, ⟨by (with_reducible repeat (first | apply Kd.R_alloc | apply Kd.R_drewN | apply Kd.R_drew)); exact HO_11.out⟩, ⟨by (with_reducible repeat (first | apply Kd.S_alloc | apply Kd.S_drewN | apply Kd.S_drew)); exact HO_12.out⟩, ⟨bl_ HB.out⟩⟩
                  ·replace c49 := Bool.eq_false_iff.mpr c49
                   subst c49
                   have H1 : (if t344 = 0 then (some (x19_4 == (t343.length : Int))) else (some true)) = some r := by rw [if_neg (show ¬ (false = true) by decide)] at H; exact H
                   clear H
                   have H := H1
                   clear H1
                   by_cases c65 : t344 = 0
                   ·rw [if_pos c65] at H
                    have c65b0 : (t344 == 0) = true := beq_iff_eq.mpr c65
                    have c65b1 : (t344 != 0) = false := bne_eq_false_iff_eq.mpr c65
                    clear c65
                    obtain rfl := Option.some.inj H
                    obtain ⟨Ao66, co66, eo66⟩ := Kd.S_slice HO_12.out
                    subst eo66
                    go_wp2
                    repeat (go_quiet (fail); try go_wp2)
                    go_ret
                    exact ⟨by first | rfl | (simp [errW_none, errW_some] <;> rfl) | (simp [*, errW_none, errW_some] <;> rfl), bl_ HB.out⟩
                   ·rw [if_neg c65] at H
                    have c65b0 : (t344 == 0) = false := beq_eq_false_iff_ne.mpr c65
                    have c65b1 : (t344 != 0) = true := bne_iff_ne.mpr c65
                    obtain rfl := Option.some.inj H
                    go_wp2
                    repeat (go_quiet (fail); try go_wp2)
                    go_ret
                    exact ⟨by first | rfl | (simp [errW_none, errW_some] <;> rfl) | (simp [*, errW_none, errW_some] <;> rfl), bl_ HB.out⟩
/-- THE ONE PURE STATEMENT of laws_FnAreas: yours. -/
def laws_FnAreas.Pure : Prop := ∀ (l0 : List Int), l0.length ≤ maxLen → l0.length * 1 ≤ 140737488351232 → (∀ x ∈ l0, (Lit.int .u8 x).wf = true) → ∃ k, laws_FnAreas.f k l0 = some true
theorem laws_FnAreas.walk (P : laws_FnAreas.Pure) (a0 : Option Addr) (len0 cap0 : Nat) (z0 : List Int) (w : World) (w0 : (a0 = none ∧ len0 = 0 ∧ cap0 = 0 ∧ z0 = []) ∨ ∃ x, a0 = some x ∧ len0 ≤ cap0 ∧ cap0 ≤ maxLen ∧ z0.length = cap0 ∧ (∀ i, i < z0.length → w.cell? (x.add i) = some (.int .u8 (z0.getD i 0))) ∧ ∀ n ∈ z0, (Lit.int .u8 n).wf = true) (y0 : len0 * 1 ≤ 140737488351232) :
  Calls Try.prog 10 #[.slice a0 len0 cap0] w fun e w' => e = .returned (.bool true) ∧ Below w.heap.size w w' := by
 obtain ⟨l0, rfl, hr0, hm0, hw0, hc0⟩ := ReadsInt.ofRowC w0
 obtain ⟨k, h⟩ := P l0 hm0 y0 hw0
 refine (laws_FnAreas.calls k _ _ l0 true w (Kd.C_of_reads (d := (0 : Int)) (h1 := fun _ => rfl) hr0) hc0 h rfl).mono ?_
 rintro e w' ⟨rfl, hd⟩
 exact ⟨rfl, hd⟩
end Go.Proofs.Ytedcdhnbceaaeaa.PFnAreas
