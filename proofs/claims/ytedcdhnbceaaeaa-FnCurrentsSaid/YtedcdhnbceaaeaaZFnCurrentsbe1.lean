/- QFnCurrentsh of the law FnCurrents: taken over, declaration by declaration, as far as the law leans on it (the words and the printed functions are the kit's own print). No condition but what each says. -/
import Derived.Test.YtedcdhnbceaaeaaZFnCurrentsav
import Derived.Test.YtedcdhnbceaaeaaZFnCurrentsaw
import Derived.Test.YtedcdhnbceaaeaaZFnCurrentsax
import Derived.Test.YtedcdhnbceaaeaaZFnCurrentsaz
import Derived.Test.YtedcdhnbceaaeaaZFnCurrentsba
import Derived.Test.YtedcdhnbceaaeaaZFnCurrentsbb
import Derived.Test.YtedcdhnbceaaeaaZFnCurrentsbc
import Derived.Test.YtedcdhnbceaaeaaZFnCurrentsbd
namespace Go.Proofs.Ytedcdhnbceaaeaa.PFnCurrents
open Go.RowKit Go.Proofs.YtedcdhnbceaaeaaW.PrintWords Go.Proofs.YtedcdhnbceaaeaaW.PrintLast Go.Proofs.YtedcdhnbceaaeaaW.PrintMore
attribute [local go_sem] max2_int min2_int max_two min_two max_three min_three max_four min_four   -- for this text's walks alone
set_option linter.unusedVariables false
set_option linter.unusedSimpArgs false
mutual
def laws_FnCurrents.j0 : Nat → List Int → Int → Int → Int → Int → Int → Int → Int → Int → Int → Int → Int → Bool → Int → List Int → Int → List Int → Int → List Int → Option (Bool)
 | 0, _, _, _, _, _, _, _, _, _, _, _, _, _, _, _, _, _, _, _ => none
 | k + 1, x0, x4, x5, x6, x16, x18, x21, x22, x23, x24, x26, x27, x160, x400000, x400001, x420000, x420001, x426000, x426001 => if x160 = true then (some false) else (if x18 = 0 then ((impl_ExpectedOf.f k x420000 x420001).bind fun bt441 => ((impl_ExpectedOf.f k x426000 x426001).bind fun bt443 => (if bt441.2 = 0 then (if bt443.2 = 0 then (laws_FnCurrents.j1 k x0 x4 x5 x6 x21 x22 x23 x24 x26 x27 (bt443.1 != (wrap64 (bt441.1 + x16))) x400000 x400001 x420000 x420001 x426000 x426001) else (laws_FnCurrents.j1 k x0 x4 x5 x6 x21 x22 x23 x24 x26 x27 true x400000 x400001 x420000 x420001 x426000 x426001)) else (laws_FnCurrents.j1 k x0 x4 x5 x6 x21 x22 x23 x24 x26 x27 true x400000 x400001 x420000 x420001 x426000 x426001)))) else (laws_FnCurrents.j2 k x4 x5 x6 x21 x22 x23 x24 x26 x27 x400000 x400001))
def laws_FnCurrents.j2 : Nat → Int → Int → Int → Int → Int → Int → Int → Int → Int → Int → List Int → Option (Bool)
 | 0, _, _, _, _, _, _, _, _, _, _, _ => none
 | k + 1, x4, x5, x6, x21, x22, x23, x24, x26, x27, x400000, x400001 => if x26 = 0 then (laws_FnCurrents.l0 k x4 x5 x6 x22 x23 x24 x27 0 x400000 x400001 x21 (([] : List Int))) else (laws_FnCurrents.j4 k x4 x5 x6 x400000 x400001)
def laws_FnCurrents.j4 : Nat → Int → Int → Int → Int → List Int → Option (Bool)
 | 0, _, _, _, _, _ => none
 | k + 1, x4, x5, x6, x400000, x400001 => if x6 = 0 then (laws_FnCurrents.j5 k x4 x5 (decide (x5 > 1000)) x400000 x400001) else (laws_FnCurrents.j5 k x4 x5 true x400000 x400001)
def laws_FnCurrents.j5 : Nat → Int → Int → Bool → Int → List Int → Option (Bool)
 | 0, _, _, _, _, _ => none
 | k + 1, x4, x5, x246, x400000, x400001 => if x246 = true then (some true) else ((impl_CurrentOf.f k x400000 x400001 x5).bind fun bt465 => (if bt465.2 = 0 then (laws_FnCurrents.j6 k x4 x5 (decide (bt465.1 < x4)) x400000 x400001) else (laws_FnCurrents.j6 k x4 x5 true x400000 x400001)))
def laws_FnCurrents.j6 : Nat → Int → Int → Bool → Int → List Int → Option (Bool)
 | 0, _, _, _, _, _ => none
 | k + 1, x4, x5, x259, x400000, x400001 => if x259 = true then (some false) else (if x5 = 0 then (some true) else ((impl_CurrentOf.f k x400000 x400001 (wrap64 (x5 - 1))).bind fun bt467 => (if bt467.2 = 0 then (some (decide (bt467.1 < x4))) else (some false))))
def laws_FnCurrents.l0 : Nat → Int → Int → Int → Int → Int → Int → Int → Int → Int → List Int → Int → List Int → Option (Bool)
 | 0, _, _, _, _, _, _, _, _, _, _, _, _ => none
 | k + 1, x4, x5, x6, x22, x23, x24, x27, x39, x400000, x400001, x460000, x460001 => if x39 < x27 then (if x460001.length < 17592186044416 then (laws_FnCurrents.l0 k x4 x5 x6 x22 x23 x24 x27 (wrap64 (x39 + 1)) x400000 x400001 x460000 (x460001 ++ [x22])) else (none)) else ((impl_CurrentOf.f k x460000 x460001 x23).bind fun bt463 => (if bt463.2 = 0 then (if bt463.1 < x24 then (some false) else (laws_FnCurrents.j4 k x4 x5 x6 x400000 x400001)) else (some false)))
def laws_FnCurrents.j1 : Nat → List Int → Int → Int → Int → Int → Int → Int → Int → Int → Int → Bool → Int → List Int → Int → List Int → Int → List Int → Option (Bool)
 | 0, _, _, _, _, _, _, _, _, _, _, _, _, _, _, _, _, _ => none
 | k + 1, x0, x4, x5, x6, x21, x22, x23, x24, x26, x27, x185, x400000, x400001, x420000, x420001, x426000, x426001 => if x185 = true then (some false) else ((laws_roll.f k x0 1401).bind fun bt445 => ((laws_dice_below.f bt445.1 bt445.2.1 bt445.2.2 1001).bind fun bt449 => ((impl_CurrentOf.f k x426000 x426001 bt449.1).bind fun bt452 => ((impl_CurrentOf.f k x420000 x420001 bt449.1).bind fun bt454 => (if bt452.2 = 0 then (if bt454.2 = 0 then (if bt452.1 > bt454.1 then (some false) else (laws_FnCurrents.j2 k x4 x5 x6 x21 x22 x23 x24 x26 x27 x400000 x400001)) else (some false)) else (some false))))))
end
def laws_FnCurrents.f (k : Nat) (l0 : List Int) : Option (Bool) := (laws_big.f l0).bind fun t393 => (if t393 = true then (some true) else ((spec_DrawVoltsFor.f k l0).bind fun bt394 => ((impl_VoltsFor.f k bt394.1 bt394.2.1 bt394.2.2).bind fun bt400 => ((spec_VoltsFor.f k bt394.1 bt394.2.1 bt394.2.2).bind fun bt402 => ((spec_DrawCurrentOf.f k l0).bind fun bt404 => ((impl_CurrentOf.f k bt404.1 bt404.2.1 bt404.2.2).bind fun bt410 => ((spec_CurrentOf.f k bt404.1 bt404.2.1 bt404.2.2).bind fun bt412 => ((spec_DrawAddIgniter.f k l0).bind fun bt414 => ((impl_AddIgniter.f k bt414.1 bt414.2.1 bt414.2.2).bind fun bt420 => ((spec_AddIgniter.f k bt414.1 bt414.2.1 bt414.2.2).bind fun bt426 => ((spec_DrawMostIgniters.f k l0).bind fun bt432 => ((impl_MostIgniters.f k bt432.1 bt432.2.1 bt432.2.2.1 bt432.2.2.2).bind fun bt436 => ((spec_MostIgniters.f k bt432.1 bt432.2.1 bt432.2.2.1 bt432.2.2.2).bind fun bt438 => (if bt400.2 = bt402.2 then (if bt400.1 = bt402.1 then (if bt410.2 = bt412.2 then (if bt410.1 = bt412.1 then (if bt420.2.2 = bt426.2.2 then ((laws_likeCircuit.f k bt420.1 bt420.2.1 bt426.1 bt426.2.1).bind fun t440 => (if t440 = true then (if bt436.2 = bt438.2 then (laws_FnCurrents.j0 k l0 bt394.2.2 bt400.1 bt400.2 bt414.2.2 bt420.2.2 bt432.1 bt432.2.1 bt432.2.2.1 bt432.2.2.2 bt436.2 bt438.1 (bt436.1 != bt438.1) bt394.1 bt394.2.1 bt414.1 bt414.2.1 bt420.1 bt420.2.1) else (laws_FnCurrents.j0 k l0 bt394.2.2 bt400.1 bt400.2 bt414.2.2 bt420.2.2 bt432.1 bt432.2.1 bt432.2.2.1 bt432.2.2.2 bt436.2 bt438.1 true bt394.1 bt394.2.1 bt414.1 bt414.2.1 bt420.1 bt420.2.1)) else (laws_FnCurrents.j0 k l0 bt394.2.2 bt400.1 bt400.2 bt414.2.2 bt420.2.2 bt432.1 bt432.2.1 bt432.2.2.1 bt432.2.2.2 bt436.2 bt438.1 true bt394.1 bt394.2.1 bt414.1 bt414.2.1 bt420.1 bt420.2.1))) else (laws_FnCurrents.j0 k l0 bt394.2.2 bt400.1 bt400.2 bt414.2.2 bt420.2.2 bt432.1 bt432.2.1 bt432.2.2.1 bt432.2.2.2 bt436.2 bt438.1 true bt394.1 bt394.2.1 bt414.1 bt414.2.1 bt420.1 bt420.2.1)) else (laws_FnCurrents.j0 k l0 bt394.2.2 bt400.1 bt400.2 bt414.2.2 bt420.2.2 bt432.1 bt432.2.1 bt432.2.2.1 bt432.2.2.2 bt436.2 bt438.1 true bt394.1 bt394.2.1 bt414.1 bt414.2.1 bt420.1 bt420.2.1)) else (laws_FnCurrents.j0 k l0 bt394.2.2 bt400.1 bt400.2 bt414.2.2 bt420.2.2 bt432.1 bt432.2.1 bt432.2.2.1 bt432.2.2.2 bt436.2 bt438.1 true bt394.1 bt394.2.1 bt414.1 bt414.2.1 bt420.1 bt420.2.1)) else (laws_FnCurrents.j0 k l0 bt394.2.2 bt400.1 bt400.2 bt414.2.2 bt420.2.2 bt432.1 bt432.2.1 bt432.2.2.1 bt432.2.2.2 bt436.2 bt438.1 true bt394.1 bt394.2.1 bt414.1 bt414.2.1 bt420.1 bt420.2.1)) else (laws_FnCurrents.j0 k l0 bt394.2.2 bt400.1 bt400.2 bt414.2.2 bt420.2.2 bt432.1 bt432.2.1 bt432.2.2.1 bt432.2.2.2 bt436.2 bt438.1 true bt394.1 bt394.2.1 bt414.1 bt414.2.1 bt420.1 bt420.2.1)))))))))))))))
theorem laws_FnCurrents.mono_l : ∀ k, (∀ y0 y1 y2 y3 y4 y5 y6 y7 y8 y9 y10 y11 y12 y13 y14 y15 y16 y17 y18, LeO (laws_FnCurrents.j0 k y0 y1 y2 y3 y4 y5 y6 y7 y8 y9 y10 y11 y12 y13 y14 y15 y16 y17 y18) (laws_FnCurrents.j0 (k + 1) y0 y1 y2 y3 y4 y5 y6 y7 y8 y9 y10 y11 y12 y13 y14 y15 y16 y17 y18)) ∧ (∀ y0 y1 y2 y3 y4 y5 y6 y7 y8 y9 y10, LeO (laws_FnCurrents.j2 k y0 y1 y2 y3 y4 y5 y6 y7 y8 y9 y10) (laws_FnCurrents.j2 (k + 1) y0 y1 y2 y3 y4 y5 y6 y7 y8 y9 y10)) ∧ (∀ y0 y1 y2 y3 y4, LeO (laws_FnCurrents.j4 k y0 y1 y2 y3 y4) (laws_FnCurrents.j4 (k + 1) y0 y1 y2 y3 y4)) ∧ (∀ y0 y1 y2 y3 y4, LeO (laws_FnCurrents.j5 k y0 y1 y2 y3 y4) (laws_FnCurrents.j5 (k + 1) y0 y1 y2 y3 y4)) ∧ (∀ y0 y1 y2 y3 y4, LeO (laws_FnCurrents.j6 k y0 y1 y2 y3 y4) (laws_FnCurrents.j6 (k + 1) y0 y1 y2 y3 y4)) ∧ (∀ y0 y1 y2 y3 y4 y5 y6 y7 y8 y9 y10 y11, LeO (laws_FnCurrents.l0 k y0 y1 y2 y3 y4 y5 y6 y7 y8 y9 y10 y11) (laws_FnCurrents.l0 (k + 1) y0 y1 y2 y3 y4 y5 y6 y7 y8 y9 y10 y11)) ∧ (∀ y0 y1 y2 y3 y4 y5 y6 y7 y8 y9 y10 y11 y12 y13 y14 y15 y16, LeO (laws_FnCurrents.j1 k y0 y1 y2 y3 y4 y5 y6 y7 y8 y9 y10 y11 y12 y13 y14 y15 y16) (laws_FnCurrents.j1 (k + 1) y0 y1 y2 y3 y4 y5 y6 y7 y8 y9 y10 y11 y12 y13 y14 y15 y16))
 | 0 => ⟨fun _ _ _ _ _ _ _ _ _ _ _ _ _ _ _ _ _ _ _ r h => by simp [laws_FnCurrents.j0] at h, fun _ _ _ _ _ _ _ _ _ _ _ r h => by simp [laws_FnCurrents.j2] at h, fun _ _ _ _ _ r h => by simp [laws_FnCurrents.j4] at h, fun _ _ _ _ _ r h => by simp [laws_FnCurrents.j5] at h, fun _ _ _ _ _ r h => by simp [laws_FnCurrents.j6] at h, fun _ _ _ _ _ _ _ _ _ _ _ _ r h => by simp [laws_FnCurrents.l0] at h, fun _ _ _ _ _ _ _ _ _ _ _ _ _ _ _ _ _ r h => by simp [laws_FnCurrents.j1] at h⟩
 | k + 1 => by
  obtain ⟨ih0, ih1, ih2, ih3, ih4, ih5, ih6⟩ := laws_FnCurrents.mono_l k
  refine ⟨?_, ?_, ?_, ?_, ?_, ?_, ?_⟩
  ·intro y0 y1 y2 y3 y4 y5 y6 y7 y8 y9 y10 y11 y12 y13 y14 y15 y16 y17 y18
   unfold laws_FnCurrents.j0
   repeat' first
   | (with_reducible exact ih0 _ _ _ _ _ _ _ _ _ _ _ _ _ _ _ _ _ _ _)
   | (with_reducible exact ih1 _ _ _ _ _ _ _ _ _ _ _)
   | (with_reducible exact ih2 _ _ _ _ _)
   | (with_reducible exact ih3 _ _ _ _ _)
   | (with_reducible exact ih4 _ _ _ _ _)
   | (with_reducible exact ih5 _ _ _ _ _ _ _ _ _ _ _ _)
   | (with_reducible exact ih6 _ _ _ _ _ _ _ _ _ _ _ _ _ _ _ _ _)
   | (with_reducible exact impl_AddIgniter.mono _ _ _ _)
   | (with_reducible exact impl_CurrentOf.mono _ _ _ _)
   | (with_reducible exact impl_ExpectedOf.mono _ _ _)
   | (with_reducible exact impl_MostIgniters.mono _ _ _ _ _)
   | (with_reducible exact impl_VoltsFor.mono _ _ _ _)
   | (with_reducible exact laws_likeCircuit.mono _ _ _ _ _)
   | (with_reducible exact laws_roll.mono _ _ _)
   | (with_reducible exact spec_AddIgniter.mono _ _ _ _)
   | (with_reducible exact spec_CurrentOf.mono _ _ _ _)
   | (with_reducible exact spec_DrawAddIgniter.mono _ _)
   | (with_reducible exact spec_DrawCurrentOf.mono _ _)
   | (with_reducible exact spec_DrawMostIgniters.mono _ _)
   | (with_reducible exact spec_DrawVoltsFor.mono _ _)
   | (with_reducible exact spec_MostIgniters.mono _ _ _ _ _)
   | (with_reducible exact spec_VoltsFor.mono _ _ _ _)
   | (with_reducible exact LeO.refl _)
   | (with_reducible exact LeO.none _)
   | (with_reducible refine LeO.ite ?_ ?_)
   | (with_reducible refine LeO.bind ?_ (fun _ => ?_))
   | exact ih0 _ _ _ _ _ _ _ _ _ _ _ _ _ _ _ _ _ _ _
   | exact ih1 _ _ _ _ _ _ _ _ _ _ _
   | exact ih2 _ _ _ _ _
   | exact ih3 _ _ _ _ _
   | exact ih4 _ _ _ _ _
   | exact ih5 _ _ _ _ _ _ _ _ _ _ _ _
   | exact ih6 _ _ _ _ _ _ _ _ _ _ _ _ _ _ _ _ _
   | exact impl_AddIgniter.mono _ _ _ _
   | exact impl_CurrentOf.mono _ _ _ _
   | exact impl_ExpectedOf.mono _ _ _
   | exact impl_MostIgniters.mono _ _ _ _ _
   | exact impl_VoltsFor.mono _ _ _ _
   | exact laws_likeCircuit.mono _ _ _ _ _
   | exact laws_roll.mono _ _ _
   | exact spec_AddIgniter.mono _ _ _ _
   | exact spec_CurrentOf.mono _ _ _ _
   | exact spec_DrawAddIgniter.mono _ _
   | exact spec_DrawCurrentOf.mono _ _
   | exact spec_DrawMostIgniters.mono _ _
   | exact spec_DrawVoltsFor.mono _ _
   | exact spec_MostIgniters.mono _ _ _ _ _
   | exact spec_VoltsFor.mono _ _ _ _
   | exact LeO.none _
   | refine LeO.ite ?_ ?_
   | refine LeO.bind ?_ (fun _ => ?_)
  ·intro y0 y1 y2 y3 y4 y5 y6 y7 y8 y9 y10
   unfold laws_FnCurrents.j2
   repeat' first
   | (with_reducible exact ih0 _ _ _ _ _ _ _ _ _ _ _ _ _ _ _ _ _ _ _)
   | (with_reducible exact ih1 _ _ _ _ _ _ _ _ _ _ _)
   | (with_reducible exact ih2 _ _ _ _ _)
   | (with_reducible exact ih3 _ _ _ _ _)
   | (with_reducible exact ih4 _ _ _ _ _)
   | (with_reducible exact ih5 _ _ _ _ _ _ _ _ _ _ _ _)
   | (with_reducible exact ih6 _ _ _ _ _ _ _ _ _ _ _ _ _ _ _ _ _)
   | (with_reducible exact impl_AddIgniter.mono _ _ _ _)
   | (with_reducible exact impl_CurrentOf.mono _ _ _ _)
   | (with_reducible exact impl_ExpectedOf.mono _ _ _)
   | (with_reducible exact impl_MostIgniters.mono _ _ _ _ _)
   | (with_reducible exact impl_VoltsFor.mono _ _ _ _)
   | (with_reducible exact laws_likeCircuit.mono _ _ _ _ _)
   | (with_reducible exact laws_roll.mono _ _ _)
   | (with_reducible exact spec_AddIgniter.mono _ _ _ _)
   | (with_reducible exact spec_CurrentOf.mono _ _ _ _)
   | (with_reducible exact spec_DrawAddIgniter.mono _ _)
   | (with_reducible exact spec_DrawCurrentOf.mono _ _)
   | (with_reducible exact spec_DrawMostIgniters.mono _ _)
   | (with_reducible exact spec_DrawVoltsFor.mono _ _)
   | (with_reducible exact spec_MostIgniters.mono _ _ _ _ _)
   | (with_reducible exact spec_VoltsFor.mono _ _ _ _)
   | (with_reducible exact LeO.refl _)
   | (with_reducible exact LeO.none _)
   | (with_reducible refine LeO.ite ?_ ?_)
   | (with_reducible refine LeO.bind ?_ (fun _ => ?_))
   | exact ih0 _ _ _ _ _ _ _ _ _ _ _ _ _ _ _ _ _ _ _
   | exact ih1 _ _ _ _ _ _ _ _ _ _ _
   | exact ih2 _ _ _ _ _
   | exact ih3 _ _ _ _ _
   | exact ih4 _ _ _ _ _
   | exact ih5 _ _ _ _ _ _ _ _ _ _ _ _
   | exact ih6 _ _ _ _ _ _ _ _ _ _ _ _ _ _ _ _ _
   | exact impl_AddIgniter.mono _ _ _ _
   | exact impl_CurrentOf.mono _ _ _ _
   | exact impl_ExpectedOf.mono _ _ _
   | exact impl_MostIgniters.mono _ _ _ _ _
   | exact impl_VoltsFor.mono _ _ _ _
   | exact laws_likeCircuit.mono _ _ _ _ _
   | exact laws_roll.mono _ _ _
   | exact spec_AddIgniter.mono _ _ _ _
   | exact spec_CurrentOf.mono _ _ _ _
   | exact spec_DrawAddIgniter.mono _ _
   | exact spec_DrawCurrentOf.mono _ _
   | exact spec_DrawMostIgniters.mono _ _
   | exact spec_DrawVoltsFor.mono _ _
   | exact spec_MostIgniters.mono _ _ _ _ _
   | exact spec_VoltsFor.mono _ _ _ _
   | exact LeO.none _
   | refine LeO.ite ?_ ?_
   | refine LeO.bind ?_ (fun _ => ?_)
  ·intro y0 y1 y2 y3 y4
   unfold laws_FnCurrents.j4
   repeat' first
   | (with_reducible exact ih0 _ _ _ _ _ _ _ _ _ _ _ _ _ _ _ _ _ _ _)
   | (with_reducible exact ih1 _ _ _ _ _ _ _ _ _ _ _)
   | (with_reducible exact ih2 _ _ _ _ _)
   | (with_reducible exact ih3 _ _ _ _ _)
   | (with_reducible exact ih4 _ _ _ _ _)
   | (with_reducible exact ih5 _ _ _ _ _ _ _ _ _ _ _ _)
   | (with_reducible exact ih6 _ _ _ _ _ _ _ _ _ _ _ _ _ _ _ _ _)
   | (with_reducible exact impl_AddIgniter.mono _ _ _ _)
   | (with_reducible exact impl_CurrentOf.mono _ _ _ _)
   | (with_reducible exact impl_ExpectedOf.mono _ _ _)
   | (with_reducible exact impl_MostIgniters.mono _ _ _ _ _)
   | (with_reducible exact impl_VoltsFor.mono _ _ _ _)
   | (with_reducible exact laws_likeCircuit.mono _ _ _ _ _)
   | (with_reducible exact laws_roll.mono _ _ _)
   | (with_reducible exact spec_AddIgniter.mono _ _ _ _)
   | (with_reducible exact spec_CurrentOf.mono _ _ _ _)
   | (with_reducible exact spec_DrawAddIgniter.mono _ _)
   | (with_reducible exact spec_DrawCurrentOf.mono _ _)
   | (with_reducible exact spec_DrawMostIgniters.mono _ _)
   | (with_reducible exact spec_DrawVoltsFor.mono _ _)
   | (with_reducible exact spec_MostIgniters.mono _ _ _ _ _)
   | (with_reducible exact spec_VoltsFor.mono _ _ _ _)
   | (with_reducible exact LeO.refl _)
   | (with_reducible exact LeO.none _)
   | (with_reducible refine LeO.ite ?_ ?_)
   | (with_reducible refine LeO.bind ?_ (fun _ => ?_))
   | exact ih0 _ _ _ _ _ _ _ _ _ _ _ _ _ _ _ _ _ _ _
   | exact ih1 _ _ _ _ _ _ _ _ _ _ _
   | exact ih2 _ _ _ _ _
   | exact ih3 _ _ _ _ _
   | exact ih4 _ _ _ _ _
   | exact ih5 _ _ _ _ _ _ _ _ _ _ _ _
   | exact ih6 _ _ _ _ _ _ _ _ _ _ _ _ _ _ _ _ _
   | exact impl_AddIgniter.mono _ _ _ _
   | exact impl_CurrentOf.mono _ _ _ _
   | exact impl_ExpectedOf.mono _ _ _
   | exact impl_MostIgniters.mono _ _ _ _ _
   | exact impl_VoltsFor.mono _ _ _ _
   | exact laws_likeCircuit.mono _ _ _ _ _
   | exact laws_roll.mono _ _ _
   | exact spec_AddIgniter.mono _ _ _ _
   | exact spec_CurrentOf.mono _ _ _ _
   | exact spec_DrawAddIgniter.mono _ _
   | exact spec_DrawCurrentOf.mono _ _
   | exact spec_DrawMostIgniters.mono _ _
   | exact spec_DrawVoltsFor.mono _ _
   | exact spec_MostIgniters.mono _ _ _ _ _
   | exact spec_VoltsFor.mono _ _ _ _
   | exact LeO.none _
   | refine LeO.ite ?_ ?_
   | refine LeO.bind ?_ (fun _ => ?_)
  ·intro y0 y1 y2 y3 y4
   unfold laws_FnCurrents.j5
   repeat' first
   | (with_reducible exact ih0 _ _ _ _ _ _ _ _ _ _ _ _ _ _ _ _ _ _ _)
   | (with_reducible exact ih1 _ _ _ _ _ _ _ _ _ _ _)
   | (with_reducible exact ih2 _ _ _ _ _)
   | (with_reducible exact ih3 _ _ _ _ _)
   | (with_reducible exact ih4 _ _ _ _ _)
   | (with_reducible exact ih5 _ _ _ _ _ _ _ _ _ _ _ _)
   | (with_reducible exact ih6 _ _ _ _ _ _ _ _ _ _ _ _ _ _ _ _ _)
   | (with_reducible exact impl_AddIgniter.mono _ _ _ _)
   | (with_reducible exact impl_CurrentOf.mono _ _ _ _)
   | (with_reducible exact impl_ExpectedOf.mono _ _ _)
   | (with_reducible exact impl_MostIgniters.mono _ _ _ _ _)
   | (with_reducible exact impl_VoltsFor.mono _ _ _ _)
   | (with_reducible exact laws_likeCircuit.mono _ _ _ _ _)
   | (with_reducible exact laws_roll.mono _ _ _)
   | (with_reducible exact spec_AddIgniter.mono _ _ _ _)
   | (with_reducible exact spec_CurrentOf.mono _ _ _ _)
   | (with_reducible exact spec_DrawAddIgniter.mono _ _)
   | (with_reducible exact spec_DrawCurrentOf.mono _ _)
   | (with_reducible exact spec_DrawMostIgniters.mono _ _)
   | (with_reducible exact spec_DrawVoltsFor.mono _ _)
   | (with_reducible exact spec_MostIgniters.mono _ _ _ _ _)
   | (with_reducible exact spec_VoltsFor.mono _ _ _ _)
   | (with_reducible exact LeO.refl _)
   | (with_reducible exact LeO.none _)
   | (with_reducible refine LeO.ite ?_ ?_)
   | (with_reducible refine LeO.bind ?_ (fun _ => ?_))
   | exact ih0 _ _ _ _ _ _ _ _ _ _ _ _ _ _ _ _ _ _ _
   | exact ih1 _ _ _ _ _ _ _ _ _ _ _
   | exact ih2 _ _ _ _ _
   | exact ih3 _ _ _ _ _
   | exact ih4 _ _ _ _ _
   | exact ih5 _ _ _ _ _ _ _ _ _ _ _ _
   | exact ih6 _ _ _ _ _ _ _ _ _ _ _ _ _ _ _ _ _
   | exact impl_AddIgniter.mono _ _ _ _
   | exact impl_CurrentOf.mono _ _ _ _
   | exact impl_ExpectedOf.mono _ _ _
   | exact impl_MostIgniters.mono _ _ _ _ _
   | exact impl_VoltsFor.mono _ _ _ _
   | exact laws_likeCircuit.mono _ _ _ _ _
   | exact laws_roll.mono _ _ _
   | exact spec_AddIgniter.mono _ _ _ _
   | exact spec_CurrentOf.mono _ _ _ _
   | exact spec_DrawAddIgniter.mono _ _
   | exact spec_DrawCurrentOf.mono _ _
   | exact spec_DrawMostIgniters.mono _ _
   | exact spec_DrawVoltsFor.mono _ _
   | exact spec_MostIgniters.mono _ _ _ _ _
   | exact spec_VoltsFor.mono _ _ _ _
   | exact LeO.none _
   | refine LeO.ite ?_ ?_
   | refine LeO.bind ?_ (fun _ => ?_)
  ·intro y0 y1 y2 y3 y4
   unfold laws_FnCurrents.j6
   repeat' first
   | (with_reducible exact ih0 _ _ _ _ _ _ _ _ _ _ _ _ _ _ _ _ _ _ _)
   | (with_reducible exact ih1 _ _ _ _ _ _ _ _ _ _ _)
   | (with_reducible exact ih2 _ _ _ _ _)
   | (with_reducible exact ih3 _ _ _ _ _)
   | (with_reducible exact ih4 _ _ _ _ _)
   | (with_reducible exact ih5 _ _ _ _ _ _ _ _ _ _ _ _)
   | (with_reducible exact ih6 _ _ _ _ _ _ _ _ _ _ _ _ _ _ _ _ _)
   | (with_reducible exact impl_AddIgniter.mono _ _ _ _)
   | (with_reducible exact impl_CurrentOf.mono _ _ _ _)
   | (with_reducible exact impl_ExpectedOf.mono _ _ _)
   | (with_reducible exact impl_MostIgniters.mono _ _ _ _ _)
   | (with_reducible exact impl_VoltsFor.mono _ _ _ _)
   | (with_reducible exact laws_likeCircuit.mono _ _ _ _ _)
   | (with_reducible exact laws_roll.mono _ _ _)
   | (with_reducible exact spec_AddIgniter.mono _ _ _ _)
   | (with_reducible exact spec_CurrentOf.mono _ _ _ _)
   | (with_reducible exact spec_DrawAddIgniter.mono _ _)
   | (with_reducible exact spec_DrawCurrentOf.mono _ _)
   | (with_reducible exact spec_DrawMostIgniters.mono _ _)
   | (with_reducible exact spec_DrawVoltsFor.mono _ _)
   | (with_reducible exact spec_MostIgniters.mono _ _ _ _ _)
   | (with_reducible exact spec_VoltsFor.mono _ _ _ _)
   | (with_reducible exact LeO.refl _)
   | (with_reducible exact LeO.none _)
   | (with_reducible refine LeO.ite ?_ ?_)
   | (with_reducible refine LeO.bind ?_ (fun _ => ?_))
   | exact ih0 _ _ _ _ _ _ _ _ _ _ _ _ _ _ _ _ _ _ _
   | exact ih1 _ _ _ _ _ _ _ _ _ _ _
   | exact ih2 _ _ _ _ _
   | exact ih3 _ _ _ _ _
   | exact ih4 _ _ _ _ _
   | exact ih5 _ _ _ _ _ _ _ _ _ _ _ _
   | exact ih6 _ _ _ _ _ _ _ _ _ _ _ _ _ _ _ _ _
   | exact impl_AddIgniter.mono _ _ _ _
   | exact impl_CurrentOf.mono _ _ _ _
   | exact impl_ExpectedOf.mono _ _ _
   | exact impl_MostIgniters.mono _ _ _ _ _
   | exact impl_VoltsFor.mono _ _ _ _
   | exact laws_likeCircuit.mono _ _ _ _ _
   | exact laws_roll.mono _ _ _
   | exact spec_AddIgniter.mono _ _ _ _
   | exact spec_CurrentOf.mono _ _ _ _
   | exact spec_DrawAddIgniter.mono _ _
   | exact spec_DrawCurrentOf.mono _ _
   | exact spec_DrawMostIgniters.mono _ _
   | exact spec_DrawVoltsFor.mono _ _
   | exact spec_MostIgniters.mono _ _ _ _ _
   | exact spec_VoltsFor.mono _ _ _ _
   | exact LeO.none _
   | refine LeO.ite ?_ ?_
   | refine LeO.bind ?_ (fun _ => ?_)
  ·intro y0 y1 y2 y3 y4 y5 y6 y7 y8 y9 y10 y11
   unfold laws_FnCurrents.l0
   repeat' first
   | (with_reducible exact ih0 _ _ _ _ _ _ _ _ _ _ _ _ _ _ _ _ _ _ _)
   | (with_reducible exact ih1 _ _ _ _ _ _ _ _ _ _ _)
   | (with_reducible exact ih2 _ _ _ _ _)
   | (with_reducible exact ih3 _ _ _ _ _)
   | (with_reducible exact ih4 _ _ _ _ _)
   | (with_reducible exact ih5 _ _ _ _ _ _ _ _ _ _ _ _)
   | (with_reducible exact ih6 _ _ _ _ _ _ _ _ _ _ _ _ _ _ _ _ _)
   | (with_reducible exact impl_AddIgniter.mono _ _ _ _)
   | (with_reducible exact impl_CurrentOf.mono _ _ _ _)
   | (with_reducible exact impl_ExpectedOf.mono _ _ _)
   | (with_reducible exact impl_MostIgniters.mono _ _ _ _ _)
   | (with_reducible exact impl_VoltsFor.mono _ _ _ _)
   | (with_reducible exact laws_likeCircuit.mono _ _ _ _ _)
   | (with_reducible exact laws_roll.mono _ _ _)
   | (with_reducible exact spec_AddIgniter.mono _ _ _ _)
   | (with_reducible exact spec_CurrentOf.mono _ _ _ _)
   | (with_reducible exact spec_DrawAddIgniter.mono _ _)
   | (with_reducible exact spec_DrawCurrentOf.mono _ _)
   | (with_reducible exact spec_DrawMostIgniters.mono _ _)
   | (with_reducible exact spec_DrawVoltsFor.mono _ _)
   | (with_reducible exact spec_MostIgniters.mono _ _ _ _ _)
   | (with_reducible exact spec_VoltsFor.mono _ _ _ _)
   | (with_reducible exact LeO.refl _)
   | (with_reducible exact LeO.none _)
   | (with_reducible refine LeO.ite ?_ ?_)
   | (with_reducible refine LeO.bind ?_ (fun _ => ?_))
   | exact ih0 _ _ _ _ _ _ _ _ _ _ _ _ _ _ _ _ _ _ _
   | exact ih1 _ _ _ _ _ _ _ _ _ _ _
   | exact ih2 _ _ _ _ _
   | exact ih3 _ _ _ _ _
   | exact ih4 _ _ _ _ _
   | exact ih5 _ _ _ _ _ _ _ _ _ _ _ _
   | exact ih6 _ _ _ _ _ _ _ _ _ _ _ _ _ _ _ _ _
   | exact impl_AddIgniter.mono _ _ _ _
   | exact impl_CurrentOf.mono _ _ _ _
   | exact impl_ExpectedOf.mono _ _ _
   | exact impl_MostIgniters.mono _ _ _ _ _
   | exact impl_VoltsFor.mono _ _ _ _
   | exact laws_likeCircuit.mono _ _ _ _ _
   | exact laws_roll.mono _ _ _
   | exact spec_AddIgniter.mono _ _ _ _
   | exact spec_CurrentOf.mono _ _ _ _
   | exact spec_DrawAddIgniter.mono _ _
   | exact spec_DrawCurrentOf.mono _ _
   | exact spec_DrawMostIgniters.mono _ _
   | exact spec_DrawVoltsFor.mono _ _
   | exact spec_MostIgniters.mono _ _ _ _ _
   | exact spec_VoltsFor.mono _ _ _ _
   | exact LeO.none _
   | refine LeO.ite ?_ ?_
   | refine LeO.bind ?_ (fun _ => ?_)
  ·intro y0 y1 y2 y3 y4 y5 y6 y7 y8 y9 y10 y11 y12 y13 y14 y15 y16
   unfold laws_FnCurrents.j1
   repeat' first
   | (with_reducible exact ih0 _ _ _ _ _ _ _ _ _ _ _ _ _ _ _ _ _ _ _)
   | (with_reducible exact ih1 _ _ _ _ _ _ _ _ _ _ _)
   | (with_reducible exact ih2 _ _ _ _ _)
   | (with_reducible exact ih3 _ _ _ _ _)
   | (with_reducible exact ih4 _ _ _ _ _)
   | (with_reducible exact ih5 _ _ _ _ _ _ _ _ _ _ _ _)
   | (with_reducible exact ih6 _ _ _ _ _ _ _ _ _ _ _ _ _ _ _ _ _)
   | (with_reducible exact impl_AddIgniter.mono _ _ _ _)
   | (with_reducible exact impl_CurrentOf.mono _ _ _ _)
   | (with_reducible exact impl_ExpectedOf.mono _ _ _)
   | (with_reducible exact impl_MostIgniters.mono _ _ _ _ _)
   | (with_reducible exact impl_VoltsFor.mono _ _ _ _)
   | (with_reducible exact laws_likeCircuit.mono _ _ _ _ _)
   | (with_reducible exact laws_roll.mono _ _ _)
   | (with_reducible exact spec_AddIgniter.mono _ _ _ _)
   | (with_reducible exact spec_CurrentOf.mono _ _ _ _)
   | (with_reducible exact spec_DrawAddIgniter.mono _ _)
   | (with_reducible exact spec_DrawCurrentOf.mono _ _)
   | (with_reducible exact spec_DrawMostIgniters.mono _ _)
   | (with_reducible exact spec_DrawVoltsFor.mono _ _)
   | (with_reducible exact spec_MostIgniters.mono _ _ _ _ _)
   | (with_reducible exact spec_VoltsFor.mono _ _ _ _)
   | (with_reducible exact LeO.refl _)
   | (with_reducible exact LeO.none _)
   | (with_reducible refine LeO.ite ?_ ?_)
   | (with_reducible refine LeO.bind ?_ (fun _ => ?_))
   | exact ih0 _ _ _ _ _ _ _ _ _ _ _ _ _ _ _ _ _ _ _
   | exact ih1 _ _ _ _ _ _ _ _ _ _ _
   | exact ih2 _ _ _ _ _
   | exact ih3 _ _ _ _ _
   | exact ih4 _ _ _ _ _
   | exact ih5 _ _ _ _ _ _ _ _ _ _ _ _
   | exact ih6 _ _ _ _ _ _ _ _ _ _ _ _ _ _ _ _ _
   | exact impl_AddIgniter.mono _ _ _ _
   | exact impl_CurrentOf.mono _ _ _ _
   | exact impl_ExpectedOf.mono _ _ _
   | exact impl_MostIgniters.mono _ _ _ _ _
   | exact impl_VoltsFor.mono _ _ _ _
   | exact laws_likeCircuit.mono _ _ _ _ _
   | exact laws_roll.mono _ _ _
   | exact spec_AddIgniter.mono _ _ _ _
   | exact spec_CurrentOf.mono _ _ _ _
   | exact spec_DrawAddIgniter.mono _ _
   | exact spec_DrawCurrentOf.mono _ _
   | exact spec_DrawMostIgniters.mono _ _
   | exact spec_DrawVoltsFor.mono _ _
   | exact spec_MostIgniters.mono _ _ _ _ _
   | exact spec_VoltsFor.mono _ _ _ _
   | exact LeO.none _
   | refine LeO.ite ?_ ?_
   | refine LeO.bind ?_ (fun _ => ?_)
theorem laws_FnCurrents.mono : ∀ a0 k, LeO (laws_FnCurrents.f k a0) (laws_FnCurrents.f (k + 1) a0) := by
 intro a0 k
 obtain ⟨ih0, ih1, ih2, ih3, ih4, ih5, ih6⟩ := laws_FnCurrents.mono_l k
 unfold laws_FnCurrents.f
 repeat' first
   | (with_reducible exact ih0 _ _ _ _ _ _ _ _ _ _ _ _ _ _ _ _ _ _ _)
   | (with_reducible exact ih1 _ _ _ _ _ _ _ _ _ _ _)
   | (with_reducible exact ih2 _ _ _ _ _)
   | (with_reducible exact ih3 _ _ _ _ _)
   | (with_reducible exact ih4 _ _ _ _ _)
   | (with_reducible exact ih5 _ _ _ _ _ _ _ _ _ _ _ _)
   | (with_reducible exact ih6 _ _ _ _ _ _ _ _ _ _ _ _ _ _ _ _ _)
   | (with_reducible exact impl_AddIgniter.mono _ _ _ _)
   | (with_reducible exact impl_CurrentOf.mono _ _ _ _)
   | (with_reducible exact impl_ExpectedOf.mono _ _ _)
   | (with_reducible exact impl_MostIgniters.mono _ _ _ _ _)
   | (with_reducible exact impl_VoltsFor.mono _ _ _ _)
   | (with_reducible exact laws_likeCircuit.mono _ _ _ _ _)
   | (with_reducible exact laws_roll.mono _ _ _)
   | (with_reducible exact spec_AddIgniter.mono _ _ _ _)
   | (with_reducible exact spec_CurrentOf.mono _ _ _ _)
   | (with_reducible exact spec_DrawAddIgniter.mono _ _)
   | (with_reducible exact spec_DrawCurrentOf.mono _ _)
   | (with_reducible exact spec_DrawMostIgniters.mono _ _)
   | (with_reducible exact spec_DrawVoltsFor.mono _ _)
   | (with_reducible exact spec_MostIgniters.mono _ _ _ _ _)
   | (with_reducible exact spec_VoltsFor.mono _ _ _ _)
   | (with_reducible exact LeO.refl _)
   | (with_reducible exact LeO.none _)
   | (with_reducible refine LeO.ite ?_ ?_)
   | (with_reducible refine LeO.bind ?_ (fun _ => ?_))
   | exact ih0 _ _ _ _ _ _ _ _ _ _ _ _ _ _ _ _ _ _ _
   | exact ih1 _ _ _ _ _ _ _ _ _ _ _
   | exact ih2 _ _ _ _ _
   | exact ih3 _ _ _ _ _
   | exact ih4 _ _ _ _ _
   | exact ih5 _ _ _ _ _ _ _ _ _ _ _ _
   | exact ih6 _ _ _ _ _ _ _ _ _ _ _ _ _ _ _ _ _
   | exact impl_AddIgniter.mono _ _ _ _
   | exact impl_CurrentOf.mono _ _ _ _
   | exact impl_ExpectedOf.mono _ _ _
   | exact impl_MostIgniters.mono _ _ _ _ _
   | exact impl_VoltsFor.mono _ _ _ _
   | exact laws_likeCircuit.mono _ _ _ _ _
   | exact laws_roll.mono _ _ _
   | exact spec_AddIgniter.mono _ _ _ _
   | exact spec_CurrentOf.mono _ _ _ _
   | exact spec_DrawAddIgniter.mono _ _
   | exact spec_DrawCurrentOf.mono _ _
   | exact spec_DrawMostIgniters.mono _ _
   | exact spec_DrawVoltsFor.mono _ _
   | exact spec_MostIgniters.mono _ _ _ _ _
   | exact spec_VoltsFor.mono _ _ _ _
   | exact LeO.none _
   | refine LeO.ite ?_ ?_
   | refine LeO.bind ?_ (fun _ => ?_)
theorem laws_FnCurrents.j0_true {k : Nat} {a0} {a1} {a2} {a3} {a4} {a5} {a6} {a7} {a8} {a9} {a10} {a11} {a13} {a14} {a15} {a16} {a17} {a18} {r : Bool} (h : laws_FnCurrents.j0 k a0 a1 a2 a3 a4 a5 a6 a7 a8 a9 a10 a11 true a13 a14 a15 a16 a17 a18 = some r) : false = r := by
 cases k with
 | zero => simp [laws_FnCurrents.j0] at h
 | succ k => simpa [laws_FnCurrents.j0] using h
theorem laws_FnCurrents.j6_true {k : Nat} {a0} {a1} {a3} {a4} {r : Bool} (h : laws_FnCurrents.j6 k a0 a1 true a3 a4 = some r) : false = r := by
 cases k with
 | zero => simp [laws_FnCurrents.j6] at h
 | succ k => simpa [laws_FnCurrents.j6] using h
theorem laws_FnCurrents.j1_true {k : Nat} {a0} {a1} {a2} {a3} {a4} {a5} {a6} {a7} {a8} {a9} {a11} {a12} {a13} {a14} {a15} {a16} {r : Bool} (h : laws_FnCurrents.j1 k a0 a1 a2 a3 a4 a5 a6 a7 a8 a9 true a11 a12 a13 a14 a15 a16 = some r) : false = r := by
 cases k with
 | zero => simp [laws_FnCurrents.j1] at h
 | succ k => simpa [laws_FnCurrents.j1] using h
end Go.Proofs.Ytedcdhnbceaaeaa.PFnCurrents
